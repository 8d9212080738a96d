/- The table of types, the kinds of elements; printed by a program of the claim. -/
import Derived.Test.YtnaajldlloglkaaProg
import Derived.Test.YtnaajldlloglkaaTabFn
set_option linter.unusedVariables false
set_option linter.unusedSimpArgs false
namespace Go.Proofs.Ytnaajldlloglkaa.W
open Go.H Go.Proofs
def tab : Tab := [(3, ⟨.int .i64, 1, 8, [.int .i64 0]⟩),
  (4, ⟨.bool, 1, 1, [.bool false]⟩),
  (22, ⟨.slice 45, 1, 24, [.slice none 0 0]⟩),
  (24, ⟨.struct [(0, 1), (1, 1), (2, 1)], 3, 40, [.int .i64 0, .int .i64 0, .slice none 0 0]⟩),
  (25, ⟨.slice 35, 1, 24, [.slice none 0 0]⟩),
  (27, ⟨.struct [(0, 3), (3, 1)], 4, 64, [.int .i64 0, .int .i64 0, .slice none 0 0, .slice none 0 0]⟩),
  (30, ⟨.slice 33, 1, 24, [.slice none 0 0]⟩),
  (31, ⟨.slice 4, 1, 24, [.slice none 0 0]⟩),
  (33, ⟨.struct [(0, 1), (1, 1)], 2, 16, [.int .i64 0, .int .i64 0]⟩),
  (35, ⟨.struct [(0, 1), (1, 1), (2, 1), (3, 2)], 5, 40, [.int .i64 0, .int .i64 0, .int .i64 0, .int .i64 0, .int .i64 0]⟩),
  (36, ⟨.int .i64, 1, 8, [.int .i64 0]⟩),
  (45, ⟨.struct [(0, 1), (1, 1), (2, 1), (3, 1), (4, 1)], 5, 40, [.int .i64 0, .int .i64 0, .int .i64 0, .int .i64 0, .int .i64 0]⟩),
  (84, ⟨.int .u64, 1, 8, [.int .u64 0]⟩),
  (106, ⟨.slice 3, 1, 24, [.slice none 0 0]⟩)]
theorem tabOk : TabOk Try.prog tab :=
  ⟨.mk' _ _ _ _ (by kernel_rfl) Try.underlying3 rfl rfl (fun h => by first | rfl | cases h) (by decide) rfl,
   .mk' _ _ _ _ (by kernel_rfl) Try.underlying4 rfl rfl (fun h => by first | rfl | cases h) (by decide) rfl,
   .mk' _ _ _ _ (by kernel_rfl) Try.underlying22 rfl rfl (fun h => by first | rfl | cases h) (by decide) rfl,
   .mk' _ _ _ _ (by kernel_rfl) Try.underlying24 ⟨_, rfl, by kernel_rfl, rfl⟩ rfl (fun h => by first | rfl | cases h) (by decide) rfl,
   .mk' _ _ _ _ (by kernel_rfl) Try.underlying25 rfl rfl (fun h => by first | rfl | cases h) (by decide) rfl,
   .mk' _ _ _ _ (by kernel_rfl) Try.underlying27 ⟨_, rfl, by kernel_rfl, rfl⟩ rfl (fun h => by first | rfl | cases h) (by decide) rfl,
   .mk' _ _ _ _ (by kernel_rfl) Try.underlying30 rfl rfl (fun h => by first | rfl | cases h) (by decide) rfl,
   .mk' _ _ _ _ (by kernel_rfl) Try.underlying31 rfl rfl (fun h => by first | rfl | cases h) (by decide) rfl,
   .mk' _ _ _ _ (by kernel_rfl) Try.underlying33 ⟨_, rfl, by kernel_rfl, rfl⟩ rfl (fun h => by first | rfl | cases h) (by decide) rfl,
   .mk' _ _ _ _ (by kernel_rfl) Try.underlying35 ⟨_, rfl, by kernel_rfl, rfl⟩ rfl (fun h => by first | rfl | cases h) (by decide) rfl,
   .mk' _ _ _ _ (by kernel_rfl) Try.underlying36 rfl rfl (fun h => by first | rfl | cases h) (by decide) rfl,
   .mk' _ _ _ _ (by kernel_rfl) Try.underlying45 ⟨_, rfl, by kernel_rfl, rfl⟩ rfl (fun h => by first | rfl | cases h) (by decide) rfl,
   .mk' _ _ _ _ (by kernel_rfl) Try.underlying84 rfl rfl (fun h => by first | rfl | cases h) (by decide) rfl,
   .mk' _ _ _ _ (by kernel_rfl) Try.underlying106 rfl rfl (fun h => by first | rfl | cases h) (by decide) rfl, trivial⟩
theorem mixed : Try.prog.follows .mixedOrders = true := by kernel_rfl
def kEntry : Kd Entry := .iso (.pair (.int .i64) (.pair (.int .i64) (.pair (.int .i64) (.pair (.int .i64) (.int .i64))))) (fun x : Entry => (x.From, x.Len, x.Dev, x.To, x.Stale))
theorem kEntry_open {h : Heap} {ok : Fp} {cs : List Value} {x : Entry} (k : kEntry.rep h ok cs x) : cs = [.int .i64 x.From, .int .i64 x.Len, .int .i64 x.Dev, .int .i64 x.To, .int .i64 x.Stale] := by
  obtain ⟨_, _, rfl, rfl, ⟨_, _, rfl, rfl, ⟨_, _, rfl, rfl, ⟨_, _, rfl, rfl, rfl⟩⟩⟩⟩ := k
  exact rfl
theorem kEntry_mk {h : Heap} {ok : Fp} (x : Entry) : kEntry.rep h ok [.int .i64 x.From, .int .i64 x.Len, .int .i64 x.Dev, .int .i64 x.To, .int .i64 x.Stale] x := ⟨[.int .i64 x.From], [.int .i64 x.Len, .int .i64 x.Dev, .int .i64 x.To, .int .i64 x.Stale], rfl, rfl, ⟨[.int .i64 x.Len], [.int .i64 x.Dev, .int .i64 x.To, .int .i64 x.Stale], rfl, rfl, ⟨[.int .i64 x.Dev], [.int .i64 x.To, .int .i64 x.Stale], rfl, rfl, ⟨[.int .i64 x.To], [.int .i64 x.Stale], rfl, rfl, rfl⟩⟩⟩⟩
theorem kEntry_at {h : Heap} {ok : Fp} {A : Option Addr} {xs : List Entry} (k : Sl kEntry h ok A xs) {i : Int} (h0 : 0 ≤ i) (h1 : i < (xs.length : Int)) : ∃ ad, A = some ad ∧ At h (ad.add (i.toNat * 5)) [.int .i64 ((rd xs i).From), .int .i64 ((rd xs i).Len), .int .i64 ((rd xs i).Dev), .int .i64 ((rd xs i).To), .int .i64 ((rd xs i).Stale)] := by
  obtain ⟨ad, cs, e, hr, hA⟩ := k.at_ h0 h1 default
  obtain rfl := kEntry_open hr
  exact ⟨ad, e, hA⟩
def kTableR : Kd Table := .iso (.pair (.int .i64) (.pair (.int .i64) (.sl kEntry))) (fun x : Table => (x.Dev, x.Size, x.List_))
theorem kTableR_open {h : Heap} {ok : Fp} {cs : List Value} {x : Table} (k : kTableR.rep h ok cs x) : ∃ (A1 : Option Addr) (c1 : Nat), cs = [.int .i64 x.Dev, .int .i64 x.Size, .slice A1 x.List_.length c1] ∧ x.List_.length ≤ c1 ∧ Sl kEntry h ok A1 x.List_ := by
  obtain ⟨_, _, rfl, rfl, ⟨_, _, rfl, rfl, ⟨A1, c1, rfl, l1, h1⟩⟩⟩ := k
  exact ⟨A1, c1, rfl, l1, h1⟩
theorem kTableR_mk {h : Heap} {ok : Fp} (x : Table) {A1 : Option Addr} {c1 : Nat} (l1 : x.List_.length ≤ c1) (h1 : Sl kEntry h ok A1 x.List_) : kTableR.rep h ok [.int .i64 x.Dev, .int .i64 x.Size, .slice A1 x.List_.length c1] x := ⟨[.int .i64 x.Dev], [.int .i64 x.Size, _], rfl, rfl, ⟨[.int .i64 x.Size], [_], rfl, rfl, ⟨_, _, rfl, l1, h1⟩⟩⟩
theorem kTableR_at {h : Heap} {ok : Fp} {A : Option Addr} {xs : List Table} (k : Sl kTableR h ok A xs) {i : Int} (h0 : 0 ≤ i) (h1 : i < (xs.length : Int)) : ∃ ad A1 c1, A = some ad ∧ At h (ad.add (i.toNat * 3)) [.int .i64 ((rd xs i).Dev), .int .i64 ((rd xs i).Size), .slice A1 ((rd xs i).List_).length c1] ∧ (rd xs i).List_.length ≤ c1 ∧ Sl kEntry h ok A1 (rd xs i).List_ := by
  obtain ⟨ad, cs, e, hr, hA⟩ := k.at_ h0 h1 default
  obtain ⟨A1, c1, rfl, l1, h1⟩ := kTableR_open hr
  exact ⟨ad, A1, c1, e, hA, l1, h1⟩
theorem kTableR_ato {h : Heap} {ok0 ok : Fp} {A : Option Addr} {c : Nat} {xs : List Table} (k : Ow kTableR 24 h ok0 ok A c xs) {i : Int} (h0 : 0 ≤ i) (h1 : i < (xs.length : Int)) : ∃ ad A1 c1, A = some ad ∧ At h (ad.add (i.toNat * 3)) [.int .i64 ((rd xs i).Dev), .int .i64 ((rd xs i).Size), .slice A1 ((rd xs i).List_).length c1] ∧ (rd xs i).List_.length ≤ c1 ∧ Sl kEntry h ok A1 (rd xs i).List_ := by
  obtain ⟨ad, cs, e, hr, hA⟩ := k.at_ h0 h1 default
  obtain ⟨A1, c1, rfl, l1, h1⟩ := kTableR_open hr
  exact ⟨ad, A1, c1, e, hA, l1, h1⟩
def kTableO : Kd Table := .iso (.pair (.int .i64) (.pair (.int .i64) (.ow kEntry 45))) (fun x : Table => (x.Dev, x.Size, x.List_))
theorem kTableO_open {h : Heap} {ok : Fp} {cs : List Value} {x : Table} (k : kTableO.rep h ok cs x) : ∃ (A1 : Option Addr) (c1 : Nat), cs = [.int .i64 x.Dev, .int .i64 x.Size, .slice A1 x.List_.length c1] ∧ Ow kEntry 45 h ok ok A1 c1 x.List_ := by
  obtain ⟨_, _, rfl, rfl, ⟨_, _, rfl, rfl, ⟨A1, c1, rfl, h1⟩⟩⟩ := k
  exact ⟨A1, c1, rfl, h1⟩
theorem kTableO_mk {h : Heap} {ok : Fp} (x : Table) {A1 : Option Addr} {c1 : Nat} (h1 : Ow kEntry 45 h ok ok A1 c1 x.List_) : kTableO.rep h ok [.int .i64 x.Dev, .int .i64 x.Size, .slice A1 x.List_.length c1] x := ⟨[.int .i64 x.Dev], [.int .i64 x.Size, _], rfl, rfl, ⟨[.int .i64 x.Size], [_], rfl, rfl, ⟨_, _, rfl, h1⟩⟩⟩
theorem kTableO_at {h : Heap} {ok : Fp} {A : Option Addr} {xs : List Table} (k : Sl kTableO h ok A xs) {i : Int} (h0 : 0 ≤ i) (h1 : i < (xs.length : Int)) : ∃ ad A1 c1, A = some ad ∧ At h (ad.add (i.toNat * 3)) [.int .i64 ((rd xs i).Dev), .int .i64 ((rd xs i).Size), .slice A1 ((rd xs i).List_).length c1] ∧ Ow kEntry 45 h ok ok A1 c1 (rd xs i).List_ := by
  obtain ⟨ad, cs, e, hr, hA⟩ := k.at_ h0 h1 default
  obtain ⟨A1, c1, rfl, h1⟩ := kTableO_open hr
  exact ⟨ad, A1, c1, e, hA, h1⟩
theorem kTableO_ato {h : Heap} {ok0 ok : Fp} {A : Option Addr} {c : Nat} {xs : List Table} (k : Ow kTableO 24 h ok0 ok A c xs) {i : Int} (h0 : 0 ≤ i) (h1 : i < (xs.length : Int)) : ∃ ad A1 c1, A = some ad ∧ At h (ad.add (i.toNat * 3)) [.int .i64 ((rd xs i).Dev), .int .i64 ((rd xs i).Size), .slice A1 ((rd xs i).List_).length c1] ∧ Ow kEntry 45 h ok ok A1 c1 (rd xs i).List_ := by
  obtain ⟨ad, cs, e, hr, hA⟩ := k.at_ h0 h1 default
  obtain ⟨A1, c1, rfl, h1⟩ := kTableO_open hr
  exact ⟨ad, A1, c1, e, hA, h1⟩
def kPtr : Kd Ptr := .iso (.pair (.int .i64) (.int .i64)) (fun x : Ptr => (x.Dev, x.At))
theorem kPtr_open {h : Heap} {ok : Fp} {cs : List Value} {x : Ptr} (k : kPtr.rep h ok cs x) : cs = [.int .i64 x.Dev, .int .i64 x.At] := by
  obtain ⟨_, _, rfl, rfl, rfl⟩ := k
  exact rfl
theorem kPtr_mk {h : Heap} {ok : Fp} (x : Ptr) : kPtr.rep h ok [.int .i64 x.Dev, .int .i64 x.At] x := ⟨[.int .i64 x.Dev], [.int .i64 x.At], rfl, rfl, rfl⟩
theorem kPtr_at {h : Heap} {ok : Fp} {A : Option Addr} {xs : List Ptr} (k : Sl kPtr h ok A xs) {i : Int} (h0 : 0 ≤ i) (h1 : i < (xs.length : Int)) : ∃ ad, A = some ad ∧ At h (ad.add (i.toNat * 2)) [.int .i64 ((rd xs i).Dev), .int .i64 ((rd xs i).At)] := by
  obtain ⟨ad, cs, e, hr, hA⟩ := k.at_ h0 h1 default
  obtain rfl := kPtr_open hr
  exact ⟨ad, e, hA⟩
def khermitagelaw8Act : Kd hermitagelaw8Act := .iso (.pair (.int .i64) (.pair (.int .i64) (.pair (.int .i64) kPtr))) (fun x : hermitagelaw8Act => (x.Do, x.N, x.M, x.P))
theorem khermitagelaw8Act_open {h : Heap} {ok : Fp} {cs : List Value} {x : hermitagelaw8Act} (k : khermitagelaw8Act.rep h ok cs x) : cs = [.int .i64 x.Do, .int .i64 x.N, .int .i64 x.M, .int .i64 x.P.Dev, .int .i64 x.P.At] := by
  obtain ⟨_, _, rfl, rfl, ⟨_, _, rfl, rfl, ⟨_, _, rfl, rfl, ⟨_, _, rfl, rfl, rfl⟩⟩⟩⟩ := k
  exact rfl
theorem khermitagelaw8Act_mk {h : Heap} {ok : Fp} (x : hermitagelaw8Act) : khermitagelaw8Act.rep h ok [.int .i64 x.Do, .int .i64 x.N, .int .i64 x.M, .int .i64 x.P.Dev, .int .i64 x.P.At] x := ⟨[.int .i64 x.Do], [.int .i64 x.N, .int .i64 x.M, .int .i64 x.P.Dev, .int .i64 x.P.At], rfl, rfl, ⟨[.int .i64 x.N], [.int .i64 x.M, .int .i64 x.P.Dev, .int .i64 x.P.At], rfl, rfl, ⟨[.int .i64 x.M], [.int .i64 x.P.Dev, .int .i64 x.P.At], rfl, rfl, ⟨[.int .i64 x.P.Dev], [.int .i64 x.P.At], rfl, rfl, rfl⟩⟩⟩⟩
theorem khermitagelaw8Act_at {h : Heap} {ok : Fp} {A : Option Addr} {xs : List hermitagelaw8Act} (k : Sl khermitagelaw8Act h ok A xs) {i : Int} (h0 : 0 ≤ i) (h1 : i < (xs.length : Int)) : ∃ ad, A = some ad ∧ At h (ad.add (i.toNat * 5)) [.int .i64 ((rd xs i).Do), .int .i64 ((rd xs i).N), .int .i64 ((rd xs i).M), .int .i64 (((rd xs i).P).Dev), .int .i64 (((rd xs i).P).At)] := by
  obtain ⟨ad, cs, e, hr, hA⟩ := k.at_ h0 h1 default
  obtain rfl := khermitagelaw8Act_open hr
  exact ⟨ad, e, hA⟩
def khermitagelaw8ScriptR : Kd hermitagelaw8Script := .iso (.pair kTableR (.sl khermitagelaw8Act)) (fun x : hermitagelaw8Script => (x.T, x.A))
theorem khermitagelaw8ScriptR_open {h : Heap} {ok : Fp} {cs : List Value} {x : hermitagelaw8Script} (k : khermitagelaw8ScriptR.rep h ok cs x) : ∃ (A1 : Option Addr) (c1 : Nat) (A2 : Option Addr) (c2 : Nat), cs = [.int .i64 x.T.Dev, .int .i64 x.T.Size, .slice A1 x.T.List_.length c1, .slice A2 x.A.length c2] ∧ x.T.List_.length ≤ c1 ∧ Sl kEntry h ok A1 x.T.List_ ∧ x.A.length ≤ c2 ∧ Sl khermitagelaw8Act h ok A2 x.A := by
  obtain ⟨_, _, rfl, ⟨_, _, rfl, rfl, ⟨_, _, rfl, rfl, ⟨A1, c1, rfl, l1, h1⟩⟩⟩, ⟨A2, c2, rfl, l2, h2⟩⟩ := k
  exact ⟨A1, c1, A2, c2, rfl, l1, h1, l2, h2⟩
theorem khermitagelaw8ScriptR_mk {h : Heap} {ok : Fp} (x : hermitagelaw8Script) {A1 : Option Addr} {c1 : Nat} (l1 : x.T.List_.length ≤ c1) (h1 : Sl kEntry h ok A1 x.T.List_) {A2 : Option Addr} {c2 : Nat} (l2 : x.A.length ≤ c2) (h2 : Sl khermitagelaw8Act h ok A2 x.A) : khermitagelaw8ScriptR.rep h ok [.int .i64 x.T.Dev, .int .i64 x.T.Size, .slice A1 x.T.List_.length c1, .slice A2 x.A.length c2] x := ⟨[.int .i64 x.T.Dev, .int .i64 x.T.Size, _], [_], rfl, ⟨[.int .i64 x.T.Dev], [.int .i64 x.T.Size, _], rfl, rfl, ⟨[.int .i64 x.T.Size], [_], rfl, rfl, ⟨_, _, rfl, l1, h1⟩⟩⟩, ⟨_, _, rfl, l2, h2⟩⟩
theorem khermitagelaw8ScriptR_at {h : Heap} {ok : Fp} {A : Option Addr} {xs : List hermitagelaw8Script} (k : Sl khermitagelaw8ScriptR h ok A xs) {i : Int} (h0 : 0 ≤ i) (h1 : i < (xs.length : Int)) : ∃ ad A1 c1 A2 c2, A = some ad ∧ At h (ad.add (i.toNat * 4)) [.int .i64 (((rd xs i).T).Dev), .int .i64 (((rd xs i).T).Size), .slice A1 (((rd xs i).T).List_).length c1, .slice A2 ((rd xs i).A).length c2] ∧ (rd xs i).T.List_.length ≤ c1 ∧ Sl kEntry h ok A1 (rd xs i).T.List_ ∧ (rd xs i).A.length ≤ c2 ∧ Sl khermitagelaw8Act h ok A2 (rd xs i).A := by
  obtain ⟨ad, cs, e, hr, hA⟩ := k.at_ h0 h1 default
  obtain ⟨A1, c1, A2, c2, rfl, l1, h1, l2, h2⟩ := khermitagelaw8ScriptR_open hr
  exact ⟨ad, A1, c1, A2, c2, e, hA, l1, h1, l2, h2⟩
theorem khermitagelaw8ScriptR_ato {h : Heap} {ok0 ok : Fp} {A : Option Addr} {c : Nat} {xs : List hermitagelaw8Script} (k : Ow khermitagelaw8ScriptR 27 h ok0 ok A c xs) {i : Int} (h0 : 0 ≤ i) (h1 : i < (xs.length : Int)) : ∃ ad A1 c1 A2 c2, A = some ad ∧ At h (ad.add (i.toNat * 4)) [.int .i64 (((rd xs i).T).Dev), .int .i64 (((rd xs i).T).Size), .slice A1 (((rd xs i).T).List_).length c1, .slice A2 ((rd xs i).A).length c2] ∧ (rd xs i).T.List_.length ≤ c1 ∧ Sl kEntry h ok A1 (rd xs i).T.List_ ∧ (rd xs i).A.length ≤ c2 ∧ Sl khermitagelaw8Act h ok A2 (rd xs i).A := by
  obtain ⟨ad, cs, e, hr, hA⟩ := k.at_ h0 h1 default
  obtain ⟨A1, c1, A2, c2, rfl, l1, h1, l2, h2⟩ := khermitagelaw8ScriptR_open hr
  exact ⟨ad, A1, c1, A2, c2, e, hA, l1, h1, l2, h2⟩
def khermitagelaw8ScriptO : Kd hermitagelaw8Script := .iso (.pair kTableO (.ow khermitagelaw8Act 35)) (fun x : hermitagelaw8Script => (x.T, x.A))
theorem khermitagelaw8ScriptO_open {h : Heap} {ok : Fp} {cs : List Value} {x : hermitagelaw8Script} (k : khermitagelaw8ScriptO.rep h ok cs x) : ∃ (A1 : Option Addr) (c1 : Nat) (A2 : Option Addr) (c2 : Nat), cs = [.int .i64 x.T.Dev, .int .i64 x.T.Size, .slice A1 x.T.List_.length c1, .slice A2 x.A.length c2] ∧ Ow kEntry 45 h ok ok A1 c1 x.T.List_ ∧ Ow khermitagelaw8Act 35 h ok ok A2 c2 x.A := by
  obtain ⟨_, _, rfl, ⟨_, _, rfl, rfl, ⟨_, _, rfl, rfl, ⟨A1, c1, rfl, h1⟩⟩⟩, ⟨A2, c2, rfl, h2⟩⟩ := k
  exact ⟨A1, c1, A2, c2, rfl, h1, h2⟩
theorem khermitagelaw8ScriptO_mk {h : Heap} {ok : Fp} (x : hermitagelaw8Script) {A1 : Option Addr} {c1 : Nat} (h1 : Ow kEntry 45 h ok ok A1 c1 x.T.List_) {A2 : Option Addr} {c2 : Nat} (h2 : Ow khermitagelaw8Act 35 h ok ok A2 c2 x.A) : khermitagelaw8ScriptO.rep h ok [.int .i64 x.T.Dev, .int .i64 x.T.Size, .slice A1 x.T.List_.length c1, .slice A2 x.A.length c2] x := ⟨[.int .i64 x.T.Dev, .int .i64 x.T.Size, _], [_], rfl, ⟨[.int .i64 x.T.Dev], [.int .i64 x.T.Size, _], rfl, rfl, ⟨[.int .i64 x.T.Size], [_], rfl, rfl, ⟨_, _, rfl, h1⟩⟩⟩, ⟨_, _, rfl, h2⟩⟩
theorem khermitagelaw8ScriptO_at {h : Heap} {ok : Fp} {A : Option Addr} {xs : List hermitagelaw8Script} (k : Sl khermitagelaw8ScriptO h ok A xs) {i : Int} (h0 : 0 ≤ i) (h1 : i < (xs.length : Int)) : ∃ ad A1 c1 A2 c2, A = some ad ∧ At h (ad.add (i.toNat * 4)) [.int .i64 (((rd xs i).T).Dev), .int .i64 (((rd xs i).T).Size), .slice A1 (((rd xs i).T).List_).length c1, .slice A2 ((rd xs i).A).length c2] ∧ Ow kEntry 45 h ok ok A1 c1 (rd xs i).T.List_ ∧ Ow khermitagelaw8Act 35 h ok ok A2 c2 (rd xs i).A := by
  obtain ⟨ad, cs, e, hr, hA⟩ := k.at_ h0 h1 default
  obtain ⟨A1, c1, A2, c2, rfl, h1, h2⟩ := khermitagelaw8ScriptO_open hr
  exact ⟨ad, A1, c1, A2, c2, e, hA, h1, h2⟩
theorem khermitagelaw8ScriptO_ato {h : Heap} {ok0 ok : Fp} {A : Option Addr} {c : Nat} {xs : List hermitagelaw8Script} (k : Ow khermitagelaw8ScriptO 27 h ok0 ok A c xs) {i : Int} (h0 : 0 ≤ i) (h1 : i < (xs.length : Int)) : ∃ ad A1 c1 A2 c2, A = some ad ∧ At h (ad.add (i.toNat * 4)) [.int .i64 (((rd xs i).T).Dev), .int .i64 (((rd xs i).T).Size), .slice A1 (((rd xs i).T).List_).length c1, .slice A2 ((rd xs i).A).length c2] ∧ Ow kEntry 45 h ok ok A1 c1 (rd xs i).T.List_ ∧ Ow khermitagelaw8Act 35 h ok ok A2 c2 (rd xs i).A := by
  obtain ⟨ad, cs, e, hr, hA⟩ := k.at_ h0 h1 default
  obtain ⟨A1, c1, A2, c2, rfl, h1, h2⟩ := khermitagelaw8ScriptO_open hr
  exact ⟨ad, A1, c1, A2, c2, e, hA, h1, h2⟩
theorem kTable_ro {h : Heap} {ok : Fp} {cs : List Value} {x : Table} (k : kTableO.rep h ok cs x) : kTableR.rep h ok cs x := by
  obtain ⟨A0, c0, rfl, h0⟩ := kTableO_open k
  exact kTableR_mk x h0.len ((h0.sl.mono fun _ _ hh => by rcases hh with hh | hh <;> exact hh).to (fun k => k) rfl)
theorem khermitagelaw8Script_ro {h : Heap} {ok : Fp} {cs : List Value} {x : hermitagelaw8Script} (k : khermitagelaw8ScriptO.rep h ok cs x) : khermitagelaw8ScriptR.rep h ok cs x := by
  obtain ⟨A0, c0, A1, c1, rfl, h0, h1⟩ := khermitagelaw8ScriptO_open k
  exact khermitagelaw8ScriptR_mk x h0.len ((h0.sl.mono fun _ _ hh => by rcases hh with hh | hh <;> exact hh).to (fun k => k) rfl) h1.len ((h1.sl.mono fun _ _ hh => by rcases hh with hh | hh <;> exact hh).to (fun k => k) rfl)
theorem eqPtr (x y : Ptr) (w : World) : (Op.equalIn 10000 33 (.agg [.int .i64 x.Dev, .int .i64 x.At].toArray) (.agg [.int .i64 y.Dev, .int .i64 y.At].toArray)).run Try.prog w = .ok (decide (x = y)) w := by
  have e : decide (x = y) = ((x.Dev == y.Dev) && ((x.At == y.At) && true)) := by rw [Bool.eq_iff_iff]; cases x; cases y; simp
  rw [e]
  exact run_equalFlat tabOk Try.underlying33 (by kernel_rfl) [.int .i64 x.Dev, .int .i64 x.At] [.int .i64 y.Dev, .int .i64 y.At] rfl w
theorem eqgPtr : Try.prog.eqGuardType Try.prog.depth 33 = false := by kernel_rfl
theorem eqEntry (x y : Entry) (w : World) : (Op.equalIn 10000 45 (.agg [.int .i64 x.From, .int .i64 x.Len, .int .i64 x.Dev, .int .i64 x.To, .int .i64 x.Stale].toArray) (.agg [.int .i64 y.From, .int .i64 y.Len, .int .i64 y.Dev, .int .i64 y.To, .int .i64 y.Stale].toArray)).run Try.prog w = .ok (decide (x = y)) w := by
  have e : decide (x = y) = ((x.From == y.From) && ((x.Len == y.Len) && ((x.Dev == y.Dev) && ((x.To == y.To) && ((x.Stale == y.Stale) && true))))) := by rw [Bool.eq_iff_iff]; cases x; cases y; simp
  rw [e]
  exact run_equalFlat tabOk Try.underlying45 (by kernel_rfl) [.int .i64 x.From, .int .i64 x.Len, .int .i64 x.Dev, .int .i64 x.To, .int .i64 x.Stale] [.int .i64 y.From, .int .i64 y.Len, .int .i64 y.Dev, .int .i64 y.To, .int .i64 y.Stale] rfl w
theorem eqgEntry : Try.prog.eqGuardType Try.prog.depth 45 = false := by kernel_rfl
theorem ent4 : Enters Try.prog 4 := Enters.mk Try.func4 (by kernel_rfl) (by kernel_rfl)
theorem ent10 : Enters Try.prog 10 := Enters.mk Try.func10 (by kernel_rfl) (by kernel_rfl)
theorem ent11 : Enters Try.prog 11 := Enters.mk Try.func11 (by kernel_rfl) (by kernel_rfl)
theorem ent12 : Enters Try.prog 12 := Enters.mk Try.func12 (by kernel_rfl) (by kernel_rfl)
theorem ent13 : Enters Try.prog 13 := Enters.mk Try.func13 (by kernel_rfl) (by kernel_rfl)
theorem ent14 : Enters Try.prog 14 := Enters.mk Try.func14 (by kernel_rfl) (by kernel_rfl)
theorem ent15 : Enters Try.prog 15 := Enters.mk Try.func15 (by kernel_rfl) (by kernel_rfl)
theorem ent16 : Enters Try.prog 16 := Enters.mk Try.func16 (by kernel_rfl) (by kernel_rfl)
theorem ent17 : Enters Try.prog 17 := Enters.mk Try.func17 (by kernel_rfl) (by kernel_rfl)
theorem ent18 : Enters Try.prog 18 := Enters.mk Try.func18 (by kernel_rfl) (by kernel_rfl)
theorem ent19 : Enters Try.prog 19 := Enters.mk Try.func19 (by kernel_rfl) (by kernel_rfl)
theorem ent20 : Enters Try.prog 20 := Enters.mk Try.func20 (by kernel_rfl) (by kernel_rfl)
theorem ent21 : Enters Try.prog 21 := Enters.mk Try.func21 (by kernel_rfl) (by kernel_rfl)
theorem ent22 : Enters Try.prog 22 := Enters.mk Try.func22 (by kernel_rfl) (by kernel_rfl)
theorem ent23 : Enters Try.prog 23 := Enters.mk Try.func23 (by kernel_rfl) (by kernel_rfl)
theorem ent37 : Enters Try.prog 37 := Enters.mk Try.func37 (by kernel_rfl) (by kernel_rfl)
theorem ent40 : Enters Try.prog 40 := Enters.mk Try.func40 (by kernel_rfl) (by kernel_rfl)
theorem ent41 : Enters Try.prog 41 := Enters.mk Try.func41 (by kernel_rfl) (by kernel_rfl)
theorem ent42 : Enters Try.prog 42 := Enters.mk Try.func42 (by kernel_rfl) (by kernel_rfl)
theorem ent43 : Enters Try.prog 43 := Enters.mk Try.func43 (by kernel_rfl) (by kernel_rfl)
theorem ent44 : Enters Try.prog 44 := Enters.mk Try.func44 (by kernel_rfl) (by kernel_rfl)
theorem ent45 : Enters Try.prog 45 := Enters.mk Try.func45 (by kernel_rfl) (by kernel_rfl)
theorem ent46 : Enters Try.prog 46 := Enters.mk Try.func46 (by kernel_rfl) (by kernel_rfl)
theorem ent47 : Enters Try.prog 47 := Enters.mk Try.func47 (by kernel_rfl) (by kernel_rfl)
theorem ent48 : Enters Try.prog 48 := Enters.mk Try.func48 (by kernel_rfl) (by kernel_rfl)
theorem ent49 : Enters Try.prog 49 := Enters.mk Try.func49 (by kernel_rfl) (by kernel_rfl)
theorem ent50 : Enters Try.prog 50 := Enters.mk Try.func50 (by kernel_rfl) (by kernel_rfl)
theorem ent51 : Enters Try.prog 51 := Enters.mk Try.func51 (by kernel_rfl) (by kernel_rfl)
theorem ent52 : Enters Try.prog 52 := Enters.mk Try.func52 (by kernel_rfl) (by kernel_rfl)
theorem ent53 : Enters Try.prog 53 := Enters.mk Try.func53 (by kernel_rfl) (by kernel_rfl)
theorem ent54 : Enters Try.prog 54 := Enters.mk Try.func54 (by kernel_rfl) (by kernel_rfl)
theorem ent55 : Enters Try.prog 55 := Enters.mk Try.func55 (by kernel_rfl) (by kernel_rfl)
theorem ent56 : Enters Try.prog 56 := Enters.mk Try.func56 (by kernel_rfl) (by kernel_rfl)
theorem ent57 : Enters Try.prog 57 := Enters.mk Try.func57 (by kernel_rfl) (by kernel_rfl)
theorem ent58 : Enters Try.prog 58 := Enters.mk Try.func58 (by kernel_rfl) (by kernel_rfl)
theorem ent59 : Enters Try.prog 59 := Enters.mk Try.func59 (by kernel_rfl) (by kernel_rfl)
theorem ent60 : Enters Try.prog 60 := Enters.mk Try.func60 (by kernel_rfl) (by kernel_rfl)
theorem ent61 : Enters Try.prog 61 := Enters.mk Try.func61 (by kernel_rfl) (by kernel_rfl)
theorem ent62 : Enters Try.prog 62 := Enters.mk Try.func62 (by kernel_rfl) (by kernel_rfl)
theorem ent82 : Enters Try.prog 82 := Enters.mk Try.func82 (by kernel_rfl) (by kernel_rfl)
theorem ent83 : Enters Try.prog 83 := Enters.mk Try.func83 (by kernel_rfl) (by kernel_rfl)
theorem ent84 : Enters Try.prog 84 := Enters.mk Try.func84 (by kernel_rfl) (by kernel_rfl)
theorem ent85 : Enters Try.prog 85 := Enters.mk Try.func85 (by kernel_rfl) (by kernel_rfl)
theorem ent86 : Enters Try.prog 86 := Enters.mk Try.func86 (by kernel_rfl) (by kernel_rfl)
theorem ent104 : Enters Try.prog 104 := Enters.mk Try.func104 (by kernel_rfl) (by kernel_rfl)
end Go.Proofs.Ytnaajldlloglkaa.W
