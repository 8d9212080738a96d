/- The table of types, the kinds of elements; printed by a program of the claim. -/
import Derived.Test.YtnaajldlloglkaaDoorProg
import Derived.Test.YtnaajldlloglkaaDoorChainFn
set_option linter.unusedVariables false
set_option linter.unusedSimpArgs false
namespace Go.Proofs.YtnaajldlloglkaaDoor.W
open Go.H Go.Proofs
def tab : Tab := [(3, ⟨.int .i64, 1, 8, [.int .i64 0]⟩),
  (4, ⟨.bool, 1, 1, [.bool false]⟩),
  (5, ⟨.int .u8, 1, 1, [.int .u8 0]⟩),
  (23, ⟨.slice 3, 1, 24, [.slice none 0 0]⟩),
  (28, ⟨.slice 93, 1, 24, [.slice none 0 0]⟩),
  (29, ⟨.int .i64, 1, 8, [.int .i64 0]⟩),
  (56, ⟨.slice 84, 1, 24, [.slice none 0 0]⟩),
  (64, ⟨.slice 70, 1, 24, [.slice none 0 0]⟩),
  (70, ⟨.struct [(0, 1), (1, 1)], 2, 16, [.int .i64 0, .int .i64 0]⟩),
  (72, ⟨.slice 75, 1, 24, [.slice none 0 0]⟩),
  (73, ⟨.slice 86, 1, 24, [.slice none 0 0]⟩),
  (75, ⟨.struct [(0, 1), (1, 1), (2, 1)], 3, 40, [.int .i64 0, .int .i64 0, .slice none 0 0]⟩),
  (77, ⟨.struct [(0, 1), (1, 1), (2, 3)], 5, 56, [.int .i64 0, .int .i64 0, .int .i64 0, .int .i64 0, .slice none 0 0]⟩),
  (79, ⟨.struct [(0, 1), (1, 1), (2, 5), (7, 1)], 8, 112, [.slice none 0 0, .slice none 0 0, .int .i64 0, .int .i64 0, .int .i64 0, .int .i64 0, .slice none 0 0, .int .i64 0]⟩),
  (81, ⟨.struct [(0, 8), (8, 1)], 9, 136, [.slice none 0 0, .slice none 0 0, .int .i64 0, .int .i64 0, .int .i64 0, .int .i64 0, .slice none 0 0, .int .i64 0, .slice none 0 0]⟩),
  (84, ⟨.struct [(0, 1), (1, 1), (2, 1), (3, 1)], 4, 64, [.int .i64 0, .int .i64 0, .slice none 0 0, .slice none 0 0]⟩),
  (86, ⟨.struct [(0, 1), (1, 1), (2, 1), (3, 1), (4, 1)], 5, 40, [.int .i64 0, .int .i64 0, .int .i64 0, .int .i64 0, .int .i64 0]⟩),
  (93, ⟨.struct [(0, 1), (1, 1)], 2, 16, [.int .i64 0, .int .i64 0]⟩),
  (95, ⟨.int .u64, 1, 8, [.int .u64 0]⟩),
  (96, ⟨.int .u64, 1, 8, [.int .u64 0]⟩),
  (119, ⟨.int .u64, 1, 8, [.int .u64 0]⟩),
  (121, ⟨.struct [(0, 2), (2, 1)], 3, 40, [.int .i64 0, .int .i64 0, .slice none 0 0]⟩),
  (158, ⟨.word, 1, 8, [.map none]⟩),
  (167, ⟨.arr 64 5, 64, 64, (arrI .u8 64 fun _ => 0)⟩)]
theorem tabOk : TabOk Tryd.prog tab :=
  ⟨.mk' _ _ _ _ (by kernel_rfl) Tryd.underlying3 rfl rfl (fun h => by first | rfl | cases h) (by decide) rfl,
   .mk' _ _ _ _ (by kernel_rfl) Tryd.underlying4 rfl rfl (fun h => by first | rfl | cases h) (by decide) rfl,
   .mk' _ _ _ _ (by kernel_rfl) Tryd.underlying5 rfl rfl (fun h => by first | rfl | cases h) (by decide) rfl,
   .mk' _ _ _ _ (by kernel_rfl) Tryd.underlying23 rfl rfl (fun h => by first | rfl | cases h) (by decide) rfl,
   .mk' _ _ _ _ (by kernel_rfl) Tryd.underlying28 rfl rfl (fun h => by first | rfl | cases h) (by decide) rfl,
   .mk' _ _ _ _ (by kernel_rfl) Tryd.underlying29 rfl rfl (fun h => by first | rfl | cases h) (by decide) rfl,
   .mk' _ _ _ _ (by kernel_rfl) Tryd.underlying56 rfl rfl (fun h => by first | rfl | cases h) (by decide) rfl,
   .mk' _ _ _ _ (by kernel_rfl) Tryd.underlying64 rfl rfl (fun h => by first | rfl | cases h) (by decide) rfl,
   .mk' _ _ _ _ (by kernel_rfl) Tryd.underlying70 ⟨_, rfl, by kernel_rfl, rfl⟩ rfl (fun h => by first | rfl | cases h) (by decide) rfl,
   .mk' _ _ _ _ (by kernel_rfl) Tryd.underlying72 rfl rfl (fun h => by first | rfl | cases h) (by decide) rfl,
   .mk' _ _ _ _ (by kernel_rfl) Tryd.underlying73 rfl rfl (fun h => by first | rfl | cases h) (by decide) rfl,
   .mk' _ _ _ _ (by kernel_rfl) Tryd.underlying75 ⟨_, rfl, by kernel_rfl, rfl⟩ rfl (fun h => by first | rfl | cases h) (by decide) rfl,
   .mk' _ _ _ _ (by kernel_rfl) Tryd.underlying77 ⟨_, rfl, by kernel_rfl, rfl⟩ rfl (fun h => by first | rfl | cases h) (by decide) rfl,
   .mk' _ _ _ _ (by kernel_rfl) Tryd.underlying79 ⟨_, rfl, by kernel_rfl, rfl⟩ rfl (fun h => by first | rfl | cases h) (by decide) rfl,
   .mk' _ _ _ _ (by kernel_rfl) Tryd.underlying81 ⟨_, rfl, by kernel_rfl, rfl⟩ rfl (fun h => by first | rfl | cases h) (by decide) rfl,
   .mk' _ _ _ _ (by kernel_rfl) Tryd.underlying84 ⟨_, rfl, by kernel_rfl, rfl⟩ rfl (fun h => by first | rfl | cases h) (by decide) rfl,
   .mk' _ _ _ _ (by kernel_rfl) Tryd.underlying86 ⟨_, rfl, by kernel_rfl, rfl⟩ rfl (fun h => by first | rfl | cases h) (by decide) rfl,
   .mk' _ _ _ _ (by kernel_rfl) Tryd.underlying93 ⟨_, rfl, by kernel_rfl, rfl⟩ rfl (fun h => by first | rfl | cases h) (by decide) rfl,
   .mk' _ _ _ _ (by kernel_rfl) Tryd.underlying95 rfl rfl (fun h => by first | rfl | cases h) (by decide) rfl,
   .mk' _ _ _ _ (by kernel_rfl) Tryd.underlying96 rfl rfl (fun h => by first | rfl | cases h) (by decide) rfl,
   .mk' _ _ _ _ (by kernel_rfl) Tryd.underlying119 rfl rfl (fun h => by first | rfl | cases h) (by decide) rfl,
   .mk' _ _ _ _ (by kernel_rfl) Tryd.underlying121 ⟨_, rfl, by kernel_rfl, rfl⟩ rfl (fun h => by first | rfl | cases h) (by decide) rfl,
   .mk' _ _ _ _ (by kernel_rfl) Tryd.underlying158 trivial rfl (fun h => by first | rfl | cases h) (by decide) rfl,
   .mk' _ _ _ _ (by kernel_rfl) Tryd.underlying167 rfl rfl (fun h => by first | rfl | cases h) (by decide) rfl, trivial⟩
theorem mixed : Tryd.prog.follows .mixedOrders = true := by kernel_rfl
def kPtr : Kd Ptr := .iso (.pair (.int .i64) (.int .i64)) (fun x : Ptr => (x.Dev, x.At))
theorem kPtr_open {h : Heap} {ok : Fp} {cs : List Value} {x : Ptr} (k : kPtr.rep h ok cs x) : cs = [.int .i64 x.Dev, .int .i64 x.At] := by
  obtain ⟨_, _, rfl, rfl, rfl⟩ := k
  exact rfl
theorem kPtr_mk {h : Heap} {ok : Fp} (x : Ptr) : kPtr.rep h ok [.int .i64 x.Dev, .int .i64 x.At] x := ⟨[.int .i64 x.Dev], [.int .i64 x.At], rfl, rfl, rfl⟩
theorem kPtr_at {h : Heap} {ok : Fp} {A : Option Addr} {xs : List Ptr} (k : Sl kPtr h ok A xs) {i : Int} (h0 : 0 ≤ i) (h1 : i < (xs.length : Int)) : ∃ ad, A = some ad ∧ At h (ad.add (i.toNat * 2)) [.int .i64 ((rd xs i).Dev), .int .i64 ((rd xs i).At)] := by
  obtain ⟨ad, cs, e, hr, hA⟩ := k.at_ h0 h1 default
  obtain rfl := kPtr_open hr
  exact ⟨ad, e, hA⟩
def kEntry : Kd Entry := .iso (.pair (.int .i64) (.pair (.int .i64) (.pair (.int .i64) (.pair (.int .i64) (.int .i64))))) (fun x : Entry => (x.From, x.Len, x.Dev, x.To, x.Stale))
theorem kEntry_open {h : Heap} {ok : Fp} {cs : List Value} {x : Entry} (k : kEntry.rep h ok cs x) : cs = [.int .i64 x.From, .int .i64 x.Len, .int .i64 x.Dev, .int .i64 x.To, .int .i64 x.Stale] := by
  obtain ⟨_, _, rfl, rfl, ⟨_, _, rfl, rfl, ⟨_, _, rfl, rfl, ⟨_, _, rfl, rfl, rfl⟩⟩⟩⟩ := k
  exact rfl
theorem kEntry_mk {h : Heap} {ok : Fp} (x : Entry) : kEntry.rep h ok [.int .i64 x.From, .int .i64 x.Len, .int .i64 x.Dev, .int .i64 x.To, .int .i64 x.Stale] x := ⟨[.int .i64 x.From], [.int .i64 x.Len, .int .i64 x.Dev, .int .i64 x.To, .int .i64 x.Stale], rfl, rfl, ⟨[.int .i64 x.Len], [.int .i64 x.Dev, .int .i64 x.To, .int .i64 x.Stale], rfl, rfl, ⟨[.int .i64 x.Dev], [.int .i64 x.To, .int .i64 x.Stale], rfl, rfl, ⟨[.int .i64 x.To], [.int .i64 x.Stale], rfl, rfl, rfl⟩⟩⟩⟩
theorem kEntry_at {h : Heap} {ok : Fp} {A : Option Addr} {xs : List Entry} (k : Sl kEntry h ok A xs) {i : Int} (h0 : 0 ≤ i) (h1 : i < (xs.length : Int)) : ∃ ad, A = some ad ∧ At h (ad.add (i.toNat * 5)) [.int .i64 ((rd xs i).From), .int .i64 ((rd xs i).Len), .int .i64 ((rd xs i).Dev), .int .i64 ((rd xs i).To), .int .i64 ((rd xs i).Stale)] := by
  obtain ⟨ad, cs, e, hr, hA⟩ := k.at_ h0 h1 default
  obtain rfl := kEntry_open hr
  exact ⟨ad, e, hA⟩
def kTableR : Kd Table := .iso (.pair (.int .i64) (.pair (.int .i64) (.sl kEntry))) (fun x : Table => (x.Dev, x.Size, x.List_))
theorem kTableR_open {h : Heap} {ok : Fp} {cs : List Value} {x : Table} (k : kTableR.rep h ok cs x) : ∃ (A1 : Option Addr) (c1 : Nat), cs = [.int .i64 x.Dev, .int .i64 x.Size, .slice A1 x.List_.length c1] ∧ x.List_.length ≤ c1 ∧ Sl kEntry h ok A1 x.List_ := by
  obtain ⟨_, _, rfl, rfl, ⟨_, _, rfl, rfl, ⟨A1, c1, rfl, l1, h1⟩⟩⟩ := k
  exact ⟨A1, c1, rfl, l1, h1⟩
theorem kTableR_mk {h : Heap} {ok : Fp} (x : Table) {A1 : Option Addr} {c1 : Nat} (l1 : x.List_.length ≤ c1) (h1 : Sl kEntry h ok A1 x.List_) : kTableR.rep h ok [.int .i64 x.Dev, .int .i64 x.Size, .slice A1 x.List_.length c1] x := ⟨[.int .i64 x.Dev], [.int .i64 x.Size, _], rfl, rfl, ⟨[.int .i64 x.Size], [_], rfl, rfl, ⟨_, _, rfl, l1, h1⟩⟩⟩
theorem kTableR_at {h : Heap} {ok : Fp} {A : Option Addr} {xs : List Table} (k : Sl kTableR h ok A xs) {i : Int} (h0 : 0 ≤ i) (h1 : i < (xs.length : Int)) : ∃ ad A1 c1, A = some ad ∧ At h (ad.add (i.toNat * 3)) [.int .i64 ((rd xs i).Dev), .int .i64 ((rd xs i).Size), .slice A1 ((rd xs i).List_).length c1] ∧ (rd xs i).List_.length ≤ c1 ∧ Sl kEntry h ok A1 (rd xs i).List_ := by
  obtain ⟨ad, cs, e, hr, hA⟩ := k.at_ h0 h1 default
  obtain ⟨A1, c1, rfl, l1, h1⟩ := kTableR_open hr
  exact ⟨ad, A1, c1, e, hA, l1, h1⟩
theorem kTableR_ato {h : Heap} {ok0 ok : Fp} {A : Option Addr} {c : Nat} {xs : List Table} (k : Ow kTableR 75 h ok0 ok A c xs) {i : Int} (h0 : 0 ≤ i) (h1 : i < (xs.length : Int)) : ∃ ad A1 c1, A = some ad ∧ At h (ad.add (i.toNat * 3)) [.int .i64 ((rd xs i).Dev), .int .i64 ((rd xs i).Size), .slice A1 ((rd xs i).List_).length c1] ∧ (rd xs i).List_.length ≤ c1 ∧ Sl kEntry h ok A1 (rd xs i).List_ := by
  obtain ⟨ad, cs, e, hr, hA⟩ := k.at_ h0 h1 default
  obtain ⟨A1, c1, rfl, l1, h1⟩ := kTableR_open hr
  exact ⟨ad, A1, c1, e, hA, l1, h1⟩
def kTableO : Kd Table := .iso (.pair (.int .i64) (.pair (.int .i64) (.ow kEntry 86))) (fun x : Table => (x.Dev, x.Size, x.List_))
theorem kTableO_open {h : Heap} {ok : Fp} {cs : List Value} {x : Table} (k : kTableO.rep h ok cs x) : ∃ (A1 : Option Addr) (c1 : Nat), cs = [.int .i64 x.Dev, .int .i64 x.Size, .slice A1 x.List_.length c1] ∧ Ow kEntry 86 h ok ok A1 c1 x.List_ := by
  obtain ⟨_, _, rfl, rfl, ⟨_, _, rfl, rfl, ⟨A1, c1, rfl, h1⟩⟩⟩ := k
  exact ⟨A1, c1, rfl, h1⟩
theorem kTableO_mk {h : Heap} {ok : Fp} (x : Table) {A1 : Option Addr} {c1 : Nat} (h1 : Ow kEntry 86 h ok ok A1 c1 x.List_) : kTableO.rep h ok [.int .i64 x.Dev, .int .i64 x.Size, .slice A1 x.List_.length c1] x := ⟨[.int .i64 x.Dev], [.int .i64 x.Size, _], rfl, rfl, ⟨[.int .i64 x.Size], [_], rfl, rfl, ⟨_, _, rfl, h1⟩⟩⟩
theorem kTableO_at {h : Heap} {ok : Fp} {A : Option Addr} {xs : List Table} (k : Sl kTableO h ok A xs) {i : Int} (h0 : 0 ≤ i) (h1 : i < (xs.length : Int)) : ∃ ad A1 c1, A = some ad ∧ At h (ad.add (i.toNat * 3)) [.int .i64 ((rd xs i).Dev), .int .i64 ((rd xs i).Size), .slice A1 ((rd xs i).List_).length c1] ∧ Ow kEntry 86 h ok ok A1 c1 (rd xs i).List_ := by
  obtain ⟨ad, cs, e, hr, hA⟩ := k.at_ h0 h1 default
  obtain ⟨A1, c1, rfl, h1⟩ := kTableO_open hr
  exact ⟨ad, A1, c1, e, hA, h1⟩
theorem kTableO_ato {h : Heap} {ok0 ok : Fp} {A : Option Addr} {c : Nat} {xs : List Table} (k : Ow kTableO 75 h ok0 ok A c xs) {i : Int} (h0 : 0 ≤ i) (h1 : i < (xs.length : Int)) : ∃ ad A1 c1, A = some ad ∧ At h (ad.add (i.toNat * 3)) [.int .i64 ((rd xs i).Dev), .int .i64 ((rd xs i).Size), .slice A1 ((rd xs i).List_).length c1] ∧ Ow kEntry 86 h ok ok A1 c1 (rd xs i).List_ := by
  obtain ⟨ad, cs, e, hr, hA⟩ := k.at_ h0 h1 default
  obtain ⟨A1, c1, rfl, h1⟩ := kTableO_open hr
  exact ⟨ad, A1, c1, e, hA, h1⟩
def kTableH : Kd Table := .iso (.pair (.int .i64) (.pair (.int .i64) (.ow (Kd.any Entry 4) 86))) (fun x : Table => (x.Dev, x.Size, x.List_))
theorem kTableH_open {h : Heap} {ok : Fp} {cs : List Value} {x : Table} (k : kTableH.rep h ok cs x) : ∃ (A1 : Option Addr) (c1 : Nat), cs = [.int .i64 x.Dev, .int .i64 x.Size, .slice A1 x.List_.length c1] ∧ Ow (Kd.any Entry 4) 86 h ok ok A1 c1 x.List_ := by
  obtain ⟨_, _, rfl, rfl, ⟨_, _, rfl, rfl, ⟨A1, c1, rfl, h1⟩⟩⟩ := k
  exact ⟨A1, c1, rfl, h1⟩
theorem kTableH_mk {h : Heap} {ok : Fp} (x : Table) {A1 : Option Addr} {c1 : Nat} (h1 : Ow (Kd.any Entry 4) 86 h ok ok A1 c1 x.List_) : kTableH.rep h ok [.int .i64 x.Dev, .int .i64 x.Size, .slice A1 x.List_.length c1] x := ⟨[.int .i64 x.Dev], [.int .i64 x.Size, _], rfl, rfl, ⟨[.int .i64 x.Size], [_], rfl, rfl, ⟨_, _, rfl, h1⟩⟩⟩
theorem kTableH_at {h : Heap} {ok : Fp} {A : Option Addr} {xs : List Table} (k : Sl kTableH h ok A xs) {i : Int} (h0 : 0 ≤ i) (h1 : i < (xs.length : Int)) : ∃ ad A1 c1, A = some ad ∧ At h (ad.add (i.toNat * 3)) [.int .i64 ((rd xs i).Dev), .int .i64 ((rd xs i).Size), .slice A1 ((rd xs i).List_).length c1] ∧ Ow (Kd.any Entry 4) 86 h ok ok A1 c1 (rd xs i).List_ := by
  obtain ⟨ad, cs, e, hr, hA⟩ := k.at_ h0 h1 default
  obtain ⟨A1, c1, rfl, h1⟩ := kTableH_open hr
  exact ⟨ad, A1, c1, e, hA, h1⟩
theorem kTableH_ato {h : Heap} {ok0 ok : Fp} {A : Option Addr} {c : Nat} {xs : List Table} (k : Ow kTableH 75 h ok0 ok A c xs) {i : Int} (h0 : 0 ≤ i) (h1 : i < (xs.length : Int)) : ∃ ad A1 c1, A = some ad ∧ At h (ad.add (i.toNat * 3)) [.int .i64 ((rd xs i).Dev), .int .i64 ((rd xs i).Size), .slice A1 ((rd xs i).List_).length c1] ∧ Ow (Kd.any Entry 4) 86 h ok ok A1 c1 (rd xs i).List_ := by
  obtain ⟨ad, cs, e, hr, hA⟩ := k.at_ h0 h1 default
  obtain ⟨A1, c1, rfl, h1⟩ := kTableH_open hr
  exact ⟨ad, A1, c1, e, hA, h1⟩
def kJobR : Kd Job := .iso (.pair (.int .i64) (.pair (.int .i64) kTableR)) (fun x : Job => (x.Dev, x.At, x.Table))
theorem kJobR_open {h : Heap} {ok : Fp} {cs : List Value} {x : Job} (k : kJobR.rep h ok cs x) : ∃ (A1 : Option Addr) (c1 : Nat), cs = [.int .i64 x.Dev, .int .i64 x.At, .int .i64 x.Table.Dev, .int .i64 x.Table.Size, .slice A1 x.Table.List_.length c1] ∧ x.Table.List_.length ≤ c1 ∧ Sl kEntry h ok A1 x.Table.List_ := by
  obtain ⟨_, _, rfl, rfl, ⟨_, _, rfl, rfl, ⟨_, _, rfl, rfl, ⟨_, _, rfl, rfl, ⟨A1, c1, rfl, l1, h1⟩⟩⟩⟩⟩ := k
  exact ⟨A1, c1, rfl, l1, h1⟩
theorem kJobR_mk {h : Heap} {ok : Fp} (x : Job) {A1 : Option Addr} {c1 : Nat} (l1 : x.Table.List_.length ≤ c1) (h1 : Sl kEntry h ok A1 x.Table.List_) : kJobR.rep h ok [.int .i64 x.Dev, .int .i64 x.At, .int .i64 x.Table.Dev, .int .i64 x.Table.Size, .slice A1 x.Table.List_.length c1] x := ⟨[.int .i64 x.Dev], [.int .i64 x.At, .int .i64 x.Table.Dev, .int .i64 x.Table.Size, _], rfl, rfl, ⟨[.int .i64 x.At], [.int .i64 x.Table.Dev, .int .i64 x.Table.Size, _], rfl, rfl, ⟨[.int .i64 x.Table.Dev], [.int .i64 x.Table.Size, _], rfl, rfl, ⟨[.int .i64 x.Table.Size], [_], rfl, rfl, ⟨_, _, rfl, l1, h1⟩⟩⟩⟩⟩
theorem kJobR_at {h : Heap} {ok : Fp} {A : Option Addr} {xs : List Job} (k : Sl kJobR h ok A xs) {i : Int} (h0 : 0 ≤ i) (h1 : i < (xs.length : Int)) : ∃ ad A1 c1, A = some ad ∧ At h (ad.add (i.toNat * 5)) [.int .i64 ((rd xs i).Dev), .int .i64 ((rd xs i).At), .int .i64 (((rd xs i).Table).Dev), .int .i64 (((rd xs i).Table).Size), .slice A1 (((rd xs i).Table).List_).length c1] ∧ (rd xs i).Table.List_.length ≤ c1 ∧ Sl kEntry h ok A1 (rd xs i).Table.List_ := by
  obtain ⟨ad, cs, e, hr, hA⟩ := k.at_ h0 h1 default
  obtain ⟨A1, c1, rfl, l1, h1⟩ := kJobR_open hr
  exact ⟨ad, A1, c1, e, hA, l1, h1⟩
theorem kJobR_ato {h : Heap} {ok0 ok : Fp} {A : Option Addr} {c : Nat} {xs : List Job} (k : Ow kJobR 77 h ok0 ok A c xs) {i : Int} (h0 : 0 ≤ i) (h1 : i < (xs.length : Int)) : ∃ ad A1 c1, A = some ad ∧ At h (ad.add (i.toNat * 5)) [.int .i64 ((rd xs i).Dev), .int .i64 ((rd xs i).At), .int .i64 (((rd xs i).Table).Dev), .int .i64 (((rd xs i).Table).Size), .slice A1 (((rd xs i).Table).List_).length c1] ∧ (rd xs i).Table.List_.length ≤ c1 ∧ Sl kEntry h ok A1 (rd xs i).Table.List_ := by
  obtain ⟨ad, cs, e, hr, hA⟩ := k.at_ h0 h1 default
  obtain ⟨A1, c1, rfl, l1, h1⟩ := kJobR_open hr
  exact ⟨ad, A1, c1, e, hA, l1, h1⟩
def kJobO : Kd Job := .iso (.pair (.int .i64) (.pair (.int .i64) kTableO)) (fun x : Job => (x.Dev, x.At, x.Table))
theorem kJobO_open {h : Heap} {ok : Fp} {cs : List Value} {x : Job} (k : kJobO.rep h ok cs x) : ∃ (A1 : Option Addr) (c1 : Nat), cs = [.int .i64 x.Dev, .int .i64 x.At, .int .i64 x.Table.Dev, .int .i64 x.Table.Size, .slice A1 x.Table.List_.length c1] ∧ Ow kEntry 86 h ok ok A1 c1 x.Table.List_ := by
  obtain ⟨_, _, rfl, rfl, ⟨_, _, rfl, rfl, ⟨_, _, rfl, rfl, ⟨_, _, rfl, rfl, ⟨A1, c1, rfl, h1⟩⟩⟩⟩⟩ := k
  exact ⟨A1, c1, rfl, h1⟩
theorem kJobO_mk {h : Heap} {ok : Fp} (x : Job) {A1 : Option Addr} {c1 : Nat} (h1 : Ow kEntry 86 h ok ok A1 c1 x.Table.List_) : kJobO.rep h ok [.int .i64 x.Dev, .int .i64 x.At, .int .i64 x.Table.Dev, .int .i64 x.Table.Size, .slice A1 x.Table.List_.length c1] x := ⟨[.int .i64 x.Dev], [.int .i64 x.At, .int .i64 x.Table.Dev, .int .i64 x.Table.Size, _], rfl, rfl, ⟨[.int .i64 x.At], [.int .i64 x.Table.Dev, .int .i64 x.Table.Size, _], rfl, rfl, ⟨[.int .i64 x.Table.Dev], [.int .i64 x.Table.Size, _], rfl, rfl, ⟨[.int .i64 x.Table.Size], [_], rfl, rfl, ⟨_, _, rfl, h1⟩⟩⟩⟩⟩
theorem kJobO_at {h : Heap} {ok : Fp} {A : Option Addr} {xs : List Job} (k : Sl kJobO h ok A xs) {i : Int} (h0 : 0 ≤ i) (h1 : i < (xs.length : Int)) : ∃ ad A1 c1, A = some ad ∧ At h (ad.add (i.toNat * 5)) [.int .i64 ((rd xs i).Dev), .int .i64 ((rd xs i).At), .int .i64 (((rd xs i).Table).Dev), .int .i64 (((rd xs i).Table).Size), .slice A1 (((rd xs i).Table).List_).length c1] ∧ Ow kEntry 86 h ok ok A1 c1 (rd xs i).Table.List_ := by
  obtain ⟨ad, cs, e, hr, hA⟩ := k.at_ h0 h1 default
  obtain ⟨A1, c1, rfl, h1⟩ := kJobO_open hr
  exact ⟨ad, A1, c1, e, hA, h1⟩
theorem kJobO_ato {h : Heap} {ok0 ok : Fp} {A : Option Addr} {c : Nat} {xs : List Job} (k : Ow kJobO 77 h ok0 ok A c xs) {i : Int} (h0 : 0 ≤ i) (h1 : i < (xs.length : Int)) : ∃ ad A1 c1, A = some ad ∧ At h (ad.add (i.toNat * 5)) [.int .i64 ((rd xs i).Dev), .int .i64 ((rd xs i).At), .int .i64 (((rd xs i).Table).Dev), .int .i64 (((rd xs i).Table).Size), .slice A1 (((rd xs i).Table).List_).length c1] ∧ Ow kEntry 86 h ok ok A1 c1 (rd xs i).Table.List_ := by
  obtain ⟨ad, cs, e, hr, hA⟩ := k.at_ h0 h1 default
  obtain ⟨A1, c1, rfl, h1⟩ := kJobO_open hr
  exact ⟨ad, A1, c1, e, hA, h1⟩
def kJobH : Kd Job := .iso (.pair (.int .i64) (.pair (.int .i64) kTableH)) (fun x : Job => (x.Dev, x.At, x.Table))
theorem kJobH_open {h : Heap} {ok : Fp} {cs : List Value} {x : Job} (k : kJobH.rep h ok cs x) : ∃ (A1 : Option Addr) (c1 : Nat), cs = [.int .i64 x.Dev, .int .i64 x.At, .int .i64 x.Table.Dev, .int .i64 x.Table.Size, .slice A1 x.Table.List_.length c1] ∧ Ow (Kd.any Entry 4) 86 h ok ok A1 c1 x.Table.List_ := by
  obtain ⟨_, _, rfl, rfl, ⟨_, _, rfl, rfl, ⟨_, _, rfl, rfl, ⟨_, _, rfl, rfl, ⟨A1, c1, rfl, h1⟩⟩⟩⟩⟩ := k
  exact ⟨A1, c1, rfl, h1⟩
theorem kJobH_mk {h : Heap} {ok : Fp} (x : Job) {A1 : Option Addr} {c1 : Nat} (h1 : Ow (Kd.any Entry 4) 86 h ok ok A1 c1 x.Table.List_) : kJobH.rep h ok [.int .i64 x.Dev, .int .i64 x.At, .int .i64 x.Table.Dev, .int .i64 x.Table.Size, .slice A1 x.Table.List_.length c1] x := ⟨[.int .i64 x.Dev], [.int .i64 x.At, .int .i64 x.Table.Dev, .int .i64 x.Table.Size, _], rfl, rfl, ⟨[.int .i64 x.At], [.int .i64 x.Table.Dev, .int .i64 x.Table.Size, _], rfl, rfl, ⟨[.int .i64 x.Table.Dev], [.int .i64 x.Table.Size, _], rfl, rfl, ⟨[.int .i64 x.Table.Size], [_], rfl, rfl, ⟨_, _, rfl, h1⟩⟩⟩⟩⟩
theorem kJobH_at {h : Heap} {ok : Fp} {A : Option Addr} {xs : List Job} (k : Sl kJobH h ok A xs) {i : Int} (h0 : 0 ≤ i) (h1 : i < (xs.length : Int)) : ∃ ad A1 c1, A = some ad ∧ At h (ad.add (i.toNat * 5)) [.int .i64 ((rd xs i).Dev), .int .i64 ((rd xs i).At), .int .i64 (((rd xs i).Table).Dev), .int .i64 (((rd xs i).Table).Size), .slice A1 (((rd xs i).Table).List_).length c1] ∧ Ow (Kd.any Entry 4) 86 h ok ok A1 c1 (rd xs i).Table.List_ := by
  obtain ⟨ad, cs, e, hr, hA⟩ := k.at_ h0 h1 default
  obtain ⟨A1, c1, rfl, h1⟩ := kJobH_open hr
  exact ⟨ad, A1, c1, e, hA, h1⟩
theorem kJobH_ato {h : Heap} {ok0 ok : Fp} {A : Option Addr} {c : Nat} {xs : List Job} (k : Ow kJobH 77 h ok0 ok A c xs) {i : Int} (h0 : 0 ≤ i) (h1 : i < (xs.length : Int)) : ∃ ad A1 c1, A = some ad ∧ At h (ad.add (i.toNat * 5)) [.int .i64 ((rd xs i).Dev), .int .i64 ((rd xs i).At), .int .i64 (((rd xs i).Table).Dev), .int .i64 (((rd xs i).Table).Size), .slice A1 (((rd xs i).Table).List_).length c1] ∧ Ow (Kd.any Entry 4) 86 h ok ok A1 c1 (rd xs i).Table.List_ := by
  obtain ⟨ad, cs, e, hr, hA⟩ := k.at_ h0 h1 default
  obtain ⟨A1, c1, rfl, h1⟩ := kJobH_open hr
  exact ⟨ad, A1, c1, e, hA, h1⟩
def kSeg : Kd Seg := .iso (.pair (.int .i64) (.int .i64)) (fun x : Seg => (x.At, x.Len))
theorem kSeg_open {h : Heap} {ok : Fp} {cs : List Value} {x : Seg} (k : kSeg.rep h ok cs x) : cs = [.int .i64 x.At, .int .i64 x.Len] := by
  obtain ⟨_, _, rfl, rfl, rfl⟩ := k
  exact rfl
theorem kSeg_mk {h : Heap} {ok : Fp} (x : Seg) : kSeg.rep h ok [.int .i64 x.At, .int .i64 x.Len] x := ⟨[.int .i64 x.At], [.int .i64 x.Len], rfl, rfl, rfl⟩
theorem kSeg_at {h : Heap} {ok : Fp} {A : Option Addr} {xs : List Seg} (k : Sl kSeg h ok A xs) {i : Int} (h0 : 0 ≤ i) (h1 : i < (xs.length : Int)) : ∃ ad, A = some ad ∧ At h (ad.add (i.toNat * 2)) [.int .i64 ((rd xs i).At), .int .i64 ((rd xs i).Len)] := by
  obtain ⟨ad, cs, e, hr, hA⟩ := k.at_ h0 h1 default
  obtain rfl := kSeg_open hr
  exact ⟨ad, e, hA⟩
def kDeviceR : Kd Device := .iso (.pair (.int .i64) (.pair (.int .i64) (.pair (.sl kSeg) (.sl kSeg)))) (fun x : Device => (x.ID, x.Size, x.Free, x.Late))
theorem kDeviceR_open {h : Heap} {ok : Fp} {cs : List Value} {x : Device} (k : kDeviceR.rep h ok cs x) : ∃ (A1 : Option Addr) (c1 : Nat) (A2 : Option Addr) (c2 : Nat), cs = [.int .i64 x.ID, .int .i64 x.Size, .slice A1 x.Free.length c1, .slice A2 x.Late.length c2] ∧ x.Free.length ≤ c1 ∧ Sl kSeg h ok A1 x.Free ∧ x.Late.length ≤ c2 ∧ Sl kSeg h ok A2 x.Late := by
  obtain ⟨_, _, rfl, rfl, ⟨_, _, rfl, rfl, ⟨_, _, rfl, ⟨A1, c1, rfl, l1, h1⟩, ⟨A2, c2, rfl, l2, h2⟩⟩⟩⟩ := k
  exact ⟨A1, c1, A2, c2, rfl, l1, h1, l2, h2⟩
theorem kDeviceR_mk {h : Heap} {ok : Fp} (x : Device) {A1 : Option Addr} {c1 : Nat} (l1 : x.Free.length ≤ c1) (h1 : Sl kSeg h ok A1 x.Free) {A2 : Option Addr} {c2 : Nat} (l2 : x.Late.length ≤ c2) (h2 : Sl kSeg h ok A2 x.Late) : kDeviceR.rep h ok [.int .i64 x.ID, .int .i64 x.Size, .slice A1 x.Free.length c1, .slice A2 x.Late.length c2] x := ⟨[.int .i64 x.ID], [.int .i64 x.Size, _, _], rfl, rfl, ⟨[.int .i64 x.Size], [_, _], rfl, rfl, ⟨[_], [_], rfl, ⟨_, _, rfl, l1, h1⟩, ⟨_, _, rfl, l2, h2⟩⟩⟩⟩
theorem kDeviceR_at {h : Heap} {ok : Fp} {A : Option Addr} {xs : List Device} (k : Sl kDeviceR h ok A xs) {i : Int} (h0 : 0 ≤ i) (h1 : i < (xs.length : Int)) : ∃ ad A1 c1 A2 c2, A = some ad ∧ At h (ad.add (i.toNat * 4)) [.int .i64 ((rd xs i).ID), .int .i64 ((rd xs i).Size), .slice A1 ((rd xs i).Free).length c1, .slice A2 ((rd xs i).Late).length c2] ∧ (rd xs i).Free.length ≤ c1 ∧ Sl kSeg h ok A1 (rd xs i).Free ∧ (rd xs i).Late.length ≤ c2 ∧ Sl kSeg h ok A2 (rd xs i).Late := by
  obtain ⟨ad, cs, e, hr, hA⟩ := k.at_ h0 h1 default
  obtain ⟨A1, c1, A2, c2, rfl, l1, h1, l2, h2⟩ := kDeviceR_open hr
  exact ⟨ad, A1, c1, A2, c2, e, hA, l1, h1, l2, h2⟩
theorem kDeviceR_ato {h : Heap} {ok0 ok : Fp} {A : Option Addr} {c : Nat} {xs : List Device} (k : Ow kDeviceR 84 h ok0 ok A c xs) {i : Int} (h0 : 0 ≤ i) (h1 : i < (xs.length : Int)) : ∃ ad A1 c1 A2 c2, A = some ad ∧ At h (ad.add (i.toNat * 4)) [.int .i64 ((rd xs i).ID), .int .i64 ((rd xs i).Size), .slice A1 ((rd xs i).Free).length c1, .slice A2 ((rd xs i).Late).length c2] ∧ (rd xs i).Free.length ≤ c1 ∧ Sl kSeg h ok A1 (rd xs i).Free ∧ (rd xs i).Late.length ≤ c2 ∧ Sl kSeg h ok A2 (rd xs i).Late := by
  obtain ⟨ad, cs, e, hr, hA⟩ := k.at_ h0 h1 default
  obtain ⟨A1, c1, A2, c2, rfl, l1, h1, l2, h2⟩ := kDeviceR_open hr
  exact ⟨ad, A1, c1, A2, c2, e, hA, l1, h1, l2, h2⟩
def kDeviceO : Kd Device := .iso (.pair (.int .i64) (.pair (.int .i64) (.pair (.ow kSeg 93) (.ow kSeg 93)))) (fun x : Device => (x.ID, x.Size, x.Free, x.Late))
theorem kDeviceO_open {h : Heap} {ok : Fp} {cs : List Value} {x : Device} (k : kDeviceO.rep h ok cs x) : ∃ (A1 : Option Addr) (c1 : Nat) (A2 : Option Addr) (c2 : Nat), cs = [.int .i64 x.ID, .int .i64 x.Size, .slice A1 x.Free.length c1, .slice A2 x.Late.length c2] ∧ Ow kSeg 93 h ok ok A1 c1 x.Free ∧ Ow kSeg 93 h ok ok A2 c2 x.Late := by
  obtain ⟨_, _, rfl, rfl, ⟨_, _, rfl, rfl, ⟨_, _, rfl, ⟨A1, c1, rfl, h1⟩, ⟨A2, c2, rfl, h2⟩⟩⟩⟩ := k
  exact ⟨A1, c1, A2, c2, rfl, h1, h2⟩
theorem kDeviceO_mk {h : Heap} {ok : Fp} (x : Device) {A1 : Option Addr} {c1 : Nat} (h1 : Ow kSeg 93 h ok ok A1 c1 x.Free) {A2 : Option Addr} {c2 : Nat} (h2 : Ow kSeg 93 h ok ok A2 c2 x.Late) : kDeviceO.rep h ok [.int .i64 x.ID, .int .i64 x.Size, .slice A1 x.Free.length c1, .slice A2 x.Late.length c2] x := ⟨[.int .i64 x.ID], [.int .i64 x.Size, _, _], rfl, rfl, ⟨[.int .i64 x.Size], [_, _], rfl, rfl, ⟨[_], [_], rfl, ⟨_, _, rfl, h1⟩, ⟨_, _, rfl, h2⟩⟩⟩⟩
theorem kDeviceO_at {h : Heap} {ok : Fp} {A : Option Addr} {xs : List Device} (k : Sl kDeviceO h ok A xs) {i : Int} (h0 : 0 ≤ i) (h1 : i < (xs.length : Int)) : ∃ ad A1 c1 A2 c2, A = some ad ∧ At h (ad.add (i.toNat * 4)) [.int .i64 ((rd xs i).ID), .int .i64 ((rd xs i).Size), .slice A1 ((rd xs i).Free).length c1, .slice A2 ((rd xs i).Late).length c2] ∧ Ow kSeg 93 h ok ok A1 c1 (rd xs i).Free ∧ Ow kSeg 93 h ok ok A2 c2 (rd xs i).Late := by
  obtain ⟨ad, cs, e, hr, hA⟩ := k.at_ h0 h1 default
  obtain ⟨A1, c1, A2, c2, rfl, h1, h2⟩ := kDeviceO_open hr
  exact ⟨ad, A1, c1, A2, c2, e, hA, h1, h2⟩
theorem kDeviceO_ato {h : Heap} {ok0 ok : Fp} {A : Option Addr} {c : Nat} {xs : List Device} (k : Ow kDeviceO 84 h ok0 ok A c xs) {i : Int} (h0 : 0 ≤ i) (h1 : i < (xs.length : Int)) : ∃ ad A1 c1 A2 c2, A = some ad ∧ At h (ad.add (i.toNat * 4)) [.int .i64 ((rd xs i).ID), .int .i64 ((rd xs i).Size), .slice A1 ((rd xs i).Free).length c1, .slice A2 ((rd xs i).Late).length c2] ∧ Ow kSeg 93 h ok ok A1 c1 (rd xs i).Free ∧ Ow kSeg 93 h ok ok A2 c2 (rd xs i).Late := by
  obtain ⟨ad, cs, e, hr, hA⟩ := k.at_ h0 h1 default
  obtain ⟨A1, c1, A2, c2, rfl, h1, h2⟩ := kDeviceO_open hr
  exact ⟨ad, A1, c1, A2, c2, e, hA, h1, h2⟩
def kDeviceH : Kd Device := .iso (.pair (.int .i64) (.pair (.int .i64) (.pair (.ow (Kd.any Seg 1) 93) (.ow (Kd.any Seg 1) 93)))) (fun x : Device => (x.ID, x.Size, x.Free, x.Late))
theorem kDeviceH_open {h : Heap} {ok : Fp} {cs : List Value} {x : Device} (k : kDeviceH.rep h ok cs x) : ∃ (A1 : Option Addr) (c1 : Nat) (A2 : Option Addr) (c2 : Nat), cs = [.int .i64 x.ID, .int .i64 x.Size, .slice A1 x.Free.length c1, .slice A2 x.Late.length c2] ∧ Ow (Kd.any Seg 1) 93 h ok ok A1 c1 x.Free ∧ Ow (Kd.any Seg 1) 93 h ok ok A2 c2 x.Late := by
  obtain ⟨_, _, rfl, rfl, ⟨_, _, rfl, rfl, ⟨_, _, rfl, ⟨A1, c1, rfl, h1⟩, ⟨A2, c2, rfl, h2⟩⟩⟩⟩ := k
  exact ⟨A1, c1, A2, c2, rfl, h1, h2⟩
theorem kDeviceH_mk {h : Heap} {ok : Fp} (x : Device) {A1 : Option Addr} {c1 : Nat} (h1 : Ow (Kd.any Seg 1) 93 h ok ok A1 c1 x.Free) {A2 : Option Addr} {c2 : Nat} (h2 : Ow (Kd.any Seg 1) 93 h ok ok A2 c2 x.Late) : kDeviceH.rep h ok [.int .i64 x.ID, .int .i64 x.Size, .slice A1 x.Free.length c1, .slice A2 x.Late.length c2] x := ⟨[.int .i64 x.ID], [.int .i64 x.Size, _, _], rfl, rfl, ⟨[.int .i64 x.Size], [_, _], rfl, rfl, ⟨[_], [_], rfl, ⟨_, _, rfl, h1⟩, ⟨_, _, rfl, h2⟩⟩⟩⟩
theorem kDeviceH_at {h : Heap} {ok : Fp} {A : Option Addr} {xs : List Device} (k : Sl kDeviceH h ok A xs) {i : Int} (h0 : 0 ≤ i) (h1 : i < (xs.length : Int)) : ∃ ad A1 c1 A2 c2, A = some ad ∧ At h (ad.add (i.toNat * 4)) [.int .i64 ((rd xs i).ID), .int .i64 ((rd xs i).Size), .slice A1 ((rd xs i).Free).length c1, .slice A2 ((rd xs i).Late).length c2] ∧ Ow (Kd.any Seg 1) 93 h ok ok A1 c1 (rd xs i).Free ∧ Ow (Kd.any Seg 1) 93 h ok ok A2 c2 (rd xs i).Late := by
  obtain ⟨ad, cs, e, hr, hA⟩ := k.at_ h0 h1 default
  obtain ⟨A1, c1, A2, c2, rfl, h1, h2⟩ := kDeviceH_open hr
  exact ⟨ad, A1, c1, A2, c2, e, hA, h1, h2⟩
theorem kDeviceH_ato {h : Heap} {ok0 ok : Fp} {A : Option Addr} {c : Nat} {xs : List Device} (k : Ow kDeviceH 84 h ok0 ok A c xs) {i : Int} (h0 : 0 ≤ i) (h1 : i < (xs.length : Int)) : ∃ ad A1 c1 A2 c2, A = some ad ∧ At h (ad.add (i.toNat * 4)) [.int .i64 ((rd xs i).ID), .int .i64 ((rd xs i).Size), .slice A1 ((rd xs i).Free).length c1, .slice A2 ((rd xs i).Late).length c2] ∧ Ow (Kd.any Seg 1) 93 h ok ok A1 c1 (rd xs i).Free ∧ Ow (Kd.any Seg 1) 93 h ok ok A2 c2 (rd xs i).Late := by
  obtain ⟨ad, cs, e, hr, hA⟩ := k.at_ h0 h1 default
  obtain ⟨A1, c1, A2, c2, rfl, h1, h2⟩ := kDeviceH_open hr
  exact ⟨ad, A1, c1, A2, c2, e, hA, h1, h2⟩
def kPoolR : Kd Pool := .iso (.pair (.sl kDeviceR) (.pair (.sl kTableR) (.pair kJobR (.int .i64)))) (fun x : Pool => (x.Devices, x.Tables, x.Job, x.Next))
theorem kPoolR_open {h : Heap} {ok : Fp} {cs : List Value} {x : Pool} (k : kPoolR.rep h ok cs x) : ∃ (A1 : Option Addr) (c1 : Nat) (A2 : Option Addr) (c2 : Nat) (A3 : Option Addr) (c3 : Nat), cs = [.slice A1 x.Devices.length c1, .slice A2 x.Tables.length c2, .int .i64 x.Job.Dev, .int .i64 x.Job.At, .int .i64 x.Job.Table.Dev, .int .i64 x.Job.Table.Size, .slice A3 x.Job.Table.List_.length c3, .int .i64 x.Next] ∧ x.Devices.length ≤ c1 ∧ Sl kDeviceR h ok A1 x.Devices ∧ x.Tables.length ≤ c2 ∧ Sl kTableR h ok A2 x.Tables ∧ x.Job.Table.List_.length ≤ c3 ∧ Sl kEntry h ok A3 x.Job.Table.List_ := by
  obtain ⟨_, _, rfl, ⟨A1, c1, rfl, l1, h1⟩, ⟨_, _, rfl, ⟨A2, c2, rfl, l2, h2⟩, ⟨_, _, rfl, ⟨_, _, rfl, rfl, ⟨_, _, rfl, rfl, ⟨_, _, rfl, rfl, ⟨_, _, rfl, rfl, ⟨A3, c3, rfl, l3, h3⟩⟩⟩⟩⟩, rfl⟩⟩⟩ := k
  exact ⟨A1, c1, A2, c2, A3, c3, rfl, l1, h1, l2, h2, l3, h3⟩
theorem kPoolR_mk {h : Heap} {ok : Fp} (x : Pool) {A1 : Option Addr} {c1 : Nat} (l1 : x.Devices.length ≤ c1) (h1 : Sl kDeviceR h ok A1 x.Devices) {A2 : Option Addr} {c2 : Nat} (l2 : x.Tables.length ≤ c2) (h2 : Sl kTableR h ok A2 x.Tables) {A3 : Option Addr} {c3 : Nat} (l3 : x.Job.Table.List_.length ≤ c3) (h3 : Sl kEntry h ok A3 x.Job.Table.List_) : kPoolR.rep h ok [.slice A1 x.Devices.length c1, .slice A2 x.Tables.length c2, .int .i64 x.Job.Dev, .int .i64 x.Job.At, .int .i64 x.Job.Table.Dev, .int .i64 x.Job.Table.Size, .slice A3 x.Job.Table.List_.length c3, .int .i64 x.Next] x := ⟨[_], [_, .int .i64 x.Job.Dev, .int .i64 x.Job.At, .int .i64 x.Job.Table.Dev, .int .i64 x.Job.Table.Size, _, .int .i64 x.Next], rfl, ⟨_, _, rfl, l1, h1⟩, ⟨[_], [.int .i64 x.Job.Dev, .int .i64 x.Job.At, .int .i64 x.Job.Table.Dev, .int .i64 x.Job.Table.Size, _, .int .i64 x.Next], rfl, ⟨_, _, rfl, l2, h2⟩, ⟨[.int .i64 x.Job.Dev, .int .i64 x.Job.At, .int .i64 x.Job.Table.Dev, .int .i64 x.Job.Table.Size, _], [.int .i64 x.Next], rfl, ⟨[.int .i64 x.Job.Dev], [.int .i64 x.Job.At, .int .i64 x.Job.Table.Dev, .int .i64 x.Job.Table.Size, _], rfl, rfl, ⟨[.int .i64 x.Job.At], [.int .i64 x.Job.Table.Dev, .int .i64 x.Job.Table.Size, _], rfl, rfl, ⟨[.int .i64 x.Job.Table.Dev], [.int .i64 x.Job.Table.Size, _], rfl, rfl, ⟨[.int .i64 x.Job.Table.Size], [_], rfl, rfl, ⟨_, _, rfl, l3, h3⟩⟩⟩⟩⟩, rfl⟩⟩⟩
theorem kPoolR_at {h : Heap} {ok : Fp} {A : Option Addr} {xs : List Pool} (k : Sl kPoolR h ok A xs) {i : Int} (h0 : 0 ≤ i) (h1 : i < (xs.length : Int)) : ∃ ad A1 c1 A2 c2 A3 c3, A = some ad ∧ At h (ad.add (i.toNat * 8)) [.slice A1 ((rd xs i).Devices).length c1, .slice A2 ((rd xs i).Tables).length c2, .int .i64 (((rd xs i).Job).Dev), .int .i64 (((rd xs i).Job).At), .int .i64 ((((rd xs i).Job).Table).Dev), .int .i64 ((((rd xs i).Job).Table).Size), .slice A3 ((((rd xs i).Job).Table).List_).length c3, .int .i64 ((rd xs i).Next)] ∧ (rd xs i).Devices.length ≤ c1 ∧ Sl kDeviceR h ok A1 (rd xs i).Devices ∧ (rd xs i).Tables.length ≤ c2 ∧ Sl kTableR h ok A2 (rd xs i).Tables ∧ (rd xs i).Job.Table.List_.length ≤ c3 ∧ Sl kEntry h ok A3 (rd xs i).Job.Table.List_ := by
  obtain ⟨ad, cs, e, hr, hA⟩ := k.at_ h0 h1 default
  obtain ⟨A1, c1, A2, c2, A3, c3, rfl, l1, h1, l2, h2, l3, h3⟩ := kPoolR_open hr
  exact ⟨ad, A1, c1, A2, c2, A3, c3, e, hA, l1, h1, l2, h2, l3, h3⟩
theorem kPoolR_ato {h : Heap} {ok0 ok : Fp} {A : Option Addr} {c : Nat} {xs : List Pool} (k : Ow kPoolR 79 h ok0 ok A c xs) {i : Int} (h0 : 0 ≤ i) (h1 : i < (xs.length : Int)) : ∃ ad A1 c1 A2 c2 A3 c3, A = some ad ∧ At h (ad.add (i.toNat * 8)) [.slice A1 ((rd xs i).Devices).length c1, .slice A2 ((rd xs i).Tables).length c2, .int .i64 (((rd xs i).Job).Dev), .int .i64 (((rd xs i).Job).At), .int .i64 ((((rd xs i).Job).Table).Dev), .int .i64 ((((rd xs i).Job).Table).Size), .slice A3 ((((rd xs i).Job).Table).List_).length c3, .int .i64 ((rd xs i).Next)] ∧ (rd xs i).Devices.length ≤ c1 ∧ Sl kDeviceR h ok A1 (rd xs i).Devices ∧ (rd xs i).Tables.length ≤ c2 ∧ Sl kTableR h ok A2 (rd xs i).Tables ∧ (rd xs i).Job.Table.List_.length ≤ c3 ∧ Sl kEntry h ok A3 (rd xs i).Job.Table.List_ := by
  obtain ⟨ad, cs, e, hr, hA⟩ := k.at_ h0 h1 default
  obtain ⟨A1, c1, A2, c2, A3, c3, rfl, l1, h1, l2, h2, l3, h3⟩ := kPoolR_open hr
  exact ⟨ad, A1, c1, A2, c2, A3, c3, e, hA, l1, h1, l2, h2, l3, h3⟩
def kPoolO : Kd Pool := .iso (.pair (.ow kDeviceO 84) (.pair (.ow kTableO 75) (.pair kJobO (.int .i64)))) (fun x : Pool => (x.Devices, x.Tables, x.Job, x.Next))
theorem kPoolO_open {h : Heap} {ok : Fp} {cs : List Value} {x : Pool} (k : kPoolO.rep h ok cs x) : ∃ (A1 : Option Addr) (c1 : Nat) (A2 : Option Addr) (c2 : Nat) (A3 : Option Addr) (c3 : Nat), cs = [.slice A1 x.Devices.length c1, .slice A2 x.Tables.length c2, .int .i64 x.Job.Dev, .int .i64 x.Job.At, .int .i64 x.Job.Table.Dev, .int .i64 x.Job.Table.Size, .slice A3 x.Job.Table.List_.length c3, .int .i64 x.Next] ∧ Ow kDeviceO 84 h ok ok A1 c1 x.Devices ∧ Ow kTableO 75 h ok ok A2 c2 x.Tables ∧ Ow kEntry 86 h ok ok A3 c3 x.Job.Table.List_ := by
  obtain ⟨_, _, rfl, ⟨A1, c1, rfl, h1⟩, ⟨_, _, rfl, ⟨A2, c2, rfl, h2⟩, ⟨_, _, rfl, ⟨_, _, rfl, rfl, ⟨_, _, rfl, rfl, ⟨_, _, rfl, rfl, ⟨_, _, rfl, rfl, ⟨A3, c3, rfl, h3⟩⟩⟩⟩⟩, rfl⟩⟩⟩ := k
  exact ⟨A1, c1, A2, c2, A3, c3, rfl, h1, h2, h3⟩
theorem kPoolO_mk {h : Heap} {ok : Fp} (x : Pool) {A1 : Option Addr} {c1 : Nat} (h1 : Ow kDeviceO 84 h ok ok A1 c1 x.Devices) {A2 : Option Addr} {c2 : Nat} (h2 : Ow kTableO 75 h ok ok A2 c2 x.Tables) {A3 : Option Addr} {c3 : Nat} (h3 : Ow kEntry 86 h ok ok A3 c3 x.Job.Table.List_) : kPoolO.rep h ok [.slice A1 x.Devices.length c1, .slice A2 x.Tables.length c2, .int .i64 x.Job.Dev, .int .i64 x.Job.At, .int .i64 x.Job.Table.Dev, .int .i64 x.Job.Table.Size, .slice A3 x.Job.Table.List_.length c3, .int .i64 x.Next] x := ⟨[_], [_, .int .i64 x.Job.Dev, .int .i64 x.Job.At, .int .i64 x.Job.Table.Dev, .int .i64 x.Job.Table.Size, _, .int .i64 x.Next], rfl, ⟨_, _, rfl, h1⟩, ⟨[_], [.int .i64 x.Job.Dev, .int .i64 x.Job.At, .int .i64 x.Job.Table.Dev, .int .i64 x.Job.Table.Size, _, .int .i64 x.Next], rfl, ⟨_, _, rfl, h2⟩, ⟨[.int .i64 x.Job.Dev, .int .i64 x.Job.At, .int .i64 x.Job.Table.Dev, .int .i64 x.Job.Table.Size, _], [.int .i64 x.Next], rfl, ⟨[.int .i64 x.Job.Dev], [.int .i64 x.Job.At, .int .i64 x.Job.Table.Dev, .int .i64 x.Job.Table.Size, _], rfl, rfl, ⟨[.int .i64 x.Job.At], [.int .i64 x.Job.Table.Dev, .int .i64 x.Job.Table.Size, _], rfl, rfl, ⟨[.int .i64 x.Job.Table.Dev], [.int .i64 x.Job.Table.Size, _], rfl, rfl, ⟨[.int .i64 x.Job.Table.Size], [_], rfl, rfl, ⟨_, _, rfl, h3⟩⟩⟩⟩⟩, rfl⟩⟩⟩
theorem kPoolO_at {h : Heap} {ok : Fp} {A : Option Addr} {xs : List Pool} (k : Sl kPoolO h ok A xs) {i : Int} (h0 : 0 ≤ i) (h1 : i < (xs.length : Int)) : ∃ ad A1 c1 A2 c2 A3 c3, A = some ad ∧ At h (ad.add (i.toNat * 8)) [.slice A1 ((rd xs i).Devices).length c1, .slice A2 ((rd xs i).Tables).length c2, .int .i64 (((rd xs i).Job).Dev), .int .i64 (((rd xs i).Job).At), .int .i64 ((((rd xs i).Job).Table).Dev), .int .i64 ((((rd xs i).Job).Table).Size), .slice A3 ((((rd xs i).Job).Table).List_).length c3, .int .i64 ((rd xs i).Next)] ∧ Ow kDeviceO 84 h ok ok A1 c1 (rd xs i).Devices ∧ Ow kTableO 75 h ok ok A2 c2 (rd xs i).Tables ∧ Ow kEntry 86 h ok ok A3 c3 (rd xs i).Job.Table.List_ := by
  obtain ⟨ad, cs, e, hr, hA⟩ := k.at_ h0 h1 default
  obtain ⟨A1, c1, A2, c2, A3, c3, rfl, h1, h2, h3⟩ := kPoolO_open hr
  exact ⟨ad, A1, c1, A2, c2, A3, c3, e, hA, h1, h2, h3⟩
theorem kPoolO_ato {h : Heap} {ok0 ok : Fp} {A : Option Addr} {c : Nat} {xs : List Pool} (k : Ow kPoolO 79 h ok0 ok A c xs) {i : Int} (h0 : 0 ≤ i) (h1 : i < (xs.length : Int)) : ∃ ad A1 c1 A2 c2 A3 c3, A = some ad ∧ At h (ad.add (i.toNat * 8)) [.slice A1 ((rd xs i).Devices).length c1, .slice A2 ((rd xs i).Tables).length c2, .int .i64 (((rd xs i).Job).Dev), .int .i64 (((rd xs i).Job).At), .int .i64 ((((rd xs i).Job).Table).Dev), .int .i64 ((((rd xs i).Job).Table).Size), .slice A3 ((((rd xs i).Job).Table).List_).length c3, .int .i64 ((rd xs i).Next)] ∧ Ow kDeviceO 84 h ok ok A1 c1 (rd xs i).Devices ∧ Ow kTableO 75 h ok ok A2 c2 (rd xs i).Tables ∧ Ow kEntry 86 h ok ok A3 c3 (rd xs i).Job.Table.List_ := by
  obtain ⟨ad, cs, e, hr, hA⟩ := k.at_ h0 h1 default
  obtain ⟨A1, c1, A2, c2, A3, c3, rfl, h1, h2, h3⟩ := kPoolO_open hr
  exact ⟨ad, A1, c1, A2, c2, A3, c3, e, hA, h1, h2, h3⟩
def kPoolH : Kd Pool := .iso (.pair (.ow kDeviceH 84) (.pair (.ow kTableH 75) (.pair kJobH (.int .i64)))) (fun x : Pool => (x.Devices, x.Tables, x.Job, x.Next))
theorem kPoolH_open {h : Heap} {ok : Fp} {cs : List Value} {x : Pool} (k : kPoolH.rep h ok cs x) : ∃ (A1 : Option Addr) (c1 : Nat) (A2 : Option Addr) (c2 : Nat) (A3 : Option Addr) (c3 : Nat), cs = [.slice A1 x.Devices.length c1, .slice A2 x.Tables.length c2, .int .i64 x.Job.Dev, .int .i64 x.Job.At, .int .i64 x.Job.Table.Dev, .int .i64 x.Job.Table.Size, .slice A3 x.Job.Table.List_.length c3, .int .i64 x.Next] ∧ Ow kDeviceH 84 h ok ok A1 c1 x.Devices ∧ Ow kTableH 75 h ok ok A2 c2 x.Tables ∧ Ow (Kd.any Entry 4) 86 h ok ok A3 c3 x.Job.Table.List_ := by
  obtain ⟨_, _, rfl, ⟨A1, c1, rfl, h1⟩, ⟨_, _, rfl, ⟨A2, c2, rfl, h2⟩, ⟨_, _, rfl, ⟨_, _, rfl, rfl, ⟨_, _, rfl, rfl, ⟨_, _, rfl, rfl, ⟨_, _, rfl, rfl, ⟨A3, c3, rfl, h3⟩⟩⟩⟩⟩, rfl⟩⟩⟩ := k
  exact ⟨A1, c1, A2, c2, A3, c3, rfl, h1, h2, h3⟩
theorem kPoolH_mk {h : Heap} {ok : Fp} (x : Pool) {A1 : Option Addr} {c1 : Nat} (h1 : Ow kDeviceH 84 h ok ok A1 c1 x.Devices) {A2 : Option Addr} {c2 : Nat} (h2 : Ow kTableH 75 h ok ok A2 c2 x.Tables) {A3 : Option Addr} {c3 : Nat} (h3 : Ow (Kd.any Entry 4) 86 h ok ok A3 c3 x.Job.Table.List_) : kPoolH.rep h ok [.slice A1 x.Devices.length c1, .slice A2 x.Tables.length c2, .int .i64 x.Job.Dev, .int .i64 x.Job.At, .int .i64 x.Job.Table.Dev, .int .i64 x.Job.Table.Size, .slice A3 x.Job.Table.List_.length c3, .int .i64 x.Next] x := ⟨[_], [_, .int .i64 x.Job.Dev, .int .i64 x.Job.At, .int .i64 x.Job.Table.Dev, .int .i64 x.Job.Table.Size, _, .int .i64 x.Next], rfl, ⟨_, _, rfl, h1⟩, ⟨[_], [.int .i64 x.Job.Dev, .int .i64 x.Job.At, .int .i64 x.Job.Table.Dev, .int .i64 x.Job.Table.Size, _, .int .i64 x.Next], rfl, ⟨_, _, rfl, h2⟩, ⟨[.int .i64 x.Job.Dev, .int .i64 x.Job.At, .int .i64 x.Job.Table.Dev, .int .i64 x.Job.Table.Size, _], [.int .i64 x.Next], rfl, ⟨[.int .i64 x.Job.Dev], [.int .i64 x.Job.At, .int .i64 x.Job.Table.Dev, .int .i64 x.Job.Table.Size, _], rfl, rfl, ⟨[.int .i64 x.Job.At], [.int .i64 x.Job.Table.Dev, .int .i64 x.Job.Table.Size, _], rfl, rfl, ⟨[.int .i64 x.Job.Table.Dev], [.int .i64 x.Job.Table.Size, _], rfl, rfl, ⟨[.int .i64 x.Job.Table.Size], [_], rfl, rfl, ⟨_, _, rfl, h3⟩⟩⟩⟩⟩, rfl⟩⟩⟩
theorem kPoolH_at {h : Heap} {ok : Fp} {A : Option Addr} {xs : List Pool} (k : Sl kPoolH h ok A xs) {i : Int} (h0 : 0 ≤ i) (h1 : i < (xs.length : Int)) : ∃ ad A1 c1 A2 c2 A3 c3, A = some ad ∧ At h (ad.add (i.toNat * 8)) [.slice A1 ((rd xs i).Devices).length c1, .slice A2 ((rd xs i).Tables).length c2, .int .i64 (((rd xs i).Job).Dev), .int .i64 (((rd xs i).Job).At), .int .i64 ((((rd xs i).Job).Table).Dev), .int .i64 ((((rd xs i).Job).Table).Size), .slice A3 ((((rd xs i).Job).Table).List_).length c3, .int .i64 ((rd xs i).Next)] ∧ Ow kDeviceH 84 h ok ok A1 c1 (rd xs i).Devices ∧ Ow kTableH 75 h ok ok A2 c2 (rd xs i).Tables ∧ Ow (Kd.any Entry 4) 86 h ok ok A3 c3 (rd xs i).Job.Table.List_ := by
  obtain ⟨ad, cs, e, hr, hA⟩ := k.at_ h0 h1 default
  obtain ⟨A1, c1, A2, c2, A3, c3, rfl, h1, h2, h3⟩ := kPoolH_open hr
  exact ⟨ad, A1, c1, A2, c2, A3, c3, e, hA, h1, h2, h3⟩
theorem kPoolH_ato {h : Heap} {ok0 ok : Fp} {A : Option Addr} {c : Nat} {xs : List Pool} (k : Ow kPoolH 79 h ok0 ok A c xs) {i : Int} (h0 : 0 ≤ i) (h1 : i < (xs.length : Int)) : ∃ ad A1 c1 A2 c2 A3 c3, A = some ad ∧ At h (ad.add (i.toNat * 8)) [.slice A1 ((rd xs i).Devices).length c1, .slice A2 ((rd xs i).Tables).length c2, .int .i64 (((rd xs i).Job).Dev), .int .i64 (((rd xs i).Job).At), .int .i64 ((((rd xs i).Job).Table).Dev), .int .i64 ((((rd xs i).Job).Table).Size), .slice A3 ((((rd xs i).Job).Table).List_).length c3, .int .i64 ((rd xs i).Next)] ∧ Ow kDeviceH 84 h ok ok A1 c1 (rd xs i).Devices ∧ Ow kTableH 75 h ok ok A2 c2 (rd xs i).Tables ∧ Ow (Kd.any Entry 4) 86 h ok ok A3 c3 (rd xs i).Job.Table.List_ := by
  obtain ⟨ad, cs, e, hr, hA⟩ := k.at_ h0 h1 default
  obtain ⟨A1, c1, A2, c2, A3, c3, rfl, h1, h2, h3⟩ := kPoolH_open hr
  exact ⟨ad, A1, c1, A2, c2, A3, c3, e, hA, h1, h2, h3⟩
def khermitagelaw9AskR : Kd hermitagelaw9Ask := .iso (.pair kPoolR (.sl kPtr)) (fun x : hermitagelaw9Ask => (x.P, x.Q))
theorem khermitagelaw9AskR_open {h : Heap} {ok : Fp} {cs : List Value} {x : hermitagelaw9Ask} (k : khermitagelaw9AskR.rep h ok cs x) : ∃ (A1 : Option Addr) (c1 : Nat) (A2 : Option Addr) (c2 : Nat) (A3 : Option Addr) (c3 : Nat) (A4 : Option Addr) (c4 : Nat), cs = [.slice A1 x.P.Devices.length c1, .slice A2 x.P.Tables.length c2, .int .i64 x.P.Job.Dev, .int .i64 x.P.Job.At, .int .i64 x.P.Job.Table.Dev, .int .i64 x.P.Job.Table.Size, .slice A3 x.P.Job.Table.List_.length c3, .int .i64 x.P.Next, .slice A4 x.Q.length c4] ∧ x.P.Devices.length ≤ c1 ∧ Sl kDeviceR h ok A1 x.P.Devices ∧ x.P.Tables.length ≤ c2 ∧ Sl kTableR h ok A2 x.P.Tables ∧ x.P.Job.Table.List_.length ≤ c3 ∧ Sl kEntry h ok A3 x.P.Job.Table.List_ ∧ x.Q.length ≤ c4 ∧ Sl kPtr h ok A4 x.Q := by
  obtain ⟨_, _, rfl, ⟨_, _, rfl, ⟨A1, c1, rfl, l1, h1⟩, ⟨_, _, rfl, ⟨A2, c2, rfl, l2, h2⟩, ⟨_, _, rfl, ⟨_, _, rfl, rfl, ⟨_, _, rfl, rfl, ⟨_, _, rfl, rfl, ⟨_, _, rfl, rfl, ⟨A3, c3, rfl, l3, h3⟩⟩⟩⟩⟩, rfl⟩⟩⟩, ⟨A4, c4, rfl, l4, h4⟩⟩ := k
  exact ⟨A1, c1, A2, c2, A3, c3, A4, c4, rfl, l1, h1, l2, h2, l3, h3, l4, h4⟩
theorem khermitagelaw9AskR_mk {h : Heap} {ok : Fp} (x : hermitagelaw9Ask) {A1 : Option Addr} {c1 : Nat} (l1 : x.P.Devices.length ≤ c1) (h1 : Sl kDeviceR h ok A1 x.P.Devices) {A2 : Option Addr} {c2 : Nat} (l2 : x.P.Tables.length ≤ c2) (h2 : Sl kTableR h ok A2 x.P.Tables) {A3 : Option Addr} {c3 : Nat} (l3 : x.P.Job.Table.List_.length ≤ c3) (h3 : Sl kEntry h ok A3 x.P.Job.Table.List_) {A4 : Option Addr} {c4 : Nat} (l4 : x.Q.length ≤ c4) (h4 : Sl kPtr h ok A4 x.Q) : khermitagelaw9AskR.rep h ok [.slice A1 x.P.Devices.length c1, .slice A2 x.P.Tables.length c2, .int .i64 x.P.Job.Dev, .int .i64 x.P.Job.At, .int .i64 x.P.Job.Table.Dev, .int .i64 x.P.Job.Table.Size, .slice A3 x.P.Job.Table.List_.length c3, .int .i64 x.P.Next, .slice A4 x.Q.length c4] x := ⟨[_, _, .int .i64 x.P.Job.Dev, .int .i64 x.P.Job.At, .int .i64 x.P.Job.Table.Dev, .int .i64 x.P.Job.Table.Size, _, .int .i64 x.P.Next], [_], rfl, ⟨[_], [_, .int .i64 x.P.Job.Dev, .int .i64 x.P.Job.At, .int .i64 x.P.Job.Table.Dev, .int .i64 x.P.Job.Table.Size, _, .int .i64 x.P.Next], rfl, ⟨_, _, rfl, l1, h1⟩, ⟨[_], [.int .i64 x.P.Job.Dev, .int .i64 x.P.Job.At, .int .i64 x.P.Job.Table.Dev, .int .i64 x.P.Job.Table.Size, _, .int .i64 x.P.Next], rfl, ⟨_, _, rfl, l2, h2⟩, ⟨[.int .i64 x.P.Job.Dev, .int .i64 x.P.Job.At, .int .i64 x.P.Job.Table.Dev, .int .i64 x.P.Job.Table.Size, _], [.int .i64 x.P.Next], rfl, ⟨[.int .i64 x.P.Job.Dev], [.int .i64 x.P.Job.At, .int .i64 x.P.Job.Table.Dev, .int .i64 x.P.Job.Table.Size, _], rfl, rfl, ⟨[.int .i64 x.P.Job.At], [.int .i64 x.P.Job.Table.Dev, .int .i64 x.P.Job.Table.Size, _], rfl, rfl, ⟨[.int .i64 x.P.Job.Table.Dev], [.int .i64 x.P.Job.Table.Size, _], rfl, rfl, ⟨[.int .i64 x.P.Job.Table.Size], [_], rfl, rfl, ⟨_, _, rfl, l3, h3⟩⟩⟩⟩⟩, rfl⟩⟩⟩, ⟨_, _, rfl, l4, h4⟩⟩
theorem khermitagelaw9AskR_at {h : Heap} {ok : Fp} {A : Option Addr} {xs : List hermitagelaw9Ask} (k : Sl khermitagelaw9AskR h ok A xs) {i : Int} (h0 : 0 ≤ i) (h1 : i < (xs.length : Int)) : ∃ ad A1 c1 A2 c2 A3 c3 A4 c4, A = some ad ∧ At h (ad.add (i.toNat * 9)) [.slice A1 (((rd xs i).P).Devices).length c1, .slice A2 (((rd xs i).P).Tables).length c2, .int .i64 ((((rd xs i).P).Job).Dev), .int .i64 ((((rd xs i).P).Job).At), .int .i64 (((((rd xs i).P).Job).Table).Dev), .int .i64 (((((rd xs i).P).Job).Table).Size), .slice A3 (((((rd xs i).P).Job).Table).List_).length c3, .int .i64 (((rd xs i).P).Next), .slice A4 ((rd xs i).Q).length c4] ∧ (rd xs i).P.Devices.length ≤ c1 ∧ Sl kDeviceR h ok A1 (rd xs i).P.Devices ∧ (rd xs i).P.Tables.length ≤ c2 ∧ Sl kTableR h ok A2 (rd xs i).P.Tables ∧ (rd xs i).P.Job.Table.List_.length ≤ c3 ∧ Sl kEntry h ok A3 (rd xs i).P.Job.Table.List_ ∧ (rd xs i).Q.length ≤ c4 ∧ Sl kPtr h ok A4 (rd xs i).Q := by
  obtain ⟨ad, cs, e, hr, hA⟩ := k.at_ h0 h1 default
  obtain ⟨A1, c1, A2, c2, A3, c3, A4, c4, rfl, l1, h1, l2, h2, l3, h3, l4, h4⟩ := khermitagelaw9AskR_open hr
  exact ⟨ad, A1, c1, A2, c2, A3, c3, A4, c4, e, hA, l1, h1, l2, h2, l3, h3, l4, h4⟩
theorem khermitagelaw9AskR_ato {h : Heap} {ok0 ok : Fp} {A : Option Addr} {c : Nat} {xs : List hermitagelaw9Ask} (k : Ow khermitagelaw9AskR 81 h ok0 ok A c xs) {i : Int} (h0 : 0 ≤ i) (h1 : i < (xs.length : Int)) : ∃ ad A1 c1 A2 c2 A3 c3 A4 c4, A = some ad ∧ At h (ad.add (i.toNat * 9)) [.slice A1 (((rd xs i).P).Devices).length c1, .slice A2 (((rd xs i).P).Tables).length c2, .int .i64 ((((rd xs i).P).Job).Dev), .int .i64 ((((rd xs i).P).Job).At), .int .i64 (((((rd xs i).P).Job).Table).Dev), .int .i64 (((((rd xs i).P).Job).Table).Size), .slice A3 (((((rd xs i).P).Job).Table).List_).length c3, .int .i64 (((rd xs i).P).Next), .slice A4 ((rd xs i).Q).length c4] ∧ (rd xs i).P.Devices.length ≤ c1 ∧ Sl kDeviceR h ok A1 (rd xs i).P.Devices ∧ (rd xs i).P.Tables.length ≤ c2 ∧ Sl kTableR h ok A2 (rd xs i).P.Tables ∧ (rd xs i).P.Job.Table.List_.length ≤ c3 ∧ Sl kEntry h ok A3 (rd xs i).P.Job.Table.List_ ∧ (rd xs i).Q.length ≤ c4 ∧ Sl kPtr h ok A4 (rd xs i).Q := by
  obtain ⟨ad, cs, e, hr, hA⟩ := k.at_ h0 h1 default
  obtain ⟨A1, c1, A2, c2, A3, c3, A4, c4, rfl, l1, h1, l2, h2, l3, h3, l4, h4⟩ := khermitagelaw9AskR_open hr
  exact ⟨ad, A1, c1, A2, c2, A3, c3, A4, c4, e, hA, l1, h1, l2, h2, l3, h3, l4, h4⟩
def khermitagelaw9AskO : Kd hermitagelaw9Ask := .iso (.pair kPoolO (.ow kPtr 70)) (fun x : hermitagelaw9Ask => (x.P, x.Q))
theorem khermitagelaw9AskO_open {h : Heap} {ok : Fp} {cs : List Value} {x : hermitagelaw9Ask} (k : khermitagelaw9AskO.rep h ok cs x) : ∃ (A1 : Option Addr) (c1 : Nat) (A2 : Option Addr) (c2 : Nat) (A3 : Option Addr) (c3 : Nat) (A4 : Option Addr) (c4 : Nat), cs = [.slice A1 x.P.Devices.length c1, .slice A2 x.P.Tables.length c2, .int .i64 x.P.Job.Dev, .int .i64 x.P.Job.At, .int .i64 x.P.Job.Table.Dev, .int .i64 x.P.Job.Table.Size, .slice A3 x.P.Job.Table.List_.length c3, .int .i64 x.P.Next, .slice A4 x.Q.length c4] ∧ Ow kDeviceO 84 h ok ok A1 c1 x.P.Devices ∧ Ow kTableO 75 h ok ok A2 c2 x.P.Tables ∧ Ow kEntry 86 h ok ok A3 c3 x.P.Job.Table.List_ ∧ Ow kPtr 70 h ok ok A4 c4 x.Q := by
  obtain ⟨_, _, rfl, ⟨_, _, rfl, ⟨A1, c1, rfl, h1⟩, ⟨_, _, rfl, ⟨A2, c2, rfl, h2⟩, ⟨_, _, rfl, ⟨_, _, rfl, rfl, ⟨_, _, rfl, rfl, ⟨_, _, rfl, rfl, ⟨_, _, rfl, rfl, ⟨A3, c3, rfl, h3⟩⟩⟩⟩⟩, rfl⟩⟩⟩, ⟨A4, c4, rfl, h4⟩⟩ := k
  exact ⟨A1, c1, A2, c2, A3, c3, A4, c4, rfl, h1, h2, h3, h4⟩
theorem khermitagelaw9AskO_mk {h : Heap} {ok : Fp} (x : hermitagelaw9Ask) {A1 : Option Addr} {c1 : Nat} (h1 : Ow kDeviceO 84 h ok ok A1 c1 x.P.Devices) {A2 : Option Addr} {c2 : Nat} (h2 : Ow kTableO 75 h ok ok A2 c2 x.P.Tables) {A3 : Option Addr} {c3 : Nat} (h3 : Ow kEntry 86 h ok ok A3 c3 x.P.Job.Table.List_) {A4 : Option Addr} {c4 : Nat} (h4 : Ow kPtr 70 h ok ok A4 c4 x.Q) : khermitagelaw9AskO.rep h ok [.slice A1 x.P.Devices.length c1, .slice A2 x.P.Tables.length c2, .int .i64 x.P.Job.Dev, .int .i64 x.P.Job.At, .int .i64 x.P.Job.Table.Dev, .int .i64 x.P.Job.Table.Size, .slice A3 x.P.Job.Table.List_.length c3, .int .i64 x.P.Next, .slice A4 x.Q.length c4] x := ⟨[_, _, .int .i64 x.P.Job.Dev, .int .i64 x.P.Job.At, .int .i64 x.P.Job.Table.Dev, .int .i64 x.P.Job.Table.Size, _, .int .i64 x.P.Next], [_], rfl, ⟨[_], [_, .int .i64 x.P.Job.Dev, .int .i64 x.P.Job.At, .int .i64 x.P.Job.Table.Dev, .int .i64 x.P.Job.Table.Size, _, .int .i64 x.P.Next], rfl, ⟨_, _, rfl, h1⟩, ⟨[_], [.int .i64 x.P.Job.Dev, .int .i64 x.P.Job.At, .int .i64 x.P.Job.Table.Dev, .int .i64 x.P.Job.Table.Size, _, .int .i64 x.P.Next], rfl, ⟨_, _, rfl, h2⟩, ⟨[.int .i64 x.P.Job.Dev, .int .i64 x.P.Job.At, .int .i64 x.P.Job.Table.Dev, .int .i64 x.P.Job.Table.Size, _], [.int .i64 x.P.Next], rfl, ⟨[.int .i64 x.P.Job.Dev], [.int .i64 x.P.Job.At, .int .i64 x.P.Job.Table.Dev, .int .i64 x.P.Job.Table.Size, _], rfl, rfl, ⟨[.int .i64 x.P.Job.At], [.int .i64 x.P.Job.Table.Dev, .int .i64 x.P.Job.Table.Size, _], rfl, rfl, ⟨[.int .i64 x.P.Job.Table.Dev], [.int .i64 x.P.Job.Table.Size, _], rfl, rfl, ⟨[.int .i64 x.P.Job.Table.Size], [_], rfl, rfl, ⟨_, _, rfl, h3⟩⟩⟩⟩⟩, rfl⟩⟩⟩, ⟨_, _, rfl, h4⟩⟩
theorem khermitagelaw9AskO_at {h : Heap} {ok : Fp} {A : Option Addr} {xs : List hermitagelaw9Ask} (k : Sl khermitagelaw9AskO h ok A xs) {i : Int} (h0 : 0 ≤ i) (h1 : i < (xs.length : Int)) : ∃ ad A1 c1 A2 c2 A3 c3 A4 c4, A = some ad ∧ At h (ad.add (i.toNat * 9)) [.slice A1 (((rd xs i).P).Devices).length c1, .slice A2 (((rd xs i).P).Tables).length c2, .int .i64 ((((rd xs i).P).Job).Dev), .int .i64 ((((rd xs i).P).Job).At), .int .i64 (((((rd xs i).P).Job).Table).Dev), .int .i64 (((((rd xs i).P).Job).Table).Size), .slice A3 (((((rd xs i).P).Job).Table).List_).length c3, .int .i64 (((rd xs i).P).Next), .slice A4 ((rd xs i).Q).length c4] ∧ Ow kDeviceO 84 h ok ok A1 c1 (rd xs i).P.Devices ∧ Ow kTableO 75 h ok ok A2 c2 (rd xs i).P.Tables ∧ Ow kEntry 86 h ok ok A3 c3 (rd xs i).P.Job.Table.List_ ∧ Ow kPtr 70 h ok ok A4 c4 (rd xs i).Q := by
  obtain ⟨ad, cs, e, hr, hA⟩ := k.at_ h0 h1 default
  obtain ⟨A1, c1, A2, c2, A3, c3, A4, c4, rfl, h1, h2, h3, h4⟩ := khermitagelaw9AskO_open hr
  exact ⟨ad, A1, c1, A2, c2, A3, c3, A4, c4, e, hA, h1, h2, h3, h4⟩
theorem khermitagelaw9AskO_ato {h : Heap} {ok0 ok : Fp} {A : Option Addr} {c : Nat} {xs : List hermitagelaw9Ask} (k : Ow khermitagelaw9AskO 81 h ok0 ok A c xs) {i : Int} (h0 : 0 ≤ i) (h1 : i < (xs.length : Int)) : ∃ ad A1 c1 A2 c2 A3 c3 A4 c4, A = some ad ∧ At h (ad.add (i.toNat * 9)) [.slice A1 (((rd xs i).P).Devices).length c1, .slice A2 (((rd xs i).P).Tables).length c2, .int .i64 ((((rd xs i).P).Job).Dev), .int .i64 ((((rd xs i).P).Job).At), .int .i64 (((((rd xs i).P).Job).Table).Dev), .int .i64 (((((rd xs i).P).Job).Table).Size), .slice A3 (((((rd xs i).P).Job).Table).List_).length c3, .int .i64 (((rd xs i).P).Next), .slice A4 ((rd xs i).Q).length c4] ∧ Ow kDeviceO 84 h ok ok A1 c1 (rd xs i).P.Devices ∧ Ow kTableO 75 h ok ok A2 c2 (rd xs i).P.Tables ∧ Ow kEntry 86 h ok ok A3 c3 (rd xs i).P.Job.Table.List_ ∧ Ow kPtr 70 h ok ok A4 c4 (rd xs i).Q := by
  obtain ⟨ad, cs, e, hr, hA⟩ := k.at_ h0 h1 default
  obtain ⟨A1, c1, A2, c2, A3, c3, A4, c4, rfl, h1, h2, h3, h4⟩ := khermitagelaw9AskO_open hr
  exact ⟨ad, A1, c1, A2, c2, A3, c3, A4, c4, e, hA, h1, h2, h3, h4⟩
def khermitagelaw9AskH : Kd hermitagelaw9Ask := .iso (.pair kPoolH (.ow (Kd.any Ptr 1) 70)) (fun x : hermitagelaw9Ask => (x.P, x.Q))
theorem khermitagelaw9AskH_open {h : Heap} {ok : Fp} {cs : List Value} {x : hermitagelaw9Ask} (k : khermitagelaw9AskH.rep h ok cs x) : ∃ (A1 : Option Addr) (c1 : Nat) (A2 : Option Addr) (c2 : Nat) (A3 : Option Addr) (c3 : Nat) (A4 : Option Addr) (c4 : Nat), cs = [.slice A1 x.P.Devices.length c1, .slice A2 x.P.Tables.length c2, .int .i64 x.P.Job.Dev, .int .i64 x.P.Job.At, .int .i64 x.P.Job.Table.Dev, .int .i64 x.P.Job.Table.Size, .slice A3 x.P.Job.Table.List_.length c3, .int .i64 x.P.Next, .slice A4 x.Q.length c4] ∧ Ow kDeviceH 84 h ok ok A1 c1 x.P.Devices ∧ Ow kTableH 75 h ok ok A2 c2 x.P.Tables ∧ Ow (Kd.any Entry 4) 86 h ok ok A3 c3 x.P.Job.Table.List_ ∧ Ow (Kd.any Ptr 1) 70 h ok ok A4 c4 x.Q := by
  obtain ⟨_, _, rfl, ⟨_, _, rfl, ⟨A1, c1, rfl, h1⟩, ⟨_, _, rfl, ⟨A2, c2, rfl, h2⟩, ⟨_, _, rfl, ⟨_, _, rfl, rfl, ⟨_, _, rfl, rfl, ⟨_, _, rfl, rfl, ⟨_, _, rfl, rfl, ⟨A3, c3, rfl, h3⟩⟩⟩⟩⟩, rfl⟩⟩⟩, ⟨A4, c4, rfl, h4⟩⟩ := k
  exact ⟨A1, c1, A2, c2, A3, c3, A4, c4, rfl, h1, h2, h3, h4⟩
theorem khermitagelaw9AskH_mk {h : Heap} {ok : Fp} (x : hermitagelaw9Ask) {A1 : Option Addr} {c1 : Nat} (h1 : Ow kDeviceH 84 h ok ok A1 c1 x.P.Devices) {A2 : Option Addr} {c2 : Nat} (h2 : Ow kTableH 75 h ok ok A2 c2 x.P.Tables) {A3 : Option Addr} {c3 : Nat} (h3 : Ow (Kd.any Entry 4) 86 h ok ok A3 c3 x.P.Job.Table.List_) {A4 : Option Addr} {c4 : Nat} (h4 : Ow (Kd.any Ptr 1) 70 h ok ok A4 c4 x.Q) : khermitagelaw9AskH.rep h ok [.slice A1 x.P.Devices.length c1, .slice A2 x.P.Tables.length c2, .int .i64 x.P.Job.Dev, .int .i64 x.P.Job.At, .int .i64 x.P.Job.Table.Dev, .int .i64 x.P.Job.Table.Size, .slice A3 x.P.Job.Table.List_.length c3, .int .i64 x.P.Next, .slice A4 x.Q.length c4] x := ⟨[_, _, .int .i64 x.P.Job.Dev, .int .i64 x.P.Job.At, .int .i64 x.P.Job.Table.Dev, .int .i64 x.P.Job.Table.Size, _, .int .i64 x.P.Next], [_], rfl, ⟨[_], [_, .int .i64 x.P.Job.Dev, .int .i64 x.P.Job.At, .int .i64 x.P.Job.Table.Dev, .int .i64 x.P.Job.Table.Size, _, .int .i64 x.P.Next], rfl, ⟨_, _, rfl, h1⟩, ⟨[_], [.int .i64 x.P.Job.Dev, .int .i64 x.P.Job.At, .int .i64 x.P.Job.Table.Dev, .int .i64 x.P.Job.Table.Size, _, .int .i64 x.P.Next], rfl, ⟨_, _, rfl, h2⟩, ⟨[.int .i64 x.P.Job.Dev, .int .i64 x.P.Job.At, .int .i64 x.P.Job.Table.Dev, .int .i64 x.P.Job.Table.Size, _], [.int .i64 x.P.Next], rfl, ⟨[.int .i64 x.P.Job.Dev], [.int .i64 x.P.Job.At, .int .i64 x.P.Job.Table.Dev, .int .i64 x.P.Job.Table.Size, _], rfl, rfl, ⟨[.int .i64 x.P.Job.At], [.int .i64 x.P.Job.Table.Dev, .int .i64 x.P.Job.Table.Size, _], rfl, rfl, ⟨[.int .i64 x.P.Job.Table.Dev], [.int .i64 x.P.Job.Table.Size, _], rfl, rfl, ⟨[.int .i64 x.P.Job.Table.Size], [_], rfl, rfl, ⟨_, _, rfl, h3⟩⟩⟩⟩⟩, rfl⟩⟩⟩, ⟨_, _, rfl, h4⟩⟩
theorem khermitagelaw9AskH_at {h : Heap} {ok : Fp} {A : Option Addr} {xs : List hermitagelaw9Ask} (k : Sl khermitagelaw9AskH h ok A xs) {i : Int} (h0 : 0 ≤ i) (h1 : i < (xs.length : Int)) : ∃ ad A1 c1 A2 c2 A3 c3 A4 c4, A = some ad ∧ At h (ad.add (i.toNat * 9)) [.slice A1 (((rd xs i).P).Devices).length c1, .slice A2 (((rd xs i).P).Tables).length c2, .int .i64 ((((rd xs i).P).Job).Dev), .int .i64 ((((rd xs i).P).Job).At), .int .i64 (((((rd xs i).P).Job).Table).Dev), .int .i64 (((((rd xs i).P).Job).Table).Size), .slice A3 (((((rd xs i).P).Job).Table).List_).length c3, .int .i64 (((rd xs i).P).Next), .slice A4 ((rd xs i).Q).length c4] ∧ Ow kDeviceH 84 h ok ok A1 c1 (rd xs i).P.Devices ∧ Ow kTableH 75 h ok ok A2 c2 (rd xs i).P.Tables ∧ Ow (Kd.any Entry 4) 86 h ok ok A3 c3 (rd xs i).P.Job.Table.List_ ∧ Ow (Kd.any Ptr 1) 70 h ok ok A4 c4 (rd xs i).Q := by
  obtain ⟨ad, cs, e, hr, hA⟩ := k.at_ h0 h1 default
  obtain ⟨A1, c1, A2, c2, A3, c3, A4, c4, rfl, h1, h2, h3, h4⟩ := khermitagelaw9AskH_open hr
  exact ⟨ad, A1, c1, A2, c2, A3, c3, A4, c4, e, hA, h1, h2, h3, h4⟩
theorem khermitagelaw9AskH_ato {h : Heap} {ok0 ok : Fp} {A : Option Addr} {c : Nat} {xs : List hermitagelaw9Ask} (k : Ow khermitagelaw9AskH 81 h ok0 ok A c xs) {i : Int} (h0 : 0 ≤ i) (h1 : i < (xs.length : Int)) : ∃ ad A1 c1 A2 c2 A3 c3 A4 c4, A = some ad ∧ At h (ad.add (i.toNat * 9)) [.slice A1 (((rd xs i).P).Devices).length c1, .slice A2 (((rd xs i).P).Tables).length c2, .int .i64 ((((rd xs i).P).Job).Dev), .int .i64 ((((rd xs i).P).Job).At), .int .i64 (((((rd xs i).P).Job).Table).Dev), .int .i64 (((((rd xs i).P).Job).Table).Size), .slice A3 (((((rd xs i).P).Job).Table).List_).length c3, .int .i64 (((rd xs i).P).Next), .slice A4 ((rd xs i).Q).length c4] ∧ Ow kDeviceH 84 h ok ok A1 c1 (rd xs i).P.Devices ∧ Ow kTableH 75 h ok ok A2 c2 (rd xs i).P.Tables ∧ Ow (Kd.any Entry 4) 86 h ok ok A3 c3 (rd xs i).P.Job.Table.List_ ∧ Ow (Kd.any Ptr 1) 70 h ok ok A4 c4 (rd xs i).Q := by
  obtain ⟨ad, cs, e, hr, hA⟩ := k.at_ h0 h1 default
  obtain ⟨A1, c1, A2, c2, A3, c3, A4, c4, rfl, h1, h2, h3, h4⟩ := khermitagelaw9AskH_open hr
  exact ⟨ad, A1, c1, A2, c2, A3, c3, A4, c4, e, hA, h1, h2, h3, h4⟩
def kTrailR : Kd Trail := .iso (.pair kPtr (.sl kPtr)) (fun x : Trail => (x.Ptr_, x.Way))
theorem kTrailR_open {h : Heap} {ok : Fp} {cs : List Value} {x : Trail} (k : kTrailR.rep h ok cs x) : ∃ (A1 : Option Addr) (c1 : Nat), cs = [.int .i64 x.Ptr_.Dev, .int .i64 x.Ptr_.At, .slice A1 x.Way.length c1] ∧ x.Way.length ≤ c1 ∧ Sl kPtr h ok A1 x.Way := by
  obtain ⟨_, _, rfl, ⟨_, _, rfl, rfl, rfl⟩, ⟨A1, c1, rfl, l1, h1⟩⟩ := k
  exact ⟨A1, c1, rfl, l1, h1⟩
theorem kTrailR_mk {h : Heap} {ok : Fp} (x : Trail) {A1 : Option Addr} {c1 : Nat} (l1 : x.Way.length ≤ c1) (h1 : Sl kPtr h ok A1 x.Way) : kTrailR.rep h ok [.int .i64 x.Ptr_.Dev, .int .i64 x.Ptr_.At, .slice A1 x.Way.length c1] x := ⟨[.int .i64 x.Ptr_.Dev, .int .i64 x.Ptr_.At], [_], rfl, ⟨[.int .i64 x.Ptr_.Dev], [.int .i64 x.Ptr_.At], rfl, rfl, rfl⟩, ⟨_, _, rfl, l1, h1⟩⟩
theorem kTrailR_at {h : Heap} {ok : Fp} {A : Option Addr} {xs : List Trail} (k : Sl kTrailR h ok A xs) {i : Int} (h0 : 0 ≤ i) (h1 : i < (xs.length : Int)) : ∃ ad A1 c1, A = some ad ∧ At h (ad.add (i.toNat * 3)) [.int .i64 (((rd xs i).Ptr_).Dev), .int .i64 (((rd xs i).Ptr_).At), .slice A1 ((rd xs i).Way).length c1] ∧ (rd xs i).Way.length ≤ c1 ∧ Sl kPtr h ok A1 (rd xs i).Way := by
  obtain ⟨ad, cs, e, hr, hA⟩ := k.at_ h0 h1 default
  obtain ⟨A1, c1, rfl, l1, h1⟩ := kTrailR_open hr
  exact ⟨ad, A1, c1, e, hA, l1, h1⟩
theorem kTrailR_ato {h : Heap} {ok0 ok : Fp} {A : Option Addr} {c : Nat} {xs : List Trail} (k : Ow kTrailR 121 h ok0 ok A c xs) {i : Int} (h0 : 0 ≤ i) (h1 : i < (xs.length : Int)) : ∃ ad A1 c1, A = some ad ∧ At h (ad.add (i.toNat * 3)) [.int .i64 (((rd xs i).Ptr_).Dev), .int .i64 (((rd xs i).Ptr_).At), .slice A1 ((rd xs i).Way).length c1] ∧ (rd xs i).Way.length ≤ c1 ∧ Sl kPtr h ok A1 (rd xs i).Way := by
  obtain ⟨ad, cs, e, hr, hA⟩ := k.at_ h0 h1 default
  obtain ⟨A1, c1, rfl, l1, h1⟩ := kTrailR_open hr
  exact ⟨ad, A1, c1, e, hA, l1, h1⟩
def kTrailO : Kd Trail := .iso (.pair kPtr (.ow kPtr 70)) (fun x : Trail => (x.Ptr_, x.Way))
theorem kTrailO_open {h : Heap} {ok : Fp} {cs : List Value} {x : Trail} (k : kTrailO.rep h ok cs x) : ∃ (A1 : Option Addr) (c1 : Nat), cs = [.int .i64 x.Ptr_.Dev, .int .i64 x.Ptr_.At, .slice A1 x.Way.length c1] ∧ Ow kPtr 70 h ok ok A1 c1 x.Way := by
  obtain ⟨_, _, rfl, ⟨_, _, rfl, rfl, rfl⟩, ⟨A1, c1, rfl, h1⟩⟩ := k
  exact ⟨A1, c1, rfl, h1⟩
theorem kTrailO_mk {h : Heap} {ok : Fp} (x : Trail) {A1 : Option Addr} {c1 : Nat} (h1 : Ow kPtr 70 h ok ok A1 c1 x.Way) : kTrailO.rep h ok [.int .i64 x.Ptr_.Dev, .int .i64 x.Ptr_.At, .slice A1 x.Way.length c1] x := ⟨[.int .i64 x.Ptr_.Dev, .int .i64 x.Ptr_.At], [_], rfl, ⟨[.int .i64 x.Ptr_.Dev], [.int .i64 x.Ptr_.At], rfl, rfl, rfl⟩, ⟨_, _, rfl, h1⟩⟩
theorem kTrailO_at {h : Heap} {ok : Fp} {A : Option Addr} {xs : List Trail} (k : Sl kTrailO h ok A xs) {i : Int} (h0 : 0 ≤ i) (h1 : i < (xs.length : Int)) : ∃ ad A1 c1, A = some ad ∧ At h (ad.add (i.toNat * 3)) [.int .i64 (((rd xs i).Ptr_).Dev), .int .i64 (((rd xs i).Ptr_).At), .slice A1 ((rd xs i).Way).length c1] ∧ Ow kPtr 70 h ok ok A1 c1 (rd xs i).Way := by
  obtain ⟨ad, cs, e, hr, hA⟩ := k.at_ h0 h1 default
  obtain ⟨A1, c1, rfl, h1⟩ := kTrailO_open hr
  exact ⟨ad, A1, c1, e, hA, h1⟩
theorem kTrailO_ato {h : Heap} {ok0 ok : Fp} {A : Option Addr} {c : Nat} {xs : List Trail} (k : Ow kTrailO 121 h ok0 ok A c xs) {i : Int} (h0 : 0 ≤ i) (h1 : i < (xs.length : Int)) : ∃ ad A1 c1, A = some ad ∧ At h (ad.add (i.toNat * 3)) [.int .i64 (((rd xs i).Ptr_).Dev), .int .i64 (((rd xs i).Ptr_).At), .slice A1 ((rd xs i).Way).length c1] ∧ Ow kPtr 70 h ok ok A1 c1 (rd xs i).Way := by
  obtain ⟨ad, cs, e, hr, hA⟩ := k.at_ h0 h1 default
  obtain ⟨A1, c1, rfl, h1⟩ := kTrailO_open hr
  exact ⟨ad, A1, c1, e, hA, h1⟩
def kTrailH : Kd Trail := .iso (.pair kPtr (.ow (Kd.any Ptr 1) 70)) (fun x : Trail => (x.Ptr_, x.Way))
theorem kTrailH_open {h : Heap} {ok : Fp} {cs : List Value} {x : Trail} (k : kTrailH.rep h ok cs x) : ∃ (A1 : Option Addr) (c1 : Nat), cs = [.int .i64 x.Ptr_.Dev, .int .i64 x.Ptr_.At, .slice A1 x.Way.length c1] ∧ Ow (Kd.any Ptr 1) 70 h ok ok A1 c1 x.Way := by
  obtain ⟨_, _, rfl, ⟨_, _, rfl, rfl, rfl⟩, ⟨A1, c1, rfl, h1⟩⟩ := k
  exact ⟨A1, c1, rfl, h1⟩
theorem kTrailH_mk {h : Heap} {ok : Fp} (x : Trail) {A1 : Option Addr} {c1 : Nat} (h1 : Ow (Kd.any Ptr 1) 70 h ok ok A1 c1 x.Way) : kTrailH.rep h ok [.int .i64 x.Ptr_.Dev, .int .i64 x.Ptr_.At, .slice A1 x.Way.length c1] x := ⟨[.int .i64 x.Ptr_.Dev, .int .i64 x.Ptr_.At], [_], rfl, ⟨[.int .i64 x.Ptr_.Dev], [.int .i64 x.Ptr_.At], rfl, rfl, rfl⟩, ⟨_, _, rfl, h1⟩⟩
theorem kTrailH_at {h : Heap} {ok : Fp} {A : Option Addr} {xs : List Trail} (k : Sl kTrailH h ok A xs) {i : Int} (h0 : 0 ≤ i) (h1 : i < (xs.length : Int)) : ∃ ad A1 c1, A = some ad ∧ At h (ad.add (i.toNat * 3)) [.int .i64 (((rd xs i).Ptr_).Dev), .int .i64 (((rd xs i).Ptr_).At), .slice A1 ((rd xs i).Way).length c1] ∧ Ow (Kd.any Ptr 1) 70 h ok ok A1 c1 (rd xs i).Way := by
  obtain ⟨ad, cs, e, hr, hA⟩ := k.at_ h0 h1 default
  obtain ⟨A1, c1, rfl, h1⟩ := kTrailH_open hr
  exact ⟨ad, A1, c1, e, hA, h1⟩
theorem kTrailH_ato {h : Heap} {ok0 ok : Fp} {A : Option Addr} {c : Nat} {xs : List Trail} (k : Ow kTrailH 121 h ok0 ok A c xs) {i : Int} (h0 : 0 ≤ i) (h1 : i < (xs.length : Int)) : ∃ ad A1 c1, A = some ad ∧ At h (ad.add (i.toNat * 3)) [.int .i64 (((rd xs i).Ptr_).Dev), .int .i64 (((rd xs i).Ptr_).At), .slice A1 ((rd xs i).Way).length c1] ∧ Ow (Kd.any Ptr 1) 70 h ok ok A1 c1 (rd xs i).Way := by
  obtain ⟨ad, cs, e, hr, hA⟩ := k.at_ h0 h1 default
  obtain ⟨A1, c1, rfl, h1⟩ := kTrailH_open hr
  exact ⟨ad, A1, c1, e, hA, h1⟩
theorem kTable_ro {h : Heap} {ok : Fp} {cs : List Value} {x : Table} (k : kTableO.rep h ok cs x) : kTableR.rep h ok cs x := by
  obtain ⟨A0, c0, rfl, h0⟩ := kTableO_open k
  exact kTableR_mk x h0.len ((h0.sl.mono fun _ _ hh => by rcases hh with hh | hh <;> exact hh).to (fun k => k) rfl)
theorem kTableH_conv {h : Heap} : ∀ ok cs x, kTableO.rep h ok cs x → kTableH.rep h ok cs x := fun ok cs x k => by
  obtain ⟨A0, c0, rfl, h0⟩ := kTableO_open k
  exact kTableH_mk x (h0.hollow rfl)
theorem kTableH_kept {w w' : World} {e : TypeId} {b o : Nat} {us : List Value} (s : Stored w w' e b o us) : Kept kTableH w w' := (Kept.iso (Kept.pair Kept.scalar (Kept.pair Kept.scalar (Kept.ow s))))
theorem kJob_ro {h : Heap} {ok : Fp} {cs : List Value} {x : Job} (k : kJobO.rep h ok cs x) : kJobR.rep h ok cs x := by
  obtain ⟨A0, c0, rfl, h0⟩ := kJobO_open k
  exact kJobR_mk x h0.len ((h0.sl.mono fun _ _ hh => by rcases hh with hh | hh <;> exact hh).to (fun k => k) rfl)
theorem kJobH_conv {h : Heap} : ∀ ok cs x, kJobO.rep h ok cs x → kJobH.rep h ok cs x := fun ok cs x k => by
  obtain ⟨A0, c0, rfl, h0⟩ := kJobO_open k
  exact kJobH_mk x (h0.hollow rfl)
theorem kJobH_kept {w w' : World} {e : TypeId} {b o : Nat} {us : List Value} (s : Stored w w' e b o us) : Kept kJobH w w' := (Kept.iso (Kept.pair Kept.scalar (Kept.pair Kept.scalar (Kept.iso (Kept.pair Kept.scalar (Kept.pair Kept.scalar (Kept.ow s)))))))
theorem kDevice_ro {h : Heap} {ok : Fp} {cs : List Value} {x : Device} (k : kDeviceO.rep h ok cs x) : kDeviceR.rep h ok cs x := by
  obtain ⟨A0, c0, A1, c1, rfl, h0, h1⟩ := kDeviceO_open k
  exact kDeviceR_mk x h0.len ((h0.sl.mono fun _ _ hh => by rcases hh with hh | hh <;> exact hh).to (fun k => k) rfl) h1.len ((h1.sl.mono fun _ _ hh => by rcases hh with hh | hh <;> exact hh).to (fun k => k) rfl)
theorem kDeviceH_conv {h : Heap} : ∀ ok cs x, kDeviceO.rep h ok cs x → kDeviceH.rep h ok cs x := fun ok cs x k => by
  obtain ⟨A0, c0, A1, c1, rfl, h0, h1⟩ := kDeviceO_open k
  exact kDeviceH_mk x (h0.hollow rfl) (h1.hollow rfl)
theorem kDeviceH_kept {w w' : World} {e : TypeId} {b o : Nat} {us : List Value} (s : Stored w w' e b o us) : Kept kDeviceH w w' := (Kept.iso (Kept.pair Kept.scalar (Kept.pair Kept.scalar (Kept.pair (Kept.ow s) (Kept.ow s)))))
theorem kPool_ro {h : Heap} {ok : Fp} {cs : List Value} {x : Pool} (k : kPoolO.rep h ok cs x) : kPoolR.rep h ok cs x := by
  obtain ⟨A0, c0, A1, c1, A2, c2, rfl, h0, h1, h2⟩ := kPoolO_open k
  exact kPoolR_mk x h0.len ((h0.sl.mono fun _ _ hh => by rcases hh with hh | hh <;> exact hh).to kDevice_ro rfl) h1.len ((h1.sl.mono fun _ _ hh => by rcases hh with hh | hh <;> exact hh).to kTable_ro rfl) h2.len ((h2.sl.mono fun _ _ hh => by rcases hh with hh | hh <;> exact hh).to (fun k => k) rfl)
theorem kPoolH_conv {h : Heap} : ∀ ok cs x, kPoolO.rep h ok cs x → kPoolH.rep h ok cs x := fun ok cs x k => by
  obtain ⟨A0, c0, A1, c1, A2, c2, rfl, h0, h1, h2⟩ := kPoolO_open k
  exact kPoolH_mk x (Ow.conv (d := kDeviceO) (d' := kDeviceH) rfl kDeviceH_conv h0) (Ow.conv (d := kTableO) (d' := kTableH) rfl kTableH_conv h1) (h2.hollow rfl)
theorem khermitagelaw9Ask_ro {h : Heap} {ok : Fp} {cs : List Value} {x : hermitagelaw9Ask} (k : khermitagelaw9AskO.rep h ok cs x) : khermitagelaw9AskR.rep h ok cs x := by
  obtain ⟨A0, c0, A1, c1, A2, c2, A3, c3, rfl, h0, h1, h2, h3⟩ := khermitagelaw9AskO_open k
  exact khermitagelaw9AskR_mk x h0.len ((h0.sl.mono fun _ _ hh => by rcases hh with hh | hh <;> exact hh).to kDevice_ro rfl) h1.len ((h1.sl.mono fun _ _ hh => by rcases hh with hh | hh <;> exact hh).to kTable_ro rfl) h2.len ((h2.sl.mono fun _ _ hh => by rcases hh with hh | hh <;> exact hh).to (fun k => k) rfl) h3.len ((h3.sl.mono fun _ _ hh => by rcases hh with hh | hh <;> exact hh).to (fun k => k) rfl)
theorem khermitagelaw9AskH_conv {h : Heap} : ∀ ok cs x, khermitagelaw9AskO.rep h ok cs x → khermitagelaw9AskH.rep h ok cs x := fun ok cs x k => by
  obtain ⟨A0, c0, A1, c1, A2, c2, A3, c3, rfl, h0, h1, h2, h3⟩ := khermitagelaw9AskO_open k
  exact khermitagelaw9AskH_mk x (Ow.conv (d := kDeviceO) (d' := kDeviceH) rfl kDeviceH_conv h0) (Ow.conv (d := kTableO) (d' := kTableH) rfl kTableH_conv h1) (h2.hollow rfl) (h3.hollow rfl)
theorem kTrail_ro {h : Heap} {ok : Fp} {cs : List Value} {x : Trail} (k : kTrailO.rep h ok cs x) : kTrailR.rep h ok cs x := by
  obtain ⟨A0, c0, rfl, h0⟩ := kTrailO_open k
  exact kTrailR_mk x h0.len ((h0.sl.mono fun _ _ hh => by rcases hh with hh | hh <;> exact hh).to (fun k => k) rfl)
theorem kTrailH_conv {h : Heap} : ∀ ok cs x, kTrailO.rep h ok cs x → kTrailH.rep h ok cs x := fun ok cs x k => by
  obtain ⟨A0, c0, rfl, h0⟩ := kTrailO_open k
  exact kTrailH_mk x (h0.hollow rfl)
theorem kTrailH_kept {w w' : World} {e : TypeId} {b o : Nat} {us : List Value} (s : Stored w w' e b o us) : Kept kTrailH w w' := (Kept.iso (Kept.pair (Kept.iso (Kept.pair Kept.scalar Kept.scalar)) (Kept.ow s)))
theorem eqPtr (x y : Ptr) (w : World) : (Op.equalIn 10000 70 (.agg [.int .i64 x.Dev, .int .i64 x.At].toArray) (.agg [.int .i64 y.Dev, .int .i64 y.At].toArray)).run Tryd.prog w = .ok (decide (x = y)) w := by
  have e : decide (x = y) = ((x.Dev == y.Dev) && ((x.At == y.At) && true)) := by rw [Bool.eq_iff_iff]; cases x; cases y; simp
  rw [e]
  exact run_equalFlat tabOk Tryd.underlying70 (by kernel_rfl) [.int .i64 x.Dev, .int .i64 x.At] [.int .i64 y.Dev, .int .i64 y.At] rfl w
theorem eqgPtr : Tryd.prog.eqGuardType Tryd.prog.depth 70 = false := by kernel_rfl
theorem eqSeg (x y : Seg) (w : World) : (Op.equalIn 10000 93 (.agg [.int .i64 x.At, .int .i64 x.Len].toArray) (.agg [.int .i64 y.At, .int .i64 y.Len].toArray)).run Tryd.prog w = .ok (decide (x = y)) w := by
  have e : decide (x = y) = ((x.At == y.At) && ((x.Len == y.Len) && true)) := by rw [Bool.eq_iff_iff]; cases x; cases y; simp
  rw [e]
  exact run_equalFlat tabOk Tryd.underlying93 (by kernel_rfl) [.int .i64 x.At, .int .i64 x.Len] [.int .i64 y.At, .int .i64 y.Len] rfl w
theorem eqgSeg : Tryd.prog.eqGuardType Tryd.prog.depth 93 = false := by kernel_rfl
theorem ent15 : Enters Tryd.prog 15 := Enters.mk Tryd.func15 (by kernel_rfl) (by kernel_rfl)
theorem ent45 : Enters Tryd.prog 45 := Enters.mk Tryd.func45 (by kernel_rfl) (by kernel_rfl)
theorem ent46 : Enters Tryd.prog 46 := Enters.mk Tryd.func46 (by kernel_rfl) (by kernel_rfl)
theorem ent47 : Enters Tryd.prog 47 := Enters.mk Tryd.func47 (by kernel_rfl) (by kernel_rfl)
theorem ent48 : Enters Tryd.prog 48 := Enters.mk Tryd.func48 (by kernel_rfl) (by kernel_rfl)
theorem ent49 : Enters Tryd.prog 49 := Enters.mk Tryd.func49 (by kernel_rfl) (by kernel_rfl)
theorem ent50 : Enters Tryd.prog 50 := Enters.mk Tryd.func50 (by kernel_rfl) (by kernel_rfl)
theorem ent51 : Enters Tryd.prog 51 := Enters.mk Tryd.func51 (by kernel_rfl) (by kernel_rfl)
theorem ent52 : Enters Tryd.prog 52 := Enters.mk Tryd.func52 (by kernel_rfl) (by kernel_rfl)
theorem ent53 : Enters Tryd.prog 53 := Enters.mk Tryd.func53 (by kernel_rfl) (by kernel_rfl)
theorem ent58 : Enters Tryd.prog 58 := Enters.mk Tryd.func58 (by kernel_rfl) (by kernel_rfl)
theorem ent60 : Enters Tryd.prog 60 := Enters.mk Tryd.func60 (by kernel_rfl) (by kernel_rfl)
theorem ent63 : Enters Tryd.prog 63 := Enters.mk Tryd.func63 (by kernel_rfl) (by kernel_rfl)
theorem ent64 : Enters Tryd.prog 64 := Enters.mk Tryd.func64 (by kernel_rfl) (by kernel_rfl)
theorem ent66 : Enters Tryd.prog 66 := Enters.mk Tryd.func66 (by kernel_rfl) (by kernel_rfl)
theorem ent67 : Enters Tryd.prog 67 := Enters.mk Tryd.func67 (by kernel_rfl) (by kernel_rfl)
theorem ent71 : Enters Tryd.prog 71 := Enters.mk Tryd.func71 (by kernel_rfl) (by kernel_rfl)
theorem ent75 : Enters Tryd.prog 75 := Enters.mk Tryd.func75 (by kernel_rfl) (by kernel_rfl)
theorem ent76 : Enters Tryd.prog 76 := Enters.mk Tryd.func76 (by kernel_rfl) (by kernel_rfl)
theorem ent77 : Enters Tryd.prog 77 := Enters.mk Tryd.func77 (by kernel_rfl) (by kernel_rfl)
theorem ent78 : Enters Tryd.prog 78 := Enters.mk Tryd.func78 (by kernel_rfl) (by kernel_rfl)
theorem ent80 : Enters Tryd.prog 80 := Enters.mk Tryd.func80 (by kernel_rfl) (by kernel_rfl)
theorem ent82 : Enters Tryd.prog 82 := Enters.mk Tryd.func82 (by kernel_rfl) (by kernel_rfl)
theorem ent83 : Enters Tryd.prog 83 := Enters.mk Tryd.func83 (by kernel_rfl) (by kernel_rfl)
theorem ent84 : Enters Tryd.prog 84 := Enters.mk Tryd.func84 (by kernel_rfl) (by kernel_rfl)
theorem ent86 : Enters Tryd.prog 86 := Enters.mk Tryd.func86 (by kernel_rfl) (by kernel_rfl)
theorem ent87 : Enters Tryd.prog 87 := Enters.mk Tryd.func87 (by kernel_rfl) (by kernel_rfl)
theorem ent90 : Enters Tryd.prog 90 := Enters.mk Tryd.func90 (by kernel_rfl) (by kernel_rfl)
theorem ent91 : Enters Tryd.prog 91 := Enters.mk Tryd.func91 (by kernel_rfl) (by kernel_rfl)
theorem ent92 : Enters Tryd.prog 92 := Enters.mk Tryd.func92 (by kernel_rfl) (by kernel_rfl)
theorem ent93 : Enters Tryd.prog 93 := Enters.mk Tryd.func93 (by kernel_rfl) (by kernel_rfl)
theorem ent94 : Enters Tryd.prog 94 := Enters.mk Tryd.func94 (by kernel_rfl) (by kernel_rfl)
theorem ent95 : Enters Tryd.prog 95 := Enters.mk Tryd.func95 (by kernel_rfl) (by kernel_rfl)
theorem ent96 : Enters Tryd.prog 96 := Enters.mk Tryd.func96 (by kernel_rfl) (by kernel_rfl)
theorem ent97 : Enters Tryd.prog 97 := Enters.mk Tryd.func97 (by kernel_rfl) (by kernel_rfl)
theorem ent98 : Enters Tryd.prog 98 := Enters.mk Tryd.func98 (by kernel_rfl) (by kernel_rfl)
theorem ent99 : Enters Tryd.prog 99 := Enters.mk Tryd.func99 (by kernel_rfl) (by kernel_rfl)
theorem ent100 : Enters Tryd.prog 100 := Enters.mk Tryd.func100 (by kernel_rfl) (by kernel_rfl)
theorem ent101 : Enters Tryd.prog 101 := Enters.mk Tryd.func101 (by kernel_rfl) (by kernel_rfl)
theorem ent103 : Enters Tryd.prog 103 := Enters.mk Tryd.func103 (by kernel_rfl) (by kernel_rfl)
theorem ent104 : Enters Tryd.prog 104 := Enters.mk Tryd.func104 (by kernel_rfl) (by kernel_rfl)
theorem ent117 : Enters Tryd.prog 117 := Enters.mk Tryd.func117 (by kernel_rfl) (by kernel_rfl)
theorem ent118 : Enters Tryd.prog 118 := Enters.mk Tryd.func118 (by kernel_rfl) (by kernel_rfl)
theorem ent119 : Enters Tryd.prog 119 := Enters.mk Tryd.func119 (by kernel_rfl) (by kernel_rfl)
theorem ent120 : Enters Tryd.prog 120 := Enters.mk Tryd.func120 (by kernel_rfl) (by kernel_rfl)
theorem ent121 : Enters Tryd.prog 121 := Enters.mk Tryd.func121 (by kernel_rfl) (by kernel_rfl)
theorem ent122 : Enters Tryd.prog 122 := Enters.mk Tryd.func122 (by kernel_rfl) (by kernel_rfl)
theorem ent123 : Enters Tryd.prog 123 := Enters.mk Tryd.func123 (by kernel_rfl) (by kernel_rfl)
theorem ent124 : Enters Tryd.prog 124 := Enters.mk Tryd.func124 (by kernel_rfl) (by kernel_rfl)
theorem ent125 : Enters Tryd.prog 125 := Enters.mk Tryd.func125 (by kernel_rfl) (by kernel_rfl)
theorem ent126 : Enters Tryd.prog 126 := Enters.mk Tryd.func126 (by kernel_rfl) (by kernel_rfl)
theorem ent127 : Enters Tryd.prog 127 := Enters.mk Tryd.func127 (by kernel_rfl) (by kernel_rfl)
theorem ent128 : Enters Tryd.prog 128 := Enters.mk Tryd.func128 (by kernel_rfl) (by kernel_rfl)
theorem ent129 : Enters Tryd.prog 129 := Enters.mk Tryd.func129 (by kernel_rfl) (by kernel_rfl)
theorem ent130 : Enters Tryd.prog 130 := Enters.mk Tryd.func130 (by kernel_rfl) (by kernel_rfl)
theorem ent131 : Enters Tryd.prog 131 := Enters.mk Tryd.func131 (by kernel_rfl) (by kernel_rfl)
theorem ent132 : Enters Tryd.prog 132 := Enters.mk Tryd.func132 (by kernel_rfl) (by kernel_rfl)
theorem ent134 : Enters Tryd.prog 134 := Enters.mk Tryd.func134 (by kernel_rfl) (by kernel_rfl)
theorem ent135 : Enters Tryd.prog 135 := Enters.mk Tryd.func135 (by kernel_rfl) (by kernel_rfl)
theorem ent136 : Enters Tryd.prog 136 := Enters.mk Tryd.func136 (by kernel_rfl) (by kernel_rfl)
theorem ent137 : Enters Tryd.prog 137 := Enters.mk Tryd.func137 (by kernel_rfl) (by kernel_rfl)
theorem ent138 : Enters Tryd.prog 138 := Enters.mk Tryd.func138 (by kernel_rfl) (by kernel_rfl)
theorem ent139 : Enters Tryd.prog 139 := Enters.mk Tryd.func139 (by kernel_rfl) (by kernel_rfl)
theorem ent140 : Enters Tryd.prog 140 := Enters.mk Tryd.func140 (by kernel_rfl) (by kernel_rfl)
end Go.Proofs.YtnaajldlloglkaaDoor.W
