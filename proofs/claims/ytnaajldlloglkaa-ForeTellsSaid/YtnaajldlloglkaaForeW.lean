/- The table of types, the kinds of elements; printed by a program of the claim. -/
import Derived.Test.YtnaajldlloglkaaProg
import Derived.Test.YtnaajldlloglkaaForeFn
set_option linter.unusedVariables false
set_option linter.unusedSimpArgs false
namespace Go.Proofs.Ytnaajldlloglkaa.W
open Go.H Go.Proofs
def tab : Tab := [(3, ⟨.int .i64, 1, 8, [.int .i64 0]⟩),
  (4, ⟨.bool, 1, 1, [.bool false]⟩),
  (22, ⟨.slice 45, 1, 24, [.slice none 0 0]⟩),
  (24, ⟨.struct [(0, 1), (1, 1), (2, 1)], 3, 40, [.int .i64 0, .int .i64 0, .slice none 0 0]⟩),
  (30, ⟨.slice 33, 1, 24, [.slice none 0 0]⟩),
  (31, ⟨.slice 4, 1, 24, [.slice none 0 0]⟩),
  (33, ⟨.struct [(0, 1), (1, 1)], 2, 16, [.int .i64 0, .int .i64 0]⟩),
  (45, ⟨.struct [(0, 1), (1, 1), (2, 1), (3, 1), (4, 1)], 5, 40, [.int .i64 0, .int .i64 0, .int .i64 0, .int .i64 0, .int .i64 0]⟩),
  (56, ⟨.slice 67, 1, 24, [.slice none 0 0]⟩),
  (57, ⟨.slice 24, 1, 24, [.slice none 0 0]⟩),
  (59, ⟨.struct [(0, 1), (1, 1), (2, 3)], 5, 56, [.int .i64 0, .int .i64 0, .int .i64 0, .int .i64 0, .slice none 0 0]⟩),
  (61, ⟨.struct [(0, 1), (1, 1), (2, 5), (7, 1)], 8, 112, [.slice none 0 0, .slice none 0 0, .int .i64 0, .int .i64 0, .int .i64 0, .int .i64 0, .slice none 0 0, .int .i64 0]⟩),
  (62, ⟨.slice 74, 1, 24, [.slice none 0 0]⟩),
  (64, ⟨.struct [(0, 8), (8, 1)], 9, 136, [.slice none 0 0, .slice none 0 0, .int .i64 0, .int .i64 0, .int .i64 0, .int .i64 0, .slice none 0 0, .int .i64 0, .slice none 0 0]⟩),
  (65, ⟨.slice 132, 1, 24, [.slice none 0 0]⟩),
  (67, ⟨.struct [(0, 1), (1, 1), (2, 1), (3, 1)], 4, 64, [.int .i64 0, .int .i64 0, .slice none 0 0, .slice none 0 0]⟩),
  (74, ⟨.struct [(0, 1), (1, 1), (2, 1)], 3, 40, [.int .i64 0, .int .i64 0, .slice none 0 0]⟩),
  (84, ⟨.int .u64, 1, 8, [.int .u64 0]⟩),
  (106, ⟨.slice 3, 1, 24, [.slice none 0 0]⟩),
  (107, ⟨.word, 1, 8, [.map none]⟩),
  (116, ⟨.int .u64, 1, 8, [.int .u64 0]⟩),
  (117, ⟨.int .u64, 1, 8, [.int .u64 0]⟩),
  (132, ⟨.struct [(0, 1), (1, 1)], 2, 16, [.int .i64 0, .int .i64 0]⟩),
  (140, ⟨.arr 64 4, 64, 64, (arrB 64 fun _ => false)⟩),
  (143, ⟨.word, 1, 8, [.map none]⟩)]
theorem tabOk : TabOk Try.prog tab :=
  ⟨.mk' _ _ _ _ (by kernel_rfl) Try.underlying3 rfl rfl (fun h => by first | rfl | cases h) (by decide) rfl,
   .mk' _ _ _ _ (by kernel_rfl) Try.underlying4 rfl rfl (fun h => by first | rfl | cases h) (by decide) rfl,
   .mk' _ _ _ _ (by kernel_rfl) Try.underlying22 rfl rfl (fun h => by first | rfl | cases h) (by decide) rfl,
   .mk' _ _ _ _ (by kernel_rfl) Try.underlying24 ⟨_, rfl, by kernel_rfl, rfl⟩ rfl (fun h => by first | rfl | cases h) (by decide) rfl,
   .mk' _ _ _ _ (by kernel_rfl) Try.underlying30 rfl rfl (fun h => by first | rfl | cases h) (by decide) rfl,
   .mk' _ _ _ _ (by kernel_rfl) Try.underlying31 rfl rfl (fun h => by first | rfl | cases h) (by decide) rfl,
   .mk' _ _ _ _ (by kernel_rfl) Try.underlying33 ⟨_, rfl, by kernel_rfl, rfl⟩ rfl (fun h => by first | rfl | cases h) (by decide) rfl,
   .mk' _ _ _ _ (by kernel_rfl) Try.underlying45 ⟨_, rfl, by kernel_rfl, rfl⟩ rfl (fun h => by first | rfl | cases h) (by decide) rfl,
   .mk' _ _ _ _ (by kernel_rfl) Try.underlying56 rfl rfl (fun h => by first | rfl | cases h) (by decide) rfl,
   .mk' _ _ _ _ (by kernel_rfl) Try.underlying57 rfl rfl (fun h => by first | rfl | cases h) (by decide) rfl,
   .mk' _ _ _ _ (by kernel_rfl) Try.underlying59 ⟨_, rfl, by kernel_rfl, rfl⟩ rfl (fun h => by first | rfl | cases h) (by decide) rfl,
   .mk' _ _ _ _ (by kernel_rfl) Try.underlying61 ⟨_, rfl, by kernel_rfl, rfl⟩ rfl (fun h => by first | rfl | cases h) (by decide) rfl,
   .mk' _ _ _ _ (by kernel_rfl) Try.underlying62 rfl rfl (fun h => by first | rfl | cases h) (by decide) rfl,
   .mk' _ _ _ _ (by kernel_rfl) Try.underlying64 ⟨_, rfl, by kernel_rfl, rfl⟩ rfl (fun h => by first | rfl | cases h) (by decide) rfl,
   .mk' _ _ _ _ (by kernel_rfl) Try.underlying65 rfl rfl (fun h => by first | rfl | cases h) (by decide) rfl,
   .mk' _ _ _ _ (by kernel_rfl) Try.underlying67 ⟨_, rfl, by kernel_rfl, rfl⟩ rfl (fun h => by first | rfl | cases h) (by decide) rfl,
   .mk' _ _ _ _ (by kernel_rfl) Try.underlying74 ⟨_, rfl, by kernel_rfl, rfl⟩ rfl (fun h => by first | rfl | cases h) (by decide) rfl,
   .mk' _ _ _ _ (by kernel_rfl) Try.underlying84 rfl rfl (fun h => by first | rfl | cases h) (by decide) rfl,
   .mk' _ _ _ _ (by kernel_rfl) Try.underlying106 rfl rfl (fun h => by first | rfl | cases h) (by decide) rfl,
   .mk' _ _ _ _ (by kernel_rfl) Try.underlying107 trivial rfl (fun h => by first | rfl | cases h) (by decide) rfl,
   .mk' _ _ _ _ (by kernel_rfl) Try.underlying116 rfl rfl (fun h => by first | rfl | cases h) (by decide) rfl,
   .mk' _ _ _ _ (by kernel_rfl) Try.underlying117 rfl rfl (fun h => by first | rfl | cases h) (by decide) rfl,
   .mk' _ _ _ _ (by kernel_rfl) Try.underlying132 ⟨_, rfl, by kernel_rfl, rfl⟩ rfl (fun h => by first | rfl | cases h) (by decide) rfl,
   .mk' _ _ _ _ (by kernel_rfl) Try.underlying140 rfl rfl (fun h => by first | rfl | cases h) (by decide) rfl,
   .mk' _ _ _ _ (by kernel_rfl) Try.underlying143 trivial rfl (fun h => by first | rfl | cases h) (by decide) rfl, trivial⟩
theorem mixed : Try.prog.follows .mixedOrders = true := by kernel_rfl
def kEntry : Kd Entry := .iso (.pair (.int .i64) (.pair (.int .i64) (.pair (.int .i64) (.pair (.int .i64) (.int .i64))))) (fun x : Entry => (x.From, x.Len, x.Dev, x.To, x.Stale))
theorem kEntry_open {h : Heap} {ok : Fp} {cs : List Value} {x : Entry} (k : kEntry.rep h ok cs x) : cs = [.int .i64 x.From, .int .i64 x.Len, .int .i64 x.Dev, .int .i64 x.To, .int .i64 x.Stale] := by
  obtain ⟨_, _, rfl, rfl, ⟨_, _, rfl, rfl, ⟨_, _, rfl, rfl, ⟨_, _, rfl, rfl, rfl⟩⟩⟩⟩ := k
  exact rfl
theorem kEntry_mk {h : Heap} {ok : Fp} (x : Entry) : kEntry.rep h ok [.int .i64 x.From, .int .i64 x.Len, .int .i64 x.Dev, .int .i64 x.To, .int .i64 x.Stale] x := ⟨[.int .i64 x.From], [.int .i64 x.Len, .int .i64 x.Dev, .int .i64 x.To, .int .i64 x.Stale], rfl, rfl, ⟨[.int .i64 x.Len], [.int .i64 x.Dev, .int .i64 x.To, .int .i64 x.Stale], rfl, rfl, ⟨[.int .i64 x.Dev], [.int .i64 x.To, .int .i64 x.Stale], rfl, rfl, ⟨[.int .i64 x.To], [.int .i64 x.Stale], rfl, rfl, rfl⟩⟩⟩⟩
theorem kEntry_at {h : Heap} {ok : Fp} {A : Option Addr} {xs : List Entry} (k : Sl kEntry h ok A xs) {i : Int} (h0 : 0 ≤ i) (h1 : i < (xs.length : Int)) : ∃ ad, A = some ad ∧ At h (ad.add (i.toNat * 5)) [.int .i64 ((rd xs i).From), .int .i64 ((rd xs i).Len), .int .i64 ((rd xs i).Dev), .int .i64 ((rd xs i).To), .int .i64 ((rd xs i).Stale)] := by
  obtain ⟨ad, cs, e, hr, hA⟩ := k.at_ h0 h1 default
  obtain rfl := kEntry_open hr
  exact ⟨ad, e, hA⟩
def kTableR : Kd Table := .iso (.pair (.int .i64) (.pair (.int .i64) (.sl kEntry))) (fun x : Table => (x.Dev, x.Size, x.List_))
theorem kTableR_open {h : Heap} {ok : Fp} {cs : List Value} {x : Table} (k : kTableR.rep h ok cs x) : ∃ (A1 : Option Addr) (c1 : Nat), cs = [.int .i64 x.Dev, .int .i64 x.Size, .slice A1 x.List_.length c1] ∧ x.List_.length ≤ c1 ∧ Sl kEntry h ok A1 x.List_ := by
  obtain ⟨_, _, rfl, rfl, ⟨_, _, rfl, rfl, ⟨A1, c1, rfl, l1, h1⟩⟩⟩ := k
  exact ⟨A1, c1, rfl, l1, h1⟩
theorem kTableR_mk {h : Heap} {ok : Fp} (x : Table) {A1 : Option Addr} {c1 : Nat} (l1 : x.List_.length ≤ c1) (h1 : Sl kEntry h ok A1 x.List_) : kTableR.rep h ok [.int .i64 x.Dev, .int .i64 x.Size, .slice A1 x.List_.length c1] x := ⟨[.int .i64 x.Dev], [.int .i64 x.Size, _], rfl, rfl, ⟨[.int .i64 x.Size], [_], rfl, rfl, ⟨_, _, rfl, l1, h1⟩⟩⟩
theorem kTableR_at {h : Heap} {ok : Fp} {A : Option Addr} {xs : List Table} (k : Sl kTableR h ok A xs) {i : Int} (h0 : 0 ≤ i) (h1 : i < (xs.length : Int)) : ∃ ad A1 c1, A = some ad ∧ At h (ad.add (i.toNat * 3)) [.int .i64 ((rd xs i).Dev), .int .i64 ((rd xs i).Size), .slice A1 ((rd xs i).List_).length c1] ∧ (rd xs i).List_.length ≤ c1 ∧ Sl kEntry h ok A1 (rd xs i).List_ := by
  obtain ⟨ad, cs, e, hr, hA⟩ := k.at_ h0 h1 default
  obtain ⟨A1, c1, rfl, l1, h1⟩ := kTableR_open hr
  exact ⟨ad, A1, c1, e, hA, l1, h1⟩
theorem kTableR_ato {h : Heap} {ok0 ok : Fp} {A : Option Addr} {c : Nat} {xs : List Table} (k : Ow kTableR 24 h ok0 ok A c xs) {i : Int} (h0 : 0 ≤ i) (h1 : i < (xs.length : Int)) : ∃ ad A1 c1, A = some ad ∧ At h (ad.add (i.toNat * 3)) [.int .i64 ((rd xs i).Dev), .int .i64 ((rd xs i).Size), .slice A1 ((rd xs i).List_).length c1] ∧ (rd xs i).List_.length ≤ c1 ∧ Sl kEntry h ok A1 (rd xs i).List_ := by
  obtain ⟨ad, cs, e, hr, hA⟩ := k.at_ h0 h1 default
  obtain ⟨A1, c1, rfl, l1, h1⟩ := kTableR_open hr
  exact ⟨ad, A1, c1, e, hA, l1, h1⟩
def kTableO : Kd Table := .iso (.pair (.int .i64) (.pair (.int .i64) (.ow kEntry 45))) (fun x : Table => (x.Dev, x.Size, x.List_))
theorem kTableO_open {h : Heap} {ok : Fp} {cs : List Value} {x : Table} (k : kTableO.rep h ok cs x) : ∃ (A1 : Option Addr) (c1 : Nat), cs = [.int .i64 x.Dev, .int .i64 x.Size, .slice A1 x.List_.length c1] ∧ Ow kEntry 45 h ok ok A1 c1 x.List_ := by
  obtain ⟨_, _, rfl, rfl, ⟨_, _, rfl, rfl, ⟨A1, c1, rfl, h1⟩⟩⟩ := k
  exact ⟨A1, c1, rfl, h1⟩
theorem kTableO_mk {h : Heap} {ok : Fp} (x : Table) {A1 : Option Addr} {c1 : Nat} (h1 : Ow kEntry 45 h ok ok A1 c1 x.List_) : kTableO.rep h ok [.int .i64 x.Dev, .int .i64 x.Size, .slice A1 x.List_.length c1] x := ⟨[.int .i64 x.Dev], [.int .i64 x.Size, _], rfl, rfl, ⟨[.int .i64 x.Size], [_], rfl, rfl, ⟨_, _, rfl, h1⟩⟩⟩
theorem kTableO_at {h : Heap} {ok : Fp} {A : Option Addr} {xs : List Table} (k : Sl kTableO h ok A xs) {i : Int} (h0 : 0 ≤ i) (h1 : i < (xs.length : Int)) : ∃ ad A1 c1, A = some ad ∧ At h (ad.add (i.toNat * 3)) [.int .i64 ((rd xs i).Dev), .int .i64 ((rd xs i).Size), .slice A1 ((rd xs i).List_).length c1] ∧ Ow kEntry 45 h ok ok A1 c1 (rd xs i).List_ := by
  obtain ⟨ad, cs, e, hr, hA⟩ := k.at_ h0 h1 default
  obtain ⟨A1, c1, rfl, h1⟩ := kTableO_open hr
  exact ⟨ad, A1, c1, e, hA, h1⟩
theorem kTableO_ato {h : Heap} {ok0 ok : Fp} {A : Option Addr} {c : Nat} {xs : List Table} (k : Ow kTableO 24 h ok0 ok A c xs) {i : Int} (h0 : 0 ≤ i) (h1 : i < (xs.length : Int)) : ∃ ad A1 c1, A = some ad ∧ At h (ad.add (i.toNat * 3)) [.int .i64 ((rd xs i).Dev), .int .i64 ((rd xs i).Size), .slice A1 ((rd xs i).List_).length c1] ∧ Ow kEntry 45 h ok ok A1 c1 (rd xs i).List_ := by
  obtain ⟨ad, cs, e, hr, hA⟩ := k.at_ h0 h1 default
  obtain ⟨A1, c1, rfl, h1⟩ := kTableO_open hr
  exact ⟨ad, A1, c1, e, hA, h1⟩
def kPtr : Kd Ptr := .iso (.pair (.int .i64) (.int .i64)) (fun x : Ptr => (x.Dev, x.At))
theorem kPtr_open {h : Heap} {ok : Fp} {cs : List Value} {x : Ptr} (k : kPtr.rep h ok cs x) : cs = [.int .i64 x.Dev, .int .i64 x.At] := by
  obtain ⟨_, _, rfl, rfl, rfl⟩ := k
  exact rfl
theorem kPtr_mk {h : Heap} {ok : Fp} (x : Ptr) : kPtr.rep h ok [.int .i64 x.Dev, .int .i64 x.At] x := ⟨[.int .i64 x.Dev], [.int .i64 x.At], rfl, rfl, rfl⟩
theorem kPtr_at {h : Heap} {ok : Fp} {A : Option Addr} {xs : List Ptr} (k : Sl kPtr h ok A xs) {i : Int} (h0 : 0 ≤ i) (h1 : i < (xs.length : Int)) : ∃ ad, A = some ad ∧ At h (ad.add (i.toNat * 2)) [.int .i64 ((rd xs i).Dev), .int .i64 ((rd xs i).At)] := by
  obtain ⟨ad, cs, e, hr, hA⟩ := k.at_ h0 h1 default
  obtain rfl := kPtr_open hr
  exact ⟨ad, e, hA⟩
def kJobR : Kd Job := .iso (.pair (.int .i64) (.pair (.int .i64) kTableR)) (fun x : Job => (x.Dev, x.At, x.Table))
theorem kJobR_open {h : Heap} {ok : Fp} {cs : List Value} {x : Job} (k : kJobR.rep h ok cs x) : ∃ (A1 : Option Addr) (c1 : Nat), cs = [.int .i64 x.Dev, .int .i64 x.At, .int .i64 x.Table.Dev, .int .i64 x.Table.Size, .slice A1 x.Table.List_.length c1] ∧ x.Table.List_.length ≤ c1 ∧ Sl kEntry h ok A1 x.Table.List_ := by
  obtain ⟨_, _, rfl, rfl, ⟨_, _, rfl, rfl, ⟨_, _, rfl, rfl, ⟨_, _, rfl, rfl, ⟨A1, c1, rfl, l1, h1⟩⟩⟩⟩⟩ := k
  exact ⟨A1, c1, rfl, l1, h1⟩
theorem kJobR_mk {h : Heap} {ok : Fp} (x : Job) {A1 : Option Addr} {c1 : Nat} (l1 : x.Table.List_.length ≤ c1) (h1 : Sl kEntry h ok A1 x.Table.List_) : kJobR.rep h ok [.int .i64 x.Dev, .int .i64 x.At, .int .i64 x.Table.Dev, .int .i64 x.Table.Size, .slice A1 x.Table.List_.length c1] x := ⟨[.int .i64 x.Dev], [.int .i64 x.At, .int .i64 x.Table.Dev, .int .i64 x.Table.Size, _], rfl, rfl, ⟨[.int .i64 x.At], [.int .i64 x.Table.Dev, .int .i64 x.Table.Size, _], rfl, rfl, ⟨[.int .i64 x.Table.Dev], [.int .i64 x.Table.Size, _], rfl, rfl, ⟨[.int .i64 x.Table.Size], [_], rfl, rfl, ⟨_, _, rfl, l1, h1⟩⟩⟩⟩⟩
theorem kJobR_at {h : Heap} {ok : Fp} {A : Option Addr} {xs : List Job} (k : Sl kJobR h ok A xs) {i : Int} (h0 : 0 ≤ i) (h1 : i < (xs.length : Int)) : ∃ ad A1 c1, A = some ad ∧ At h (ad.add (i.toNat * 5)) [.int .i64 ((rd xs i).Dev), .int .i64 ((rd xs i).At), .int .i64 (((rd xs i).Table).Dev), .int .i64 (((rd xs i).Table).Size), .slice A1 (((rd xs i).Table).List_).length c1] ∧ (rd xs i).Table.List_.length ≤ c1 ∧ Sl kEntry h ok A1 (rd xs i).Table.List_ := by
  obtain ⟨ad, cs, e, hr, hA⟩ := k.at_ h0 h1 default
  obtain ⟨A1, c1, rfl, l1, h1⟩ := kJobR_open hr
  exact ⟨ad, A1, c1, e, hA, l1, h1⟩
theorem kJobR_ato {h : Heap} {ok0 ok : Fp} {A : Option Addr} {c : Nat} {xs : List Job} (k : Ow kJobR 59 h ok0 ok A c xs) {i : Int} (h0 : 0 ≤ i) (h1 : i < (xs.length : Int)) : ∃ ad A1 c1, A = some ad ∧ At h (ad.add (i.toNat * 5)) [.int .i64 ((rd xs i).Dev), .int .i64 ((rd xs i).At), .int .i64 (((rd xs i).Table).Dev), .int .i64 (((rd xs i).Table).Size), .slice A1 (((rd xs i).Table).List_).length c1] ∧ (rd xs i).Table.List_.length ≤ c1 ∧ Sl kEntry h ok A1 (rd xs i).Table.List_ := by
  obtain ⟨ad, cs, e, hr, hA⟩ := k.at_ h0 h1 default
  obtain ⟨A1, c1, rfl, l1, h1⟩ := kJobR_open hr
  exact ⟨ad, A1, c1, e, hA, l1, h1⟩
def kJobO : Kd Job := .iso (.pair (.int .i64) (.pair (.int .i64) kTableO)) (fun x : Job => (x.Dev, x.At, x.Table))
theorem kJobO_open {h : Heap} {ok : Fp} {cs : List Value} {x : Job} (k : kJobO.rep h ok cs x) : ∃ (A1 : Option Addr) (c1 : Nat), cs = [.int .i64 x.Dev, .int .i64 x.At, .int .i64 x.Table.Dev, .int .i64 x.Table.Size, .slice A1 x.Table.List_.length c1] ∧ Ow kEntry 45 h ok ok A1 c1 x.Table.List_ := by
  obtain ⟨_, _, rfl, rfl, ⟨_, _, rfl, rfl, ⟨_, _, rfl, rfl, ⟨_, _, rfl, rfl, ⟨A1, c1, rfl, h1⟩⟩⟩⟩⟩ := k
  exact ⟨A1, c1, rfl, h1⟩
theorem kJobO_mk {h : Heap} {ok : Fp} (x : Job) {A1 : Option Addr} {c1 : Nat} (h1 : Ow kEntry 45 h ok ok A1 c1 x.Table.List_) : kJobO.rep h ok [.int .i64 x.Dev, .int .i64 x.At, .int .i64 x.Table.Dev, .int .i64 x.Table.Size, .slice A1 x.Table.List_.length c1] x := ⟨[.int .i64 x.Dev], [.int .i64 x.At, .int .i64 x.Table.Dev, .int .i64 x.Table.Size, _], rfl, rfl, ⟨[.int .i64 x.At], [.int .i64 x.Table.Dev, .int .i64 x.Table.Size, _], rfl, rfl, ⟨[.int .i64 x.Table.Dev], [.int .i64 x.Table.Size, _], rfl, rfl, ⟨[.int .i64 x.Table.Size], [_], rfl, rfl, ⟨_, _, rfl, h1⟩⟩⟩⟩⟩
theorem kJobO_at {h : Heap} {ok : Fp} {A : Option Addr} {xs : List Job} (k : Sl kJobO h ok A xs) {i : Int} (h0 : 0 ≤ i) (h1 : i < (xs.length : Int)) : ∃ ad A1 c1, A = some ad ∧ At h (ad.add (i.toNat * 5)) [.int .i64 ((rd xs i).Dev), .int .i64 ((rd xs i).At), .int .i64 (((rd xs i).Table).Dev), .int .i64 (((rd xs i).Table).Size), .slice A1 (((rd xs i).Table).List_).length c1] ∧ Ow kEntry 45 h ok ok A1 c1 (rd xs i).Table.List_ := by
  obtain ⟨ad, cs, e, hr, hA⟩ := k.at_ h0 h1 default
  obtain ⟨A1, c1, rfl, h1⟩ := kJobO_open hr
  exact ⟨ad, A1, c1, e, hA, h1⟩
theorem kJobO_ato {h : Heap} {ok0 ok : Fp} {A : Option Addr} {c : Nat} {xs : List Job} (k : Ow kJobO 59 h ok0 ok A c xs) {i : Int} (h0 : 0 ≤ i) (h1 : i < (xs.length : Int)) : ∃ ad A1 c1, A = some ad ∧ At h (ad.add (i.toNat * 5)) [.int .i64 ((rd xs i).Dev), .int .i64 ((rd xs i).At), .int .i64 (((rd xs i).Table).Dev), .int .i64 (((rd xs i).Table).Size), .slice A1 (((rd xs i).Table).List_).length c1] ∧ Ow kEntry 45 h ok ok A1 c1 (rd xs i).Table.List_ := by
  obtain ⟨ad, cs, e, hr, hA⟩ := k.at_ h0 h1 default
  obtain ⟨A1, c1, rfl, h1⟩ := kJobO_open hr
  exact ⟨ad, A1, c1, e, hA, h1⟩
def kSeg : Kd Seg := .iso (.pair (.int .i64) (.int .i64)) (fun x : Seg => (x.At, x.Len))
theorem kSeg_open {h : Heap} {ok : Fp} {cs : List Value} {x : Seg} (k : kSeg.rep h ok cs x) : cs = [.int .i64 x.At, .int .i64 x.Len] := by
  obtain ⟨_, _, rfl, rfl, rfl⟩ := k
  exact rfl
theorem kSeg_mk {h : Heap} {ok : Fp} (x : Seg) : kSeg.rep h ok [.int .i64 x.At, .int .i64 x.Len] x := ⟨[.int .i64 x.At], [.int .i64 x.Len], rfl, rfl, rfl⟩
theorem kSeg_at {h : Heap} {ok : Fp} {A : Option Addr} {xs : List Seg} (k : Sl kSeg h ok A xs) {i : Int} (h0 : 0 ≤ i) (h1 : i < (xs.length : Int)) : ∃ ad, A = some ad ∧ At h (ad.add (i.toNat * 2)) [.int .i64 ((rd xs i).At), .int .i64 ((rd xs i).Len)] := by
  obtain ⟨ad, cs, e, hr, hA⟩ := k.at_ h0 h1 default
  obtain rfl := kSeg_open hr
  exact ⟨ad, e, hA⟩
def kDeviceR : Kd Device := .iso (.pair (.int .i64) (.pair (.int .i64) (.pair (.sl kSeg) (.sl kSeg)))) (fun x : Device => (x.ID, x.Size, x.Free, x.Late))
theorem kDeviceR_open {h : Heap} {ok : Fp} {cs : List Value} {x : Device} (k : kDeviceR.rep h ok cs x) : ∃ (A1 : Option Addr) (c1 : Nat) (A2 : Option Addr) (c2 : Nat), cs = [.int .i64 x.ID, .int .i64 x.Size, .slice A1 x.Free.length c1, .slice A2 x.Late.length c2] ∧ x.Free.length ≤ c1 ∧ Sl kSeg h ok A1 x.Free ∧ x.Late.length ≤ c2 ∧ Sl kSeg h ok A2 x.Late := by
  obtain ⟨_, _, rfl, rfl, ⟨_, _, rfl, rfl, ⟨_, _, rfl, ⟨A1, c1, rfl, l1, h1⟩, ⟨A2, c2, rfl, l2, h2⟩⟩⟩⟩ := k
  exact ⟨A1, c1, A2, c2, rfl, l1, h1, l2, h2⟩
theorem kDeviceR_mk {h : Heap} {ok : Fp} (x : Device) {A1 : Option Addr} {c1 : Nat} (l1 : x.Free.length ≤ c1) (h1 : Sl kSeg h ok A1 x.Free) {A2 : Option Addr} {c2 : Nat} (l2 : x.Late.length ≤ c2) (h2 : Sl kSeg h ok A2 x.Late) : kDeviceR.rep h ok [.int .i64 x.ID, .int .i64 x.Size, .slice A1 x.Free.length c1, .slice A2 x.Late.length c2] x := ⟨[.int .i64 x.ID], [.int .i64 x.Size, _, _], rfl, rfl, ⟨[.int .i64 x.Size], [_, _], rfl, rfl, ⟨[_], [_], rfl, ⟨_, _, rfl, l1, h1⟩, ⟨_, _, rfl, l2, h2⟩⟩⟩⟩
theorem kDeviceR_at {h : Heap} {ok : Fp} {A : Option Addr} {xs : List Device} (k : Sl kDeviceR h ok A xs) {i : Int} (h0 : 0 ≤ i) (h1 : i < (xs.length : Int)) : ∃ ad A1 c1 A2 c2, A = some ad ∧ At h (ad.add (i.toNat * 4)) [.int .i64 ((rd xs i).ID), .int .i64 ((rd xs i).Size), .slice A1 ((rd xs i).Free).length c1, .slice A2 ((rd xs i).Late).length c2] ∧ (rd xs i).Free.length ≤ c1 ∧ Sl kSeg h ok A1 (rd xs i).Free ∧ (rd xs i).Late.length ≤ c2 ∧ Sl kSeg h ok A2 (rd xs i).Late := by
  obtain ⟨ad, cs, e, hr, hA⟩ := k.at_ h0 h1 default
  obtain ⟨A1, c1, A2, c2, rfl, l1, h1, l2, h2⟩ := kDeviceR_open hr
  exact ⟨ad, A1, c1, A2, c2, e, hA, l1, h1, l2, h2⟩
theorem kDeviceR_ato {h : Heap} {ok0 ok : Fp} {A : Option Addr} {c : Nat} {xs : List Device} (k : Ow kDeviceR 67 h ok0 ok A c xs) {i : Int} (h0 : 0 ≤ i) (h1 : i < (xs.length : Int)) : ∃ ad A1 c1 A2 c2, A = some ad ∧ At h (ad.add (i.toNat * 4)) [.int .i64 ((rd xs i).ID), .int .i64 ((rd xs i).Size), .slice A1 ((rd xs i).Free).length c1, .slice A2 ((rd xs i).Late).length c2] ∧ (rd xs i).Free.length ≤ c1 ∧ Sl kSeg h ok A1 (rd xs i).Free ∧ (rd xs i).Late.length ≤ c2 ∧ Sl kSeg h ok A2 (rd xs i).Late := by
  obtain ⟨ad, cs, e, hr, hA⟩ := k.at_ h0 h1 default
  obtain ⟨A1, c1, A2, c2, rfl, l1, h1, l2, h2⟩ := kDeviceR_open hr
  exact ⟨ad, A1, c1, A2, c2, e, hA, l1, h1, l2, h2⟩
def kDeviceO : Kd Device := .iso (.pair (.int .i64) (.pair (.int .i64) (.pair (.ow kSeg 132) (.ow kSeg 132)))) (fun x : Device => (x.ID, x.Size, x.Free, x.Late))
theorem kDeviceO_open {h : Heap} {ok : Fp} {cs : List Value} {x : Device} (k : kDeviceO.rep h ok cs x) : ∃ (A1 : Option Addr) (c1 : Nat) (A2 : Option Addr) (c2 : Nat), cs = [.int .i64 x.ID, .int .i64 x.Size, .slice A1 x.Free.length c1, .slice A2 x.Late.length c2] ∧ Ow kSeg 132 h ok ok A1 c1 x.Free ∧ Ow kSeg 132 h ok ok A2 c2 x.Late := by
  obtain ⟨_, _, rfl, rfl, ⟨_, _, rfl, rfl, ⟨_, _, rfl, ⟨A1, c1, rfl, h1⟩, ⟨A2, c2, rfl, h2⟩⟩⟩⟩ := k
  exact ⟨A1, c1, A2, c2, rfl, h1, h2⟩
theorem kDeviceO_mk {h : Heap} {ok : Fp} (x : Device) {A1 : Option Addr} {c1 : Nat} (h1 : Ow kSeg 132 h ok ok A1 c1 x.Free) {A2 : Option Addr} {c2 : Nat} (h2 : Ow kSeg 132 h ok ok A2 c2 x.Late) : kDeviceO.rep h ok [.int .i64 x.ID, .int .i64 x.Size, .slice A1 x.Free.length c1, .slice A2 x.Late.length c2] x := ⟨[.int .i64 x.ID], [.int .i64 x.Size, _, _], rfl, rfl, ⟨[.int .i64 x.Size], [_, _], rfl, rfl, ⟨[_], [_], rfl, ⟨_, _, rfl, h1⟩, ⟨_, _, rfl, h2⟩⟩⟩⟩
theorem kDeviceO_at {h : Heap} {ok : Fp} {A : Option Addr} {xs : List Device} (k : Sl kDeviceO h ok A xs) {i : Int} (h0 : 0 ≤ i) (h1 : i < (xs.length : Int)) : ∃ ad A1 c1 A2 c2, A = some ad ∧ At h (ad.add (i.toNat * 4)) [.int .i64 ((rd xs i).ID), .int .i64 ((rd xs i).Size), .slice A1 ((rd xs i).Free).length c1, .slice A2 ((rd xs i).Late).length c2] ∧ Ow kSeg 132 h ok ok A1 c1 (rd xs i).Free ∧ Ow kSeg 132 h ok ok A2 c2 (rd xs i).Late := by
  obtain ⟨ad, cs, e, hr, hA⟩ := k.at_ h0 h1 default
  obtain ⟨A1, c1, A2, c2, rfl, h1, h2⟩ := kDeviceO_open hr
  exact ⟨ad, A1, c1, A2, c2, e, hA, h1, h2⟩
theorem kDeviceO_ato {h : Heap} {ok0 ok : Fp} {A : Option Addr} {c : Nat} {xs : List Device} (k : Ow kDeviceO 67 h ok0 ok A c xs) {i : Int} (h0 : 0 ≤ i) (h1 : i < (xs.length : Int)) : ∃ ad A1 c1 A2 c2, A = some ad ∧ At h (ad.add (i.toNat * 4)) [.int .i64 ((rd xs i).ID), .int .i64 ((rd xs i).Size), .slice A1 ((rd xs i).Free).length c1, .slice A2 ((rd xs i).Late).length c2] ∧ Ow kSeg 132 h ok ok A1 c1 (rd xs i).Free ∧ Ow kSeg 132 h ok ok A2 c2 (rd xs i).Late := by
  obtain ⟨ad, cs, e, hr, hA⟩ := k.at_ h0 h1 default
  obtain ⟨A1, c1, A2, c2, rfl, h1, h2⟩ := kDeviceO_open hr
  exact ⟨ad, A1, c1, A2, c2, e, hA, h1, h2⟩
def kPoolR : Kd Pool := .iso (.pair (.sl kDeviceR) (.pair (.sl kTableR) (.pair kJobR (.int .i64)))) (fun x : Pool => (x.Devices, x.Tables, x.Job, x.Next))
theorem kPoolR_open {h : Heap} {ok : Fp} {cs : List Value} {x : Pool} (k : kPoolR.rep h ok cs x) : ∃ (A1 : Option Addr) (c1 : Nat) (A2 : Option Addr) (c2 : Nat) (A3 : Option Addr) (c3 : Nat), cs = [.slice A1 x.Devices.length c1, .slice A2 x.Tables.length c2, .int .i64 x.Job.Dev, .int .i64 x.Job.At, .int .i64 x.Job.Table.Dev, .int .i64 x.Job.Table.Size, .slice A3 x.Job.Table.List_.length c3, .int .i64 x.Next] ∧ x.Devices.length ≤ c1 ∧ Sl kDeviceR h ok A1 x.Devices ∧ x.Tables.length ≤ c2 ∧ Sl kTableR h ok A2 x.Tables ∧ x.Job.Table.List_.length ≤ c3 ∧ Sl kEntry h ok A3 x.Job.Table.List_ := by
  obtain ⟨_, _, rfl, ⟨A1, c1, rfl, l1, h1⟩, ⟨_, _, rfl, ⟨A2, c2, rfl, l2, h2⟩, ⟨_, _, rfl, ⟨_, _, rfl, rfl, ⟨_, _, rfl, rfl, ⟨_, _, rfl, rfl, ⟨_, _, rfl, rfl, ⟨A3, c3, rfl, l3, h3⟩⟩⟩⟩⟩, rfl⟩⟩⟩ := k
  exact ⟨A1, c1, A2, c2, A3, c3, rfl, l1, h1, l2, h2, l3, h3⟩
theorem kPoolR_mk {h : Heap} {ok : Fp} (x : Pool) {A1 : Option Addr} {c1 : Nat} (l1 : x.Devices.length ≤ c1) (h1 : Sl kDeviceR h ok A1 x.Devices) {A2 : Option Addr} {c2 : Nat} (l2 : x.Tables.length ≤ c2) (h2 : Sl kTableR h ok A2 x.Tables) {A3 : Option Addr} {c3 : Nat} (l3 : x.Job.Table.List_.length ≤ c3) (h3 : Sl kEntry h ok A3 x.Job.Table.List_) : kPoolR.rep h ok [.slice A1 x.Devices.length c1, .slice A2 x.Tables.length c2, .int .i64 x.Job.Dev, .int .i64 x.Job.At, .int .i64 x.Job.Table.Dev, .int .i64 x.Job.Table.Size, .slice A3 x.Job.Table.List_.length c3, .int .i64 x.Next] x := ⟨[_], [_, .int .i64 x.Job.Dev, .int .i64 x.Job.At, .int .i64 x.Job.Table.Dev, .int .i64 x.Job.Table.Size, _, .int .i64 x.Next], rfl, ⟨_, _, rfl, l1, h1⟩, ⟨[_], [.int .i64 x.Job.Dev, .int .i64 x.Job.At, .int .i64 x.Job.Table.Dev, .int .i64 x.Job.Table.Size, _, .int .i64 x.Next], rfl, ⟨_, _, rfl, l2, h2⟩, ⟨[.int .i64 x.Job.Dev, .int .i64 x.Job.At, .int .i64 x.Job.Table.Dev, .int .i64 x.Job.Table.Size, _], [.int .i64 x.Next], rfl, ⟨[.int .i64 x.Job.Dev], [.int .i64 x.Job.At, .int .i64 x.Job.Table.Dev, .int .i64 x.Job.Table.Size, _], rfl, rfl, ⟨[.int .i64 x.Job.At], [.int .i64 x.Job.Table.Dev, .int .i64 x.Job.Table.Size, _], rfl, rfl, ⟨[.int .i64 x.Job.Table.Dev], [.int .i64 x.Job.Table.Size, _], rfl, rfl, ⟨[.int .i64 x.Job.Table.Size], [_], rfl, rfl, ⟨_, _, rfl, l3, h3⟩⟩⟩⟩⟩, rfl⟩⟩⟩
theorem kPoolR_at {h : Heap} {ok : Fp} {A : Option Addr} {xs : List Pool} (k : Sl kPoolR h ok A xs) {i : Int} (h0 : 0 ≤ i) (h1 : i < (xs.length : Int)) : ∃ ad A1 c1 A2 c2 A3 c3, A = some ad ∧ At h (ad.add (i.toNat * 8)) [.slice A1 ((rd xs i).Devices).length c1, .slice A2 ((rd xs i).Tables).length c2, .int .i64 (((rd xs i).Job).Dev), .int .i64 (((rd xs i).Job).At), .int .i64 ((((rd xs i).Job).Table).Dev), .int .i64 ((((rd xs i).Job).Table).Size), .slice A3 ((((rd xs i).Job).Table).List_).length c3, .int .i64 ((rd xs i).Next)] ∧ (rd xs i).Devices.length ≤ c1 ∧ Sl kDeviceR h ok A1 (rd xs i).Devices ∧ (rd xs i).Tables.length ≤ c2 ∧ Sl kTableR h ok A2 (rd xs i).Tables ∧ (rd xs i).Job.Table.List_.length ≤ c3 ∧ Sl kEntry h ok A3 (rd xs i).Job.Table.List_ := by
  obtain ⟨ad, cs, e, hr, hA⟩ := k.at_ h0 h1 default
  obtain ⟨A1, c1, A2, c2, A3, c3, rfl, l1, h1, l2, h2, l3, h3⟩ := kPoolR_open hr
  exact ⟨ad, A1, c1, A2, c2, A3, c3, e, hA, l1, h1, l2, h2, l3, h3⟩
theorem kPoolR_ato {h : Heap} {ok0 ok : Fp} {A : Option Addr} {c : Nat} {xs : List Pool} (k : Ow kPoolR 61 h ok0 ok A c xs) {i : Int} (h0 : 0 ≤ i) (h1 : i < (xs.length : Int)) : ∃ ad A1 c1 A2 c2 A3 c3, A = some ad ∧ At h (ad.add (i.toNat * 8)) [.slice A1 ((rd xs i).Devices).length c1, .slice A2 ((rd xs i).Tables).length c2, .int .i64 (((rd xs i).Job).Dev), .int .i64 (((rd xs i).Job).At), .int .i64 ((((rd xs i).Job).Table).Dev), .int .i64 ((((rd xs i).Job).Table).Size), .slice A3 ((((rd xs i).Job).Table).List_).length c3, .int .i64 ((rd xs i).Next)] ∧ (rd xs i).Devices.length ≤ c1 ∧ Sl kDeviceR h ok A1 (rd xs i).Devices ∧ (rd xs i).Tables.length ≤ c2 ∧ Sl kTableR h ok A2 (rd xs i).Tables ∧ (rd xs i).Job.Table.List_.length ≤ c3 ∧ Sl kEntry h ok A3 (rd xs i).Job.Table.List_ := by
  obtain ⟨ad, cs, e, hr, hA⟩ := k.at_ h0 h1 default
  obtain ⟨A1, c1, A2, c2, A3, c3, rfl, l1, h1, l2, h2, l3, h3⟩ := kPoolR_open hr
  exact ⟨ad, A1, c1, A2, c2, A3, c3, e, hA, l1, h1, l2, h2, l3, h3⟩
def kPoolO : Kd Pool := .iso (.pair (.ow kDeviceO 67) (.pair (.ow kTableO 24) (.pair kJobO (.int .i64)))) (fun x : Pool => (x.Devices, x.Tables, x.Job, x.Next))
theorem kPoolO_open {h : Heap} {ok : Fp} {cs : List Value} {x : Pool} (k : kPoolO.rep h ok cs x) : ∃ (A1 : Option Addr) (c1 : Nat) (A2 : Option Addr) (c2 : Nat) (A3 : Option Addr) (c3 : Nat), cs = [.slice A1 x.Devices.length c1, .slice A2 x.Tables.length c2, .int .i64 x.Job.Dev, .int .i64 x.Job.At, .int .i64 x.Job.Table.Dev, .int .i64 x.Job.Table.Size, .slice A3 x.Job.Table.List_.length c3, .int .i64 x.Next] ∧ Ow kDeviceO 67 h ok ok A1 c1 x.Devices ∧ Ow kTableO 24 h ok ok A2 c2 x.Tables ∧ Ow kEntry 45 h ok ok A3 c3 x.Job.Table.List_ := by
  obtain ⟨_, _, rfl, ⟨A1, c1, rfl, h1⟩, ⟨_, _, rfl, ⟨A2, c2, rfl, h2⟩, ⟨_, _, rfl, ⟨_, _, rfl, rfl, ⟨_, _, rfl, rfl, ⟨_, _, rfl, rfl, ⟨_, _, rfl, rfl, ⟨A3, c3, rfl, h3⟩⟩⟩⟩⟩, rfl⟩⟩⟩ := k
  exact ⟨A1, c1, A2, c2, A3, c3, rfl, h1, h2, h3⟩
theorem kPoolO_mk {h : Heap} {ok : Fp} (x : Pool) {A1 : Option Addr} {c1 : Nat} (h1 : Ow kDeviceO 67 h ok ok A1 c1 x.Devices) {A2 : Option Addr} {c2 : Nat} (h2 : Ow kTableO 24 h ok ok A2 c2 x.Tables) {A3 : Option Addr} {c3 : Nat} (h3 : Ow kEntry 45 h ok ok A3 c3 x.Job.Table.List_) : kPoolO.rep h ok [.slice A1 x.Devices.length c1, .slice A2 x.Tables.length c2, .int .i64 x.Job.Dev, .int .i64 x.Job.At, .int .i64 x.Job.Table.Dev, .int .i64 x.Job.Table.Size, .slice A3 x.Job.Table.List_.length c3, .int .i64 x.Next] x := ⟨[_], [_, .int .i64 x.Job.Dev, .int .i64 x.Job.At, .int .i64 x.Job.Table.Dev, .int .i64 x.Job.Table.Size, _, .int .i64 x.Next], rfl, ⟨_, _, rfl, h1⟩, ⟨[_], [.int .i64 x.Job.Dev, .int .i64 x.Job.At, .int .i64 x.Job.Table.Dev, .int .i64 x.Job.Table.Size, _, .int .i64 x.Next], rfl, ⟨_, _, rfl, h2⟩, ⟨[.int .i64 x.Job.Dev, .int .i64 x.Job.At, .int .i64 x.Job.Table.Dev, .int .i64 x.Job.Table.Size, _], [.int .i64 x.Next], rfl, ⟨[.int .i64 x.Job.Dev], [.int .i64 x.Job.At, .int .i64 x.Job.Table.Dev, .int .i64 x.Job.Table.Size, _], rfl, rfl, ⟨[.int .i64 x.Job.At], [.int .i64 x.Job.Table.Dev, .int .i64 x.Job.Table.Size, _], rfl, rfl, ⟨[.int .i64 x.Job.Table.Dev], [.int .i64 x.Job.Table.Size, _], rfl, rfl, ⟨[.int .i64 x.Job.Table.Size], [_], rfl, rfl, ⟨_, _, rfl, h3⟩⟩⟩⟩⟩, rfl⟩⟩⟩
theorem kPoolO_at {h : Heap} {ok : Fp} {A : Option Addr} {xs : List Pool} (k : Sl kPoolO h ok A xs) {i : Int} (h0 : 0 ≤ i) (h1 : i < (xs.length : Int)) : ∃ ad A1 c1 A2 c2 A3 c3, A = some ad ∧ At h (ad.add (i.toNat * 8)) [.slice A1 ((rd xs i).Devices).length c1, .slice A2 ((rd xs i).Tables).length c2, .int .i64 (((rd xs i).Job).Dev), .int .i64 (((rd xs i).Job).At), .int .i64 ((((rd xs i).Job).Table).Dev), .int .i64 ((((rd xs i).Job).Table).Size), .slice A3 ((((rd xs i).Job).Table).List_).length c3, .int .i64 ((rd xs i).Next)] ∧ Ow kDeviceO 67 h ok ok A1 c1 (rd xs i).Devices ∧ Ow kTableO 24 h ok ok A2 c2 (rd xs i).Tables ∧ Ow kEntry 45 h ok ok A3 c3 (rd xs i).Job.Table.List_ := by
  obtain ⟨ad, cs, e, hr, hA⟩ := k.at_ h0 h1 default
  obtain ⟨A1, c1, A2, c2, A3, c3, rfl, h1, h2, h3⟩ := kPoolO_open hr
  exact ⟨ad, A1, c1, A2, c2, A3, c3, e, hA, h1, h2, h3⟩
theorem kPoolO_ato {h : Heap} {ok0 ok : Fp} {A : Option Addr} {c : Nat} {xs : List Pool} (k : Ow kPoolO 61 h ok0 ok A c xs) {i : Int} (h0 : 0 ≤ i) (h1 : i < (xs.length : Int)) : ∃ ad A1 c1 A2 c2 A3 c3, A = some ad ∧ At h (ad.add (i.toNat * 8)) [.slice A1 ((rd xs i).Devices).length c1, .slice A2 ((rd xs i).Tables).length c2, .int .i64 (((rd xs i).Job).Dev), .int .i64 (((rd xs i).Job).At), .int .i64 ((((rd xs i).Job).Table).Dev), .int .i64 ((((rd xs i).Job).Table).Size), .slice A3 ((((rd xs i).Job).Table).List_).length c3, .int .i64 ((rd xs i).Next)] ∧ Ow kDeviceO 67 h ok ok A1 c1 (rd xs i).Devices ∧ Ow kTableO 24 h ok ok A2 c2 (rd xs i).Tables ∧ Ow kEntry 45 h ok ok A3 c3 (rd xs i).Job.Table.List_ := by
  obtain ⟨ad, cs, e, hr, hA⟩ := k.at_ h0 h1 default
  obtain ⟨A1, c1, A2, c2, A3, c3, rfl, h1, h2, h3⟩ := kPoolO_open hr
  exact ⟨ad, A1, c1, A2, c2, A3, c3, e, hA, h1, h2, h3⟩
def khermitagelaw10ActR : Kd hermitagelaw10Act := .iso (.pair (.int .i64) (.pair (.int .i64) (.sl kPtr))) (fun x : hermitagelaw10Act => (x.Do, x.N, x.Q))
theorem khermitagelaw10ActR_open {h : Heap} {ok : Fp} {cs : List Value} {x : hermitagelaw10Act} (k : khermitagelaw10ActR.rep h ok cs x) : ∃ (A1 : Option Addr) (c1 : Nat), cs = [.int .i64 x.Do, .int .i64 x.N, .slice A1 x.Q.length c1] ∧ x.Q.length ≤ c1 ∧ Sl kPtr h ok A1 x.Q := by
  obtain ⟨_, _, rfl, rfl, ⟨_, _, rfl, rfl, ⟨A1, c1, rfl, l1, h1⟩⟩⟩ := k
  exact ⟨A1, c1, rfl, l1, h1⟩
theorem khermitagelaw10ActR_mk {h : Heap} {ok : Fp} (x : hermitagelaw10Act) {A1 : Option Addr} {c1 : Nat} (l1 : x.Q.length ≤ c1) (h1 : Sl kPtr h ok A1 x.Q) : khermitagelaw10ActR.rep h ok [.int .i64 x.Do, .int .i64 x.N, .slice A1 x.Q.length c1] x := ⟨[.int .i64 x.Do], [.int .i64 x.N, _], rfl, rfl, ⟨[.int .i64 x.N], [_], rfl, rfl, ⟨_, _, rfl, l1, h1⟩⟩⟩
theorem khermitagelaw10ActR_at {h : Heap} {ok : Fp} {A : Option Addr} {xs : List hermitagelaw10Act} (k : Sl khermitagelaw10ActR h ok A xs) {i : Int} (h0 : 0 ≤ i) (h1 : i < (xs.length : Int)) : ∃ ad A1 c1, A = some ad ∧ At h (ad.add (i.toNat * 3)) [.int .i64 ((rd xs i).Do), .int .i64 ((rd xs i).N), .slice A1 ((rd xs i).Q).length c1] ∧ (rd xs i).Q.length ≤ c1 ∧ Sl kPtr h ok A1 (rd xs i).Q := by
  obtain ⟨ad, cs, e, hr, hA⟩ := k.at_ h0 h1 default
  obtain ⟨A1, c1, rfl, l1, h1⟩ := khermitagelaw10ActR_open hr
  exact ⟨ad, A1, c1, e, hA, l1, h1⟩
theorem khermitagelaw10ActR_ato {h : Heap} {ok0 ok : Fp} {A : Option Addr} {c : Nat} {xs : List hermitagelaw10Act} (k : Ow khermitagelaw10ActR 74 h ok0 ok A c xs) {i : Int} (h0 : 0 ≤ i) (h1 : i < (xs.length : Int)) : ∃ ad A1 c1, A = some ad ∧ At h (ad.add (i.toNat * 3)) [.int .i64 ((rd xs i).Do), .int .i64 ((rd xs i).N), .slice A1 ((rd xs i).Q).length c1] ∧ (rd xs i).Q.length ≤ c1 ∧ Sl kPtr h ok A1 (rd xs i).Q := by
  obtain ⟨ad, cs, e, hr, hA⟩ := k.at_ h0 h1 default
  obtain ⟨A1, c1, rfl, l1, h1⟩ := khermitagelaw10ActR_open hr
  exact ⟨ad, A1, c1, e, hA, l1, h1⟩
def khermitagelaw10ActO : Kd hermitagelaw10Act := .iso (.pair (.int .i64) (.pair (.int .i64) (.ow kPtr 33))) (fun x : hermitagelaw10Act => (x.Do, x.N, x.Q))
theorem khermitagelaw10ActO_open {h : Heap} {ok : Fp} {cs : List Value} {x : hermitagelaw10Act} (k : khermitagelaw10ActO.rep h ok cs x) : ∃ (A1 : Option Addr) (c1 : Nat), cs = [.int .i64 x.Do, .int .i64 x.N, .slice A1 x.Q.length c1] ∧ Ow kPtr 33 h ok ok A1 c1 x.Q := by
  obtain ⟨_, _, rfl, rfl, ⟨_, _, rfl, rfl, ⟨A1, c1, rfl, h1⟩⟩⟩ := k
  exact ⟨A1, c1, rfl, h1⟩
theorem khermitagelaw10ActO_mk {h : Heap} {ok : Fp} (x : hermitagelaw10Act) {A1 : Option Addr} {c1 : Nat} (h1 : Ow kPtr 33 h ok ok A1 c1 x.Q) : khermitagelaw10ActO.rep h ok [.int .i64 x.Do, .int .i64 x.N, .slice A1 x.Q.length c1] x := ⟨[.int .i64 x.Do], [.int .i64 x.N, _], rfl, rfl, ⟨[.int .i64 x.N], [_], rfl, rfl, ⟨_, _, rfl, h1⟩⟩⟩
theorem khermitagelaw10ActO_at {h : Heap} {ok : Fp} {A : Option Addr} {xs : List hermitagelaw10Act} (k : Sl khermitagelaw10ActO h ok A xs) {i : Int} (h0 : 0 ≤ i) (h1 : i < (xs.length : Int)) : ∃ ad A1 c1, A = some ad ∧ At h (ad.add (i.toNat * 3)) [.int .i64 ((rd xs i).Do), .int .i64 ((rd xs i).N), .slice A1 ((rd xs i).Q).length c1] ∧ Ow kPtr 33 h ok ok A1 c1 (rd xs i).Q := by
  obtain ⟨ad, cs, e, hr, hA⟩ := k.at_ h0 h1 default
  obtain ⟨A1, c1, rfl, h1⟩ := khermitagelaw10ActO_open hr
  exact ⟨ad, A1, c1, e, hA, h1⟩
theorem khermitagelaw10ActO_ato {h : Heap} {ok0 ok : Fp} {A : Option Addr} {c : Nat} {xs : List hermitagelaw10Act} (k : Ow khermitagelaw10ActO 74 h ok0 ok A c xs) {i : Int} (h0 : 0 ≤ i) (h1 : i < (xs.length : Int)) : ∃ ad A1 c1, A = some ad ∧ At h (ad.add (i.toNat * 3)) [.int .i64 ((rd xs i).Do), .int .i64 ((rd xs i).N), .slice A1 ((rd xs i).Q).length c1] ∧ Ow kPtr 33 h ok ok A1 c1 (rd xs i).Q := by
  obtain ⟨ad, cs, e, hr, hA⟩ := k.at_ h0 h1 default
  obtain ⟨A1, c1, rfl, h1⟩ := khermitagelaw10ActO_open hr
  exact ⟨ad, A1, c1, e, hA, h1⟩
def khermitagelaw10ScriptR : Kd hermitagelaw10Script := .iso (.pair kPoolR (.sl khermitagelaw10ActR)) (fun x : hermitagelaw10Script => (x.P, x.A))
theorem khermitagelaw10ScriptR_open {h : Heap} {ok : Fp} {cs : List Value} {x : hermitagelaw10Script} (k : khermitagelaw10ScriptR.rep h ok cs x) : ∃ (A1 : Option Addr) (c1 : Nat) (A2 : Option Addr) (c2 : Nat) (A3 : Option Addr) (c3 : Nat) (A4 : Option Addr) (c4 : Nat), cs = [.slice A1 x.P.Devices.length c1, .slice A2 x.P.Tables.length c2, .int .i64 x.P.Job.Dev, .int .i64 x.P.Job.At, .int .i64 x.P.Job.Table.Dev, .int .i64 x.P.Job.Table.Size, .slice A3 x.P.Job.Table.List_.length c3, .int .i64 x.P.Next, .slice A4 x.A.length c4] ∧ x.P.Devices.length ≤ c1 ∧ Sl kDeviceR h ok A1 x.P.Devices ∧ x.P.Tables.length ≤ c2 ∧ Sl kTableR h ok A2 x.P.Tables ∧ x.P.Job.Table.List_.length ≤ c3 ∧ Sl kEntry h ok A3 x.P.Job.Table.List_ ∧ x.A.length ≤ c4 ∧ Sl khermitagelaw10ActR h ok A4 x.A := by
  obtain ⟨_, _, rfl, ⟨_, _, rfl, ⟨A1, c1, rfl, l1, h1⟩, ⟨_, _, rfl, ⟨A2, c2, rfl, l2, h2⟩, ⟨_, _, rfl, ⟨_, _, rfl, rfl, ⟨_, _, rfl, rfl, ⟨_, _, rfl, rfl, ⟨_, _, rfl, rfl, ⟨A3, c3, rfl, l3, h3⟩⟩⟩⟩⟩, rfl⟩⟩⟩, ⟨A4, c4, rfl, l4, h4⟩⟩ := k
  exact ⟨A1, c1, A2, c2, A3, c3, A4, c4, rfl, l1, h1, l2, h2, l3, h3, l4, h4⟩
theorem khermitagelaw10ScriptR_mk {h : Heap} {ok : Fp} (x : hermitagelaw10Script) {A1 : Option Addr} {c1 : Nat} (l1 : x.P.Devices.length ≤ c1) (h1 : Sl kDeviceR h ok A1 x.P.Devices) {A2 : Option Addr} {c2 : Nat} (l2 : x.P.Tables.length ≤ c2) (h2 : Sl kTableR h ok A2 x.P.Tables) {A3 : Option Addr} {c3 : Nat} (l3 : x.P.Job.Table.List_.length ≤ c3) (h3 : Sl kEntry h ok A3 x.P.Job.Table.List_) {A4 : Option Addr} {c4 : Nat} (l4 : x.A.length ≤ c4) (h4 : Sl khermitagelaw10ActR h ok A4 x.A) : khermitagelaw10ScriptR.rep h ok [.slice A1 x.P.Devices.length c1, .slice A2 x.P.Tables.length c2, .int .i64 x.P.Job.Dev, .int .i64 x.P.Job.At, .int .i64 x.P.Job.Table.Dev, .int .i64 x.P.Job.Table.Size, .slice A3 x.P.Job.Table.List_.length c3, .int .i64 x.P.Next, .slice A4 x.A.length c4] x := ⟨[_, _, .int .i64 x.P.Job.Dev, .int .i64 x.P.Job.At, .int .i64 x.P.Job.Table.Dev, .int .i64 x.P.Job.Table.Size, _, .int .i64 x.P.Next], [_], rfl, ⟨[_], [_, .int .i64 x.P.Job.Dev, .int .i64 x.P.Job.At, .int .i64 x.P.Job.Table.Dev, .int .i64 x.P.Job.Table.Size, _, .int .i64 x.P.Next], rfl, ⟨_, _, rfl, l1, h1⟩, ⟨[_], [.int .i64 x.P.Job.Dev, .int .i64 x.P.Job.At, .int .i64 x.P.Job.Table.Dev, .int .i64 x.P.Job.Table.Size, _, .int .i64 x.P.Next], rfl, ⟨_, _, rfl, l2, h2⟩, ⟨[.int .i64 x.P.Job.Dev, .int .i64 x.P.Job.At, .int .i64 x.P.Job.Table.Dev, .int .i64 x.P.Job.Table.Size, _], [.int .i64 x.P.Next], rfl, ⟨[.int .i64 x.P.Job.Dev], [.int .i64 x.P.Job.At, .int .i64 x.P.Job.Table.Dev, .int .i64 x.P.Job.Table.Size, _], rfl, rfl, ⟨[.int .i64 x.P.Job.At], [.int .i64 x.P.Job.Table.Dev, .int .i64 x.P.Job.Table.Size, _], rfl, rfl, ⟨[.int .i64 x.P.Job.Table.Dev], [.int .i64 x.P.Job.Table.Size, _], rfl, rfl, ⟨[.int .i64 x.P.Job.Table.Size], [_], rfl, rfl, ⟨_, _, rfl, l3, h3⟩⟩⟩⟩⟩, rfl⟩⟩⟩, ⟨_, _, rfl, l4, h4⟩⟩
theorem khermitagelaw10ScriptR_at {h : Heap} {ok : Fp} {A : Option Addr} {xs : List hermitagelaw10Script} (k : Sl khermitagelaw10ScriptR h ok A xs) {i : Int} (h0 : 0 ≤ i) (h1 : i < (xs.length : Int)) : ∃ ad A1 c1 A2 c2 A3 c3 A4 c4, A = some ad ∧ At h (ad.add (i.toNat * 9)) [.slice A1 (((rd xs i).P).Devices).length c1, .slice A2 (((rd xs i).P).Tables).length c2, .int .i64 ((((rd xs i).P).Job).Dev), .int .i64 ((((rd xs i).P).Job).At), .int .i64 (((((rd xs i).P).Job).Table).Dev), .int .i64 (((((rd xs i).P).Job).Table).Size), .slice A3 (((((rd xs i).P).Job).Table).List_).length c3, .int .i64 (((rd xs i).P).Next), .slice A4 ((rd xs i).A).length c4] ∧ (rd xs i).P.Devices.length ≤ c1 ∧ Sl kDeviceR h ok A1 (rd xs i).P.Devices ∧ (rd xs i).P.Tables.length ≤ c2 ∧ Sl kTableR h ok A2 (rd xs i).P.Tables ∧ (rd xs i).P.Job.Table.List_.length ≤ c3 ∧ Sl kEntry h ok A3 (rd xs i).P.Job.Table.List_ ∧ (rd xs i).A.length ≤ c4 ∧ Sl khermitagelaw10ActR h ok A4 (rd xs i).A := by
  obtain ⟨ad, cs, e, hr, hA⟩ := k.at_ h0 h1 default
  obtain ⟨A1, c1, A2, c2, A3, c3, A4, c4, rfl, l1, h1, l2, h2, l3, h3, l4, h4⟩ := khermitagelaw10ScriptR_open hr
  exact ⟨ad, A1, c1, A2, c2, A3, c3, A4, c4, e, hA, l1, h1, l2, h2, l3, h3, l4, h4⟩
theorem khermitagelaw10ScriptR_ato {h : Heap} {ok0 ok : Fp} {A : Option Addr} {c : Nat} {xs : List hermitagelaw10Script} (k : Ow khermitagelaw10ScriptR 64 h ok0 ok A c xs) {i : Int} (h0 : 0 ≤ i) (h1 : i < (xs.length : Int)) : ∃ ad A1 c1 A2 c2 A3 c3 A4 c4, A = some ad ∧ At h (ad.add (i.toNat * 9)) [.slice A1 (((rd xs i).P).Devices).length c1, .slice A2 (((rd xs i).P).Tables).length c2, .int .i64 ((((rd xs i).P).Job).Dev), .int .i64 ((((rd xs i).P).Job).At), .int .i64 (((((rd xs i).P).Job).Table).Dev), .int .i64 (((((rd xs i).P).Job).Table).Size), .slice A3 (((((rd xs i).P).Job).Table).List_).length c3, .int .i64 (((rd xs i).P).Next), .slice A4 ((rd xs i).A).length c4] ∧ (rd xs i).P.Devices.length ≤ c1 ∧ Sl kDeviceR h ok A1 (rd xs i).P.Devices ∧ (rd xs i).P.Tables.length ≤ c2 ∧ Sl kTableR h ok A2 (rd xs i).P.Tables ∧ (rd xs i).P.Job.Table.List_.length ≤ c3 ∧ Sl kEntry h ok A3 (rd xs i).P.Job.Table.List_ ∧ (rd xs i).A.length ≤ c4 ∧ Sl khermitagelaw10ActR h ok A4 (rd xs i).A := by
  obtain ⟨ad, cs, e, hr, hA⟩ := k.at_ h0 h1 default
  obtain ⟨A1, c1, A2, c2, A3, c3, A4, c4, rfl, l1, h1, l2, h2, l3, h3, l4, h4⟩ := khermitagelaw10ScriptR_open hr
  exact ⟨ad, A1, c1, A2, c2, A3, c3, A4, c4, e, hA, l1, h1, l2, h2, l3, h3, l4, h4⟩
def khermitagelaw10ScriptO : Kd hermitagelaw10Script := .iso (.pair kPoolO (.ow khermitagelaw10ActO 74)) (fun x : hermitagelaw10Script => (x.P, x.A))
theorem khermitagelaw10ScriptO_open {h : Heap} {ok : Fp} {cs : List Value} {x : hermitagelaw10Script} (k : khermitagelaw10ScriptO.rep h ok cs x) : ∃ (A1 : Option Addr) (c1 : Nat) (A2 : Option Addr) (c2 : Nat) (A3 : Option Addr) (c3 : Nat) (A4 : Option Addr) (c4 : Nat), cs = [.slice A1 x.P.Devices.length c1, .slice A2 x.P.Tables.length c2, .int .i64 x.P.Job.Dev, .int .i64 x.P.Job.At, .int .i64 x.P.Job.Table.Dev, .int .i64 x.P.Job.Table.Size, .slice A3 x.P.Job.Table.List_.length c3, .int .i64 x.P.Next, .slice A4 x.A.length c4] ∧ Ow kDeviceO 67 h ok ok A1 c1 x.P.Devices ∧ Ow kTableO 24 h ok ok A2 c2 x.P.Tables ∧ Ow kEntry 45 h ok ok A3 c3 x.P.Job.Table.List_ ∧ Ow khermitagelaw10ActO 74 h ok ok A4 c4 x.A := by
  obtain ⟨_, _, rfl, ⟨_, _, rfl, ⟨A1, c1, rfl, h1⟩, ⟨_, _, rfl, ⟨A2, c2, rfl, h2⟩, ⟨_, _, rfl, ⟨_, _, rfl, rfl, ⟨_, _, rfl, rfl, ⟨_, _, rfl, rfl, ⟨_, _, rfl, rfl, ⟨A3, c3, rfl, h3⟩⟩⟩⟩⟩, rfl⟩⟩⟩, ⟨A4, c4, rfl, h4⟩⟩ := k
  exact ⟨A1, c1, A2, c2, A3, c3, A4, c4, rfl, h1, h2, h3, h4⟩
theorem khermitagelaw10ScriptO_mk {h : Heap} {ok : Fp} (x : hermitagelaw10Script) {A1 : Option Addr} {c1 : Nat} (h1 : Ow kDeviceO 67 h ok ok A1 c1 x.P.Devices) {A2 : Option Addr} {c2 : Nat} (h2 : Ow kTableO 24 h ok ok A2 c2 x.P.Tables) {A3 : Option Addr} {c3 : Nat} (h3 : Ow kEntry 45 h ok ok A3 c3 x.P.Job.Table.List_) {A4 : Option Addr} {c4 : Nat} (h4 : Ow khermitagelaw10ActO 74 h ok ok A4 c4 x.A) : khermitagelaw10ScriptO.rep h ok [.slice A1 x.P.Devices.length c1, .slice A2 x.P.Tables.length c2, .int .i64 x.P.Job.Dev, .int .i64 x.P.Job.At, .int .i64 x.P.Job.Table.Dev, .int .i64 x.P.Job.Table.Size, .slice A3 x.P.Job.Table.List_.length c3, .int .i64 x.P.Next, .slice A4 x.A.length c4] x := ⟨[_, _, .int .i64 x.P.Job.Dev, .int .i64 x.P.Job.At, .int .i64 x.P.Job.Table.Dev, .int .i64 x.P.Job.Table.Size, _, .int .i64 x.P.Next], [_], rfl, ⟨[_], [_, .int .i64 x.P.Job.Dev, .int .i64 x.P.Job.At, .int .i64 x.P.Job.Table.Dev, .int .i64 x.P.Job.Table.Size, _, .int .i64 x.P.Next], rfl, ⟨_, _, rfl, h1⟩, ⟨[_], [.int .i64 x.P.Job.Dev, .int .i64 x.P.Job.At, .int .i64 x.P.Job.Table.Dev, .int .i64 x.P.Job.Table.Size, _, .int .i64 x.P.Next], rfl, ⟨_, _, rfl, h2⟩, ⟨[.int .i64 x.P.Job.Dev, .int .i64 x.P.Job.At, .int .i64 x.P.Job.Table.Dev, .int .i64 x.P.Job.Table.Size, _], [.int .i64 x.P.Next], rfl, ⟨[.int .i64 x.P.Job.Dev], [.int .i64 x.P.Job.At, .int .i64 x.P.Job.Table.Dev, .int .i64 x.P.Job.Table.Size, _], rfl, rfl, ⟨[.int .i64 x.P.Job.At], [.int .i64 x.P.Job.Table.Dev, .int .i64 x.P.Job.Table.Size, _], rfl, rfl, ⟨[.int .i64 x.P.Job.Table.Dev], [.int .i64 x.P.Job.Table.Size, _], rfl, rfl, ⟨[.int .i64 x.P.Job.Table.Size], [_], rfl, rfl, ⟨_, _, rfl, h3⟩⟩⟩⟩⟩, rfl⟩⟩⟩, ⟨_, _, rfl, h4⟩⟩
theorem khermitagelaw10ScriptO_at {h : Heap} {ok : Fp} {A : Option Addr} {xs : List hermitagelaw10Script} (k : Sl khermitagelaw10ScriptO h ok A xs) {i : Int} (h0 : 0 ≤ i) (h1 : i < (xs.length : Int)) : ∃ ad A1 c1 A2 c2 A3 c3 A4 c4, A = some ad ∧ At h (ad.add (i.toNat * 9)) [.slice A1 (((rd xs i).P).Devices).length c1, .slice A2 (((rd xs i).P).Tables).length c2, .int .i64 ((((rd xs i).P).Job).Dev), .int .i64 ((((rd xs i).P).Job).At), .int .i64 (((((rd xs i).P).Job).Table).Dev), .int .i64 (((((rd xs i).P).Job).Table).Size), .slice A3 (((((rd xs i).P).Job).Table).List_).length c3, .int .i64 (((rd xs i).P).Next), .slice A4 ((rd xs i).A).length c4] ∧ Ow kDeviceO 67 h ok ok A1 c1 (rd xs i).P.Devices ∧ Ow kTableO 24 h ok ok A2 c2 (rd xs i).P.Tables ∧ Ow kEntry 45 h ok ok A3 c3 (rd xs i).P.Job.Table.List_ ∧ Ow khermitagelaw10ActO 74 h ok ok A4 c4 (rd xs i).A := by
  obtain ⟨ad, cs, e, hr, hA⟩ := k.at_ h0 h1 default
  obtain ⟨A1, c1, A2, c2, A3, c3, A4, c4, rfl, h1, h2, h3, h4⟩ := khermitagelaw10ScriptO_open hr
  exact ⟨ad, A1, c1, A2, c2, A3, c3, A4, c4, e, hA, h1, h2, h3, h4⟩
theorem khermitagelaw10ScriptO_ato {h : Heap} {ok0 ok : Fp} {A : Option Addr} {c : Nat} {xs : List hermitagelaw10Script} (k : Ow khermitagelaw10ScriptO 64 h ok0 ok A c xs) {i : Int} (h0 : 0 ≤ i) (h1 : i < (xs.length : Int)) : ∃ ad A1 c1 A2 c2 A3 c3 A4 c4, A = some ad ∧ At h (ad.add (i.toNat * 9)) [.slice A1 (((rd xs i).P).Devices).length c1, .slice A2 (((rd xs i).P).Tables).length c2, .int .i64 ((((rd xs i).P).Job).Dev), .int .i64 ((((rd xs i).P).Job).At), .int .i64 (((((rd xs i).P).Job).Table).Dev), .int .i64 (((((rd xs i).P).Job).Table).Size), .slice A3 (((((rd xs i).P).Job).Table).List_).length c3, .int .i64 (((rd xs i).P).Next), .slice A4 ((rd xs i).A).length c4] ∧ Ow kDeviceO 67 h ok ok A1 c1 (rd xs i).P.Devices ∧ Ow kTableO 24 h ok ok A2 c2 (rd xs i).P.Tables ∧ Ow kEntry 45 h ok ok A3 c3 (rd xs i).P.Job.Table.List_ ∧ Ow khermitagelaw10ActO 74 h ok ok A4 c4 (rd xs i).A := by
  obtain ⟨ad, cs, e, hr, hA⟩ := k.at_ h0 h1 default
  obtain ⟨A1, c1, A2, c2, A3, c3, A4, c4, rfl, h1, h2, h3, h4⟩ := khermitagelaw10ScriptO_open hr
  exact ⟨ad, A1, c1, A2, c2, A3, c3, A4, c4, e, hA, h1, h2, h3, h4⟩
theorem kTable_ro {h : Heap} {ok : Fp} {cs : List Value} {x : Table} (k : kTableO.rep h ok cs x) : kTableR.rep h ok cs x := by
  obtain ⟨A0, c0, rfl, h0⟩ := kTableO_open k
  exact kTableR_mk x h0.len ((h0.sl.mono fun _ _ hh => by rcases hh with hh | hh <;> exact hh).to (fun k => k) rfl)
theorem kJob_ro {h : Heap} {ok : Fp} {cs : List Value} {x : Job} (k : kJobO.rep h ok cs x) : kJobR.rep h ok cs x := by
  obtain ⟨A0, c0, rfl, h0⟩ := kJobO_open k
  exact kJobR_mk x h0.len ((h0.sl.mono fun _ _ hh => by rcases hh with hh | hh <;> exact hh).to (fun k => k) rfl)
theorem kDevice_ro {h : Heap} {ok : Fp} {cs : List Value} {x : Device} (k : kDeviceO.rep h ok cs x) : kDeviceR.rep h ok cs x := by
  obtain ⟨A0, c0, A1, c1, rfl, h0, h1⟩ := kDeviceO_open k
  exact kDeviceR_mk x h0.len ((h0.sl.mono fun _ _ hh => by rcases hh with hh | hh <;> exact hh).to (fun k => k) rfl) h1.len ((h1.sl.mono fun _ _ hh => by rcases hh with hh | hh <;> exact hh).to (fun k => k) rfl)
theorem kPool_ro {h : Heap} {ok : Fp} {cs : List Value} {x : Pool} (k : kPoolO.rep h ok cs x) : kPoolR.rep h ok cs x := by
  obtain ⟨A0, c0, A1, c1, A2, c2, rfl, h0, h1, h2⟩ := kPoolO_open k
  exact kPoolR_mk x h0.len ((h0.sl.mono fun _ _ hh => by rcases hh with hh | hh <;> exact hh).to kDevice_ro rfl) h1.len ((h1.sl.mono fun _ _ hh => by rcases hh with hh | hh <;> exact hh).to kTable_ro rfl) h2.len ((h2.sl.mono fun _ _ hh => by rcases hh with hh | hh <;> exact hh).to (fun k => k) rfl)
theorem khermitagelaw10Act_ro {h : Heap} {ok : Fp} {cs : List Value} {x : hermitagelaw10Act} (k : khermitagelaw10ActO.rep h ok cs x) : khermitagelaw10ActR.rep h ok cs x := by
  obtain ⟨A0, c0, rfl, h0⟩ := khermitagelaw10ActO_open k
  exact khermitagelaw10ActR_mk x h0.len ((h0.sl.mono fun _ _ hh => by rcases hh with hh | hh <;> exact hh).to (fun k => k) rfl)
theorem khermitagelaw10Script_ro {h : Heap} {ok : Fp} {cs : List Value} {x : hermitagelaw10Script} (k : khermitagelaw10ScriptO.rep h ok cs x) : khermitagelaw10ScriptR.rep h ok cs x := by
  obtain ⟨A0, c0, A1, c1, A2, c2, A3, c3, rfl, h0, h1, h2, h3⟩ := khermitagelaw10ScriptO_open k
  exact khermitagelaw10ScriptR_mk x h0.len ((h0.sl.mono fun _ _ hh => by rcases hh with hh | hh <;> exact hh).to kDevice_ro rfl) h1.len ((h1.sl.mono fun _ _ hh => by rcases hh with hh | hh <;> exact hh).to kTable_ro rfl) h2.len ((h2.sl.mono fun _ _ hh => by rcases hh with hh | hh <;> exact hh).to (fun k => k) rfl) h3.len ((h3.sl.mono fun _ _ hh => by rcases hh with hh | hh <;> exact hh).to khermitagelaw10Act_ro rfl)
theorem eqEntry (x y : Entry) (w : World) : (Op.equalIn 10000 45 (.agg [.int .i64 x.From, .int .i64 x.Len, .int .i64 x.Dev, .int .i64 x.To, .int .i64 x.Stale].toArray) (.agg [.int .i64 y.From, .int .i64 y.Len, .int .i64 y.Dev, .int .i64 y.To, .int .i64 y.Stale].toArray)).run Try.prog w = .ok (decide (x = y)) w := by
  have e : decide (x = y) = ((x.From == y.From) && ((x.Len == y.Len) && ((x.Dev == y.Dev) && ((x.To == y.To) && ((x.Stale == y.Stale) && true))))) := by rw [Bool.eq_iff_iff]; cases x; cases y; simp
  rw [e]
  exact run_equalFlat tabOk Try.underlying45 (by kernel_rfl) [.int .i64 x.From, .int .i64 x.Len, .int .i64 x.Dev, .int .i64 x.To, .int .i64 x.Stale] [.int .i64 y.From, .int .i64 y.Len, .int .i64 y.Dev, .int .i64 y.To, .int .i64 y.Stale] rfl w
theorem eqgEntry : Try.prog.eqGuardType Try.prog.depth 45 = false := by kernel_rfl
theorem eqSeg (x y : Seg) (w : World) : (Op.equalIn 10000 132 (.agg [.int .i64 x.At, .int .i64 x.Len].toArray) (.agg [.int .i64 y.At, .int .i64 y.Len].toArray)).run Try.prog w = .ok (decide (x = y)) w := by
  have e : decide (x = y) = ((x.At == y.At) && ((x.Len == y.Len) && true)) := by rw [Bool.eq_iff_iff]; cases x; cases y; simp
  rw [e]
  exact run_equalFlat tabOk Try.underlying132 (by kernel_rfl) [.int .i64 x.At, .int .i64 x.Len] [.int .i64 y.At, .int .i64 y.Len] rfl w
theorem eqgSeg : Try.prog.eqGuardType Try.prog.depth 132 = false := by kernel_rfl
theorem ent11 : Enters Try.prog 11 := Enters.mk Try.func11 (by kernel_rfl) (by kernel_rfl)
theorem ent19 : Enters Try.prog 19 := Enters.mk Try.func19 (by kernel_rfl) (by kernel_rfl)
theorem ent21 : Enters Try.prog 21 := Enters.mk Try.func21 (by kernel_rfl) (by kernel_rfl)
theorem ent24 : Enters Try.prog 24 := Enters.mk Try.func24 (by kernel_rfl) (by kernel_rfl)
theorem ent25 : Enters Try.prog 25 := Enters.mk Try.func25 (by kernel_rfl) (by kernel_rfl)
theorem ent26 : Enters Try.prog 26 := Enters.mk Try.func26 (by kernel_rfl) (by kernel_rfl)
theorem ent27 : Enters Try.prog 27 := Enters.mk Try.func27 (by kernel_rfl) (by kernel_rfl)
theorem ent28 : Enters Try.prog 28 := Enters.mk Try.func28 (by kernel_rfl) (by kernel_rfl)
theorem ent29 : Enters Try.prog 29 := Enters.mk Try.func29 (by kernel_rfl) (by kernel_rfl)
theorem ent30 : Enters Try.prog 30 := Enters.mk Try.func30 (by kernel_rfl) (by kernel_rfl)
theorem ent31 : Enters Try.prog 31 := Enters.mk Try.func31 (by kernel_rfl) (by kernel_rfl)
theorem ent32 : Enters Try.prog 32 := Enters.mk Try.func32 (by kernel_rfl) (by kernel_rfl)
theorem ent33 : Enters Try.prog 33 := Enters.mk Try.func33 (by kernel_rfl) (by kernel_rfl)
theorem ent34 : Enters Try.prog 34 := Enters.mk Try.func34 (by kernel_rfl) (by kernel_rfl)
theorem ent35 : Enters Try.prog 35 := Enters.mk Try.func35 (by kernel_rfl) (by kernel_rfl)
theorem ent36 : Enters Try.prog 36 := Enters.mk Try.func36 (by kernel_rfl) (by kernel_rfl)
theorem ent37 : Enters Try.prog 37 := Enters.mk Try.func37 (by kernel_rfl) (by kernel_rfl)
theorem ent38 : Enters Try.prog 38 := Enters.mk Try.func38 (by kernel_rfl) (by kernel_rfl)
theorem ent39 : Enters Try.prog 39 := Enters.mk Try.func39 (by kernel_rfl) (by kernel_rfl)
theorem ent40 : Enters Try.prog 40 := Enters.mk Try.func40 (by kernel_rfl) (by kernel_rfl)
theorem ent41 : Enters Try.prog 41 := Enters.mk Try.func41 (by kernel_rfl) (by kernel_rfl)
theorem ent42 : Enters Try.prog 42 := Enters.mk Try.func42 (by kernel_rfl) (by kernel_rfl)
theorem ent49 : Enters Try.prog 49 := Enters.mk Try.func49 (by kernel_rfl) (by kernel_rfl)
theorem ent50 : Enters Try.prog 50 := Enters.mk Try.func50 (by kernel_rfl) (by kernel_rfl)
theorem ent51 : Enters Try.prog 51 := Enters.mk Try.func51 (by kernel_rfl) (by kernel_rfl)
theorem ent52 : Enters Try.prog 52 := Enters.mk Try.func52 (by kernel_rfl) (by kernel_rfl)
theorem ent58 : Enters Try.prog 58 := Enters.mk Try.func58 (by kernel_rfl) (by kernel_rfl)
theorem ent60 : Enters Try.prog 60 := Enters.mk Try.func60 (by kernel_rfl) (by kernel_rfl)
theorem ent63 : Enters Try.prog 63 := Enters.mk Try.func63 (by kernel_rfl) (by kernel_rfl)
theorem ent64 : Enters Try.prog 64 := Enters.mk Try.func64 (by kernel_rfl) (by kernel_rfl)
theorem ent65 : Enters Try.prog 65 := Enters.mk Try.func65 (by kernel_rfl) (by kernel_rfl)
theorem ent66 : Enters Try.prog 66 := Enters.mk Try.func66 (by kernel_rfl) (by kernel_rfl)
theorem ent67 : Enters Try.prog 67 := Enters.mk Try.func67 (by kernel_rfl) (by kernel_rfl)
theorem ent68 : Enters Try.prog 68 := Enters.mk Try.func68 (by kernel_rfl) (by kernel_rfl)
theorem ent69 : Enters Try.prog 69 := Enters.mk Try.func69 (by kernel_rfl) (by kernel_rfl)
theorem ent70 : Enters Try.prog 70 := Enters.mk Try.func70 (by kernel_rfl) (by kernel_rfl)
theorem ent71 : Enters Try.prog 71 := Enters.mk Try.func71 (by kernel_rfl) (by kernel_rfl)
theorem ent72 : Enters Try.prog 72 := Enters.mk Try.func72 (by kernel_rfl) (by kernel_rfl)
theorem ent73 : Enters Try.prog 73 := Enters.mk Try.func73 (by kernel_rfl) (by kernel_rfl)
theorem ent74 : Enters Try.prog 74 := Enters.mk Try.func74 (by kernel_rfl) (by kernel_rfl)
theorem ent75 : Enters Try.prog 75 := Enters.mk Try.func75 (by kernel_rfl) (by kernel_rfl)
theorem ent76 : Enters Try.prog 76 := Enters.mk Try.func76 (by kernel_rfl) (by kernel_rfl)
theorem ent77 : Enters Try.prog 77 := Enters.mk Try.func77 (by kernel_rfl) (by kernel_rfl)
theorem ent78 : Enters Try.prog 78 := Enters.mk Try.func78 (by kernel_rfl) (by kernel_rfl)
theorem ent79 : Enters Try.prog 79 := Enters.mk Try.func79 (by kernel_rfl) (by kernel_rfl)
theorem ent80 : Enters Try.prog 80 := Enters.mk Try.func80 (by kernel_rfl) (by kernel_rfl)
theorem ent81 : Enters Try.prog 81 := Enters.mk Try.func81 (by kernel_rfl) (by kernel_rfl)
theorem ent82 : Enters Try.prog 82 := Enters.mk Try.func82 (by kernel_rfl) (by kernel_rfl)
theorem ent85 : Enters Try.prog 85 := Enters.mk Try.func85 (by kernel_rfl) (by kernel_rfl)
theorem ent87 : Enters Try.prog 87 := Enters.mk Try.func87 (by kernel_rfl) (by kernel_rfl)
theorem ent88 : Enters Try.prog 88 := Enters.mk Try.func88 (by kernel_rfl) (by kernel_rfl)
theorem ent89 : Enters Try.prog 89 := Enters.mk Try.func89 (by kernel_rfl) (by kernel_rfl)
theorem ent90 : Enters Try.prog 90 := Enters.mk Try.func90 (by kernel_rfl) (by kernel_rfl)
theorem ent91 : Enters Try.prog 91 := Enters.mk Try.func91 (by kernel_rfl) (by kernel_rfl)
theorem ent92 : Enters Try.prog 92 := Enters.mk Try.func92 (by kernel_rfl) (by kernel_rfl)
theorem ent93 : Enters Try.prog 93 := Enters.mk Try.func93 (by kernel_rfl) (by kernel_rfl)
theorem ent94 : Enters Try.prog 94 := Enters.mk Try.func94 (by kernel_rfl) (by kernel_rfl)
theorem ent95 : Enters Try.prog 95 := Enters.mk Try.func95 (by kernel_rfl) (by kernel_rfl)
theorem ent96 : Enters Try.prog 96 := Enters.mk Try.func96 (by kernel_rfl) (by kernel_rfl)
theorem ent97 : Enters Try.prog 97 := Enters.mk Try.func97 (by kernel_rfl) (by kernel_rfl)
theorem ent98 : Enters Try.prog 98 := Enters.mk Try.func98 (by kernel_rfl) (by kernel_rfl)
theorem ent99 : Enters Try.prog 99 := Enters.mk Try.func99 (by kernel_rfl) (by kernel_rfl)
theorem ent100 : Enters Try.prog 100 := Enters.mk Try.func100 (by kernel_rfl) (by kernel_rfl)
theorem ent101 : Enters Try.prog 101 := Enters.mk Try.func101 (by kernel_rfl) (by kernel_rfl)
theorem ent102 : Enters Try.prog 102 := Enters.mk Try.func102 (by kernel_rfl) (by kernel_rfl)
theorem ent103 : Enters Try.prog 103 := Enters.mk Try.func103 (by kernel_rfl) (by kernel_rfl)
theorem ent105 : Enters Try.prog 105 := Enters.mk Try.func105 (by kernel_rfl) (by kernel_rfl)
theorem ent106 : Enters Try.prog 106 := Enters.mk Try.func106 (by kernel_rfl) (by kernel_rfl)
theorem ent107 : Enters Try.prog 107 := Enters.mk Try.func107 (by kernel_rfl) (by kernel_rfl)
theorem ent108 : Enters Try.prog 108 := Enters.mk Try.func108 (by kernel_rfl) (by kernel_rfl)
theorem ent109 : Enters Try.prog 109 := Enters.mk Try.func109 (by kernel_rfl) (by kernel_rfl)
theorem ent110 : Enters Try.prog 110 := Enters.mk Try.func110 (by kernel_rfl) (by kernel_rfl)
theorem ent111 : Enters Try.prog 111 := Enters.mk Try.func111 (by kernel_rfl) (by kernel_rfl)
theorem ent112 : Enters Try.prog 112 := Enters.mk Try.func112 (by kernel_rfl) (by kernel_rfl)
theorem ent113 : Enters Try.prog 113 := Enters.mk Try.func113 (by kernel_rfl) (by kernel_rfl)
theorem ent114 : Enters Try.prog 114 := Enters.mk Try.func114 (by kernel_rfl) (by kernel_rfl)
theorem ent115 : Enters Try.prog 115 := Enters.mk Try.func115 (by kernel_rfl) (by kernel_rfl)
theorem ent116 : Enters Try.prog 116 := Enters.mk Try.func116 (by kernel_rfl) (by kernel_rfl)
theorem ent117 : Enters Try.prog 117 := Enters.mk Try.func117 (by kernel_rfl) (by kernel_rfl)
theorem ent118 : Enters Try.prog 118 := Enters.mk Try.func118 (by kernel_rfl) (by kernel_rfl)
theorem ent119 : Enters Try.prog 119 := Enters.mk Try.func119 (by kernel_rfl) (by kernel_rfl)
theorem ent120 : Enters Try.prog 120 := Enters.mk Try.func120 (by kernel_rfl) (by kernel_rfl)
theorem ent121 : Enters Try.prog 121 := Enters.mk Try.func121 (by kernel_rfl) (by kernel_rfl)
theorem ent122 : Enters Try.prog 122 := Enters.mk Try.func122 (by kernel_rfl) (by kernel_rfl)
theorem ent123 : Enters Try.prog 123 := Enters.mk Try.func123 (by kernel_rfl) (by kernel_rfl)
theorem ent124 : Enters Try.prog 124 := Enters.mk Try.func124 (by kernel_rfl) (by kernel_rfl)
theorem ent125 : Enters Try.prog 125 := Enters.mk Try.func125 (by kernel_rfl) (by kernel_rfl)
theorem ent126 : Enters Try.prog 126 := Enters.mk Try.func126 (by kernel_rfl) (by kernel_rfl)
end Go.Proofs.Ytnaajldlloglkaa.W
