/- The table of types, the kinds of elements; printed by a program of the claim. -/
import Derived.Test.YtnaajldlloglkaaDoorProg
import Derived.Test.YtnaajldlloglkaaDoorRoomFn
set_option linter.unusedVariables false
set_option linter.unusedSimpArgs false
namespace Go.Proofs.YtnaajldlloglkaaDoor.W
open Go.H Go.Proofs
def tab : Tab := [(3, ⟨.int .i64, 1, 8, [.int .i64 0]⟩),
  (4, ⟨.bool, 1, 1, [.bool false]⟩),
  (5, ⟨.int .u8, 1, 1, [.int .u8 0]⟩),
  (23, ⟨.slice 3, 1, 24, [.slice none 0 0]⟩),
  (28, ⟨.slice 93, 1, 24, [.slice none 0 0]⟩),
  (29, ⟨.int .i64, 1, 8, [.int .i64 0]⟩),
  (54, ⟨.arr 64 4, 64, 64, (arrB 64 fun _ => false)⟩),
  (56, ⟨.slice 84, 1, 24, [.slice none 0 0]⟩),
  (57, ⟨.slice 109, 1, 24, [.slice none 0 0]⟩),
  (59, ⟨.struct [(0, 1), (1, 1)], 2, 48, [.slice none 0 0, .slice none 0 0]⟩),
  (64, ⟨.slice 70, 1, 24, [.slice none 0 0]⟩),
  (70, ⟨.struct [(0, 1), (1, 1)], 2, 16, [.int .i64 0, .int .i64 0]⟩),
  (84, ⟨.struct [(0, 1), (1, 1), (2, 1), (3, 1)], 4, 64, [.int .i64 0, .int .i64 0, .slice none 0 0, .slice none 0 0]⟩),
  (93, ⟨.struct [(0, 1), (1, 1)], 2, 16, [.int .i64 0, .int .i64 0]⟩),
  (95, ⟨.int .u64, 1, 8, [.int .u64 0]⟩),
  (96, ⟨.int .u64, 1, 8, [.int .u64 0]⟩),
  (109, ⟨.struct [(0, 1), (1, 1), (2, 1), (3, 1)], 4, 48, [.int .i64 0, .int .i64 0, .int .i64 0, .slice none 0 0]⟩),
  (119, ⟨.int .u64, 1, 8, [.int .u64 0]⟩),
  (167, ⟨.arr 64 5, 64, 64, (arrI .u8 64 fun _ => 0)⟩)]
theorem tabOk : TabOk Tryd.prog tab :=
  ⟨.mk' _ _ _ _ (by kernel_rfl) Tryd.underlying3 rfl rfl (fun h => by first | rfl | cases h) (by decide) rfl,
   .mk' _ _ _ _ (by kernel_rfl) Tryd.underlying4 rfl rfl (fun h => by first | rfl | cases h) (by decide) rfl,
   .mk' _ _ _ _ (by kernel_rfl) Tryd.underlying5 rfl rfl (fun h => by first | rfl | cases h) (by decide) rfl,
   .mk' _ _ _ _ (by kernel_rfl) Tryd.underlying23 rfl rfl (fun h => by first | rfl | cases h) (by decide) rfl,
   .mk' _ _ _ _ (by kernel_rfl) Tryd.underlying28 rfl rfl (fun h => by first | rfl | cases h) (by decide) rfl,
   .mk' _ _ _ _ (by kernel_rfl) Tryd.underlying29 rfl rfl (fun h => by first | rfl | cases h) (by decide) rfl,
   .mk' _ _ _ _ (by kernel_rfl) Tryd.underlying54 rfl rfl (fun h => by first | rfl | cases h) (by decide) rfl,
   .mk' _ _ _ _ (by kernel_rfl) Tryd.underlying56 rfl rfl (fun h => by first | rfl | cases h) (by decide) rfl,
   .mk' _ _ _ _ (by kernel_rfl) Tryd.underlying57 rfl rfl (fun h => by first | rfl | cases h) (by decide) rfl,
   .mk' _ _ _ _ (by kernel_rfl) Tryd.underlying59 ⟨_, rfl, by kernel_rfl, rfl⟩ rfl (fun h => by first | rfl | cases h) (by decide) rfl,
   .mk' _ _ _ _ (by kernel_rfl) Tryd.underlying64 rfl rfl (fun h => by first | rfl | cases h) (by decide) rfl,
   .mk' _ _ _ _ (by kernel_rfl) Tryd.underlying70 ⟨_, rfl, by kernel_rfl, rfl⟩ rfl (fun h => by first | rfl | cases h) (by decide) rfl,
   .mk' _ _ _ _ (by kernel_rfl) Tryd.underlying84 ⟨_, rfl, by kernel_rfl, rfl⟩ rfl (fun h => by first | rfl | cases h) (by decide) rfl,
   .mk' _ _ _ _ (by kernel_rfl) Tryd.underlying93 ⟨_, rfl, by kernel_rfl, rfl⟩ rfl (fun h => by first | rfl | cases h) (by decide) rfl,
   .mk' _ _ _ _ (by kernel_rfl) Tryd.underlying95 rfl rfl (fun h => by first | rfl | cases h) (by decide) rfl,
   .mk' _ _ _ _ (by kernel_rfl) Tryd.underlying96 rfl rfl (fun h => by first | rfl | cases h) (by decide) rfl,
   .mk' _ _ _ _ (by kernel_rfl) Tryd.underlying109 ⟨_, rfl, by kernel_rfl, rfl⟩ rfl (fun h => by first | rfl | cases h) (by decide) rfl,
   .mk' _ _ _ _ (by kernel_rfl) Tryd.underlying119 rfl rfl (fun h => by first | rfl | cases h) (by decide) rfl,
   .mk' _ _ _ _ (by kernel_rfl) Tryd.underlying167 rfl rfl (fun h => by first | rfl | cases h) (by decide) rfl, trivial⟩
theorem mixed : Tryd.prog.follows .mixedOrders = true := by kernel_rfl
def kSeg : Kd Seg := .iso (.pair (.int .i64) (.int .i64)) (fun x : Seg => (x.At, x.Len))
theorem kSeg_open {h : Heap} {ok : Fp} {cs : List Value} {x : Seg} (k : kSeg.rep h ok cs x) : cs = [.int .i64 x.At, .int .i64 x.Len] := by
  obtain ⟨_, _, rfl, rfl, rfl⟩ := k
  exact rfl
theorem kSeg_mk {h : Heap} {ok : Fp} (x : Seg) : kSeg.rep h ok [.int .i64 x.At, .int .i64 x.Len] x := ⟨[.int .i64 x.At], [.int .i64 x.Len], rfl, rfl, rfl⟩
theorem kSeg_at {h : Heap} {ok : Fp} {A : Option Addr} {xs : List Seg} (k : Sl kSeg h ok A xs) {i : Int} (h0 : 0 ≤ i) (h1 : i < (xs.length : Int)) : ∃ ad, A = some ad ∧ At h (ad.add (i.toNat * 2)) [.int .i64 ((rd xs i).At), .int .i64 ((rd xs i).Len)] := by
  obtain ⟨ad, cs, e, hr, hA⟩ := k.at_ h0 h1 default
  obtain rfl := kSeg_open hr
  exact ⟨ad, e, hA⟩
def kDeviceR : Kd Device := .iso (.pair (.int .i64) (.pair (.int .i64) (.pair (.sl kSeg) (.sl kSeg)))) (fun x : Device => (x.ID, x.Size, x.Free, x.Late))
theorem kDeviceR_open {h : Heap} {ok : Fp} {cs : List Value} {x : Device} (k : kDeviceR.rep h ok cs x) : ∃ (A1 : Option Addr) (c1 : Nat) (A2 : Option Addr) (c2 : Nat), cs = [.int .i64 x.ID, .int .i64 x.Size, .slice A1 x.Free.length c1, .slice A2 x.Late.length c2] ∧ x.Free.length ≤ c1 ∧ Sl kSeg h ok A1 x.Free ∧ x.Late.length ≤ c2 ∧ Sl kSeg h ok A2 x.Late := by
  obtain ⟨_, _, rfl, rfl, ⟨_, _, rfl, rfl, ⟨_, _, rfl, ⟨A1, c1, rfl, l1, h1⟩, ⟨A2, c2, rfl, l2, h2⟩⟩⟩⟩ := k
  exact ⟨A1, c1, A2, c2, rfl, l1, h1, l2, h2⟩
theorem kDeviceR_mk {h : Heap} {ok : Fp} (x : Device) {A1 : Option Addr} {c1 : Nat} (l1 : x.Free.length ≤ c1) (h1 : Sl kSeg h ok A1 x.Free) {A2 : Option Addr} {c2 : Nat} (l2 : x.Late.length ≤ c2) (h2 : Sl kSeg h ok A2 x.Late) : kDeviceR.rep h ok [.int .i64 x.ID, .int .i64 x.Size, .slice A1 x.Free.length c1, .slice A2 x.Late.length c2] x := ⟨[.int .i64 x.ID], [.int .i64 x.Size, _, _], rfl, rfl, ⟨[.int .i64 x.Size], [_, _], rfl, rfl, ⟨[_], [_], rfl, ⟨_, _, rfl, l1, h1⟩, ⟨_, _, rfl, l2, h2⟩⟩⟩⟩
theorem kDeviceR_at {h : Heap} {ok : Fp} {A : Option Addr} {xs : List Device} (k : Sl kDeviceR h ok A xs) {i : Int} (h0 : 0 ≤ i) (h1 : i < (xs.length : Int)) : ∃ ad A1 c1 A2 c2, A = some ad ∧ At h (ad.add (i.toNat * 4)) [.int .i64 ((rd xs i).ID), .int .i64 ((rd xs i).Size), .slice A1 ((rd xs i).Free).length c1, .slice A2 ((rd xs i).Late).length c2] ∧ (rd xs i).Free.length ≤ c1 ∧ Sl kSeg h ok A1 (rd xs i).Free ∧ (rd xs i).Late.length ≤ c2 ∧ Sl kSeg h ok A2 (rd xs i).Late := by
  obtain ⟨ad, cs, e, hr, hA⟩ := k.at_ h0 h1 default
  obtain ⟨A1, c1, A2, c2, rfl, l1, h1, l2, h2⟩ := kDeviceR_open hr
  exact ⟨ad, A1, c1, A2, c2, e, hA, l1, h1, l2, h2⟩
theorem kDeviceR_ato {h : Heap} {ok0 ok : Fp} {A : Option Addr} {c : Nat} {xs : List Device} (k : Ow kDeviceR 84 h ok0 ok A c xs) {i : Int} (h0 : 0 ≤ i) (h1 : i < (xs.length : Int)) : ∃ ad A1 c1 A2 c2, A = some ad ∧ At h (ad.add (i.toNat * 4)) [.int .i64 ((rd xs i).ID), .int .i64 ((rd xs i).Size), .slice A1 ((rd xs i).Free).length c1, .slice A2 ((rd xs i).Late).length c2] ∧ (rd xs i).Free.length ≤ c1 ∧ Sl kSeg h ok A1 (rd xs i).Free ∧ (rd xs i).Late.length ≤ c2 ∧ Sl kSeg h ok A2 (rd xs i).Late := by
  obtain ⟨ad, cs, e, hr, hA⟩ := k.at_ h0 h1 default
  obtain ⟨A1, c1, A2, c2, rfl, l1, h1, l2, h2⟩ := kDeviceR_open hr
  exact ⟨ad, A1, c1, A2, c2, e, hA, l1, h1, l2, h2⟩
def kDeviceO : Kd Device := .iso (.pair (.int .i64) (.pair (.int .i64) (.pair (.ow kSeg 93) (.ow kSeg 93)))) (fun x : Device => (x.ID, x.Size, x.Free, x.Late))
theorem kDeviceO_open {h : Heap} {ok : Fp} {cs : List Value} {x : Device} (k : kDeviceO.rep h ok cs x) : ∃ (A1 : Option Addr) (c1 : Nat) (A2 : Option Addr) (c2 : Nat), cs = [.int .i64 x.ID, .int .i64 x.Size, .slice A1 x.Free.length c1, .slice A2 x.Late.length c2] ∧ Ow kSeg 93 h ok ok A1 c1 x.Free ∧ Ow kSeg 93 h ok ok A2 c2 x.Late := by
  obtain ⟨_, _, rfl, rfl, ⟨_, _, rfl, rfl, ⟨_, _, rfl, ⟨A1, c1, rfl, h1⟩, ⟨A2, c2, rfl, h2⟩⟩⟩⟩ := k
  exact ⟨A1, c1, A2, c2, rfl, h1, h2⟩
theorem kDeviceO_mk {h : Heap} {ok : Fp} (x : Device) {A1 : Option Addr} {c1 : Nat} (h1 : Ow kSeg 93 h ok ok A1 c1 x.Free) {A2 : Option Addr} {c2 : Nat} (h2 : Ow kSeg 93 h ok ok A2 c2 x.Late) : kDeviceO.rep h ok [.int .i64 x.ID, .int .i64 x.Size, .slice A1 x.Free.length c1, .slice A2 x.Late.length c2] x := ⟨[.int .i64 x.ID], [.int .i64 x.Size, _, _], rfl, rfl, ⟨[.int .i64 x.Size], [_, _], rfl, rfl, ⟨[_], [_], rfl, ⟨_, _, rfl, h1⟩, ⟨_, _, rfl, h2⟩⟩⟩⟩
theorem kDeviceO_at {h : Heap} {ok : Fp} {A : Option Addr} {xs : List Device} (k : Sl kDeviceO h ok A xs) {i : Int} (h0 : 0 ≤ i) (h1 : i < (xs.length : Int)) : ∃ ad A1 c1 A2 c2, A = some ad ∧ At h (ad.add (i.toNat * 4)) [.int .i64 ((rd xs i).ID), .int .i64 ((rd xs i).Size), .slice A1 ((rd xs i).Free).length c1, .slice A2 ((rd xs i).Late).length c2] ∧ Ow kSeg 93 h ok ok A1 c1 (rd xs i).Free ∧ Ow kSeg 93 h ok ok A2 c2 (rd xs i).Late := by
  obtain ⟨ad, cs, e, hr, hA⟩ := k.at_ h0 h1 default
  obtain ⟨A1, c1, A2, c2, rfl, h1, h2⟩ := kDeviceO_open hr
  exact ⟨ad, A1, c1, A2, c2, e, hA, h1, h2⟩
theorem kDeviceO_ato {h : Heap} {ok0 ok : Fp} {A : Option Addr} {c : Nat} {xs : List Device} (k : Ow kDeviceO 84 h ok0 ok A c xs) {i : Int} (h0 : 0 ≤ i) (h1 : i < (xs.length : Int)) : ∃ ad A1 c1 A2 c2, A = some ad ∧ At h (ad.add (i.toNat * 4)) [.int .i64 ((rd xs i).ID), .int .i64 ((rd xs i).Size), .slice A1 ((rd xs i).Free).length c1, .slice A2 ((rd xs i).Late).length c2] ∧ Ow kSeg 93 h ok ok A1 c1 (rd xs i).Free ∧ Ow kSeg 93 h ok ok A2 c2 (rd xs i).Late := by
  obtain ⟨ad, cs, e, hr, hA⟩ := k.at_ h0 h1 default
  obtain ⟨A1, c1, A2, c2, rfl, h1, h2⟩ := kDeviceO_open hr
  exact ⟨ad, A1, c1, A2, c2, e, hA, h1, h2⟩
def kDeviceH : Kd Device := .iso (.pair (.int .i64) (.pair (.int .i64) (.pair (.ow (Kd.any Seg 1) 93) (.ow (Kd.any Seg 1) 93)))) (fun x : Device => (x.ID, x.Size, x.Free, x.Late))
theorem kDeviceH_open {h : Heap} {ok : Fp} {cs : List Value} {x : Device} (k : kDeviceH.rep h ok cs x) : ∃ (A1 : Option Addr) (c1 : Nat) (A2 : Option Addr) (c2 : Nat), cs = [.int .i64 x.ID, .int .i64 x.Size, .slice A1 x.Free.length c1, .slice A2 x.Late.length c2] ∧ Ow (Kd.any Seg 1) 93 h ok ok A1 c1 x.Free ∧ Ow (Kd.any Seg 1) 93 h ok ok A2 c2 x.Late := by
  obtain ⟨_, _, rfl, rfl, ⟨_, _, rfl, rfl, ⟨_, _, rfl, ⟨A1, c1, rfl, h1⟩, ⟨A2, c2, rfl, h2⟩⟩⟩⟩ := k
  exact ⟨A1, c1, A2, c2, rfl, h1, h2⟩
theorem kDeviceH_mk {h : Heap} {ok : Fp} (x : Device) {A1 : Option Addr} {c1 : Nat} (h1 : Ow (Kd.any Seg 1) 93 h ok ok A1 c1 x.Free) {A2 : Option Addr} {c2 : Nat} (h2 : Ow (Kd.any Seg 1) 93 h ok ok A2 c2 x.Late) : kDeviceH.rep h ok [.int .i64 x.ID, .int .i64 x.Size, .slice A1 x.Free.length c1, .slice A2 x.Late.length c2] x := ⟨[.int .i64 x.ID], [.int .i64 x.Size, _, _], rfl, rfl, ⟨[.int .i64 x.Size], [_, _], rfl, rfl, ⟨[_], [_], rfl, ⟨_, _, rfl, h1⟩, ⟨_, _, rfl, h2⟩⟩⟩⟩
theorem kDeviceH_at {h : Heap} {ok : Fp} {A : Option Addr} {xs : List Device} (k : Sl kDeviceH h ok A xs) {i : Int} (h0 : 0 ≤ i) (h1 : i < (xs.length : Int)) : ∃ ad A1 c1 A2 c2, A = some ad ∧ At h (ad.add (i.toNat * 4)) [.int .i64 ((rd xs i).ID), .int .i64 ((rd xs i).Size), .slice A1 ((rd xs i).Free).length c1, .slice A2 ((rd xs i).Late).length c2] ∧ Ow (Kd.any Seg 1) 93 h ok ok A1 c1 (rd xs i).Free ∧ Ow (Kd.any Seg 1) 93 h ok ok A2 c2 (rd xs i).Late := by
  obtain ⟨ad, cs, e, hr, hA⟩ := k.at_ h0 h1 default
  obtain ⟨A1, c1, A2, c2, rfl, h1, h2⟩ := kDeviceH_open hr
  exact ⟨ad, A1, c1, A2, c2, e, hA, h1, h2⟩
theorem kDeviceH_ato {h : Heap} {ok0 ok : Fp} {A : Option Addr} {c : Nat} {xs : List Device} (k : Ow kDeviceH 84 h ok0 ok A c xs) {i : Int} (h0 : 0 ≤ i) (h1 : i < (xs.length : Int)) : ∃ ad A1 c1 A2 c2, A = some ad ∧ At h (ad.add (i.toNat * 4)) [.int .i64 ((rd xs i).ID), .int .i64 ((rd xs i).Size), .slice A1 ((rd xs i).Free).length c1, .slice A2 ((rd xs i).Late).length c2] ∧ Ow (Kd.any Seg 1) 93 h ok ok A1 c1 (rd xs i).Free ∧ Ow (Kd.any Seg 1) 93 h ok ok A2 c2 (rd xs i).Late := by
  obtain ⟨ad, cs, e, hr, hA⟩ := k.at_ h0 h1 default
  obtain ⟨A1, c1, A2, c2, rfl, h1, h2⟩ := kDeviceH_open hr
  exact ⟨ad, A1, c1, A2, c2, e, hA, h1, h2⟩
def kPtr : Kd Ptr := .iso (.pair (.int .i64) (.int .i64)) (fun x : Ptr => (x.Dev, x.At))
theorem kPtr_open {h : Heap} {ok : Fp} {cs : List Value} {x : Ptr} (k : kPtr.rep h ok cs x) : cs = [.int .i64 x.Dev, .int .i64 x.At] := by
  obtain ⟨_, _, rfl, rfl, rfl⟩ := k
  exact rfl
theorem kPtr_mk {h : Heap} {ok : Fp} (x : Ptr) : kPtr.rep h ok [.int .i64 x.Dev, .int .i64 x.At] x := ⟨[.int .i64 x.Dev], [.int .i64 x.At], rfl, rfl, rfl⟩
theorem kPtr_at {h : Heap} {ok : Fp} {A : Option Addr} {xs : List Ptr} (k : Sl kPtr h ok A xs) {i : Int} (h0 : 0 ≤ i) (h1 : i < (xs.length : Int)) : ∃ ad, A = some ad ∧ At h (ad.add (i.toNat * 2)) [.int .i64 ((rd xs i).Dev), .int .i64 ((rd xs i).At)] := by
  obtain ⟨ad, cs, e, hr, hA⟩ := k.at_ h0 h1 default
  obtain rfl := kPtr_open hr
  exact ⟨ad, e, hA⟩
def kActR : Kd Act := .iso (.pair (.int .i64) (.pair (.int .i64) (.pair (.int .i64) (.sl kPtr)))) (fun x : Act => (x.Do, x.N, x.Not, x.P))
theorem kActR_open {h : Heap} {ok : Fp} {cs : List Value} {x : Act} (k : kActR.rep h ok cs x) : ∃ (A1 : Option Addr) (c1 : Nat), cs = [.int .i64 x.Do, .int .i64 x.N, .int .i64 x.Not, .slice A1 x.P.length c1] ∧ x.P.length ≤ c1 ∧ Sl kPtr h ok A1 x.P := by
  obtain ⟨_, _, rfl, rfl, ⟨_, _, rfl, rfl, ⟨_, _, rfl, rfl, ⟨A1, c1, rfl, l1, h1⟩⟩⟩⟩ := k
  exact ⟨A1, c1, rfl, l1, h1⟩
theorem kActR_mk {h : Heap} {ok : Fp} (x : Act) {A1 : Option Addr} {c1 : Nat} (l1 : x.P.length ≤ c1) (h1 : Sl kPtr h ok A1 x.P) : kActR.rep h ok [.int .i64 x.Do, .int .i64 x.N, .int .i64 x.Not, .slice A1 x.P.length c1] x := ⟨[.int .i64 x.Do], [.int .i64 x.N, .int .i64 x.Not, _], rfl, rfl, ⟨[.int .i64 x.N], [.int .i64 x.Not, _], rfl, rfl, ⟨[.int .i64 x.Not], [_], rfl, rfl, ⟨_, _, rfl, l1, h1⟩⟩⟩⟩
theorem kActR_at {h : Heap} {ok : Fp} {A : Option Addr} {xs : List Act} (k : Sl kActR h ok A xs) {i : Int} (h0 : 0 ≤ i) (h1 : i < (xs.length : Int)) : ∃ ad A1 c1, A = some ad ∧ At h (ad.add (i.toNat * 4)) [.int .i64 ((rd xs i).Do), .int .i64 ((rd xs i).N), .int .i64 ((rd xs i).Not), .slice A1 ((rd xs i).P).length c1] ∧ (rd xs i).P.length ≤ c1 ∧ Sl kPtr h ok A1 (rd xs i).P := by
  obtain ⟨ad, cs, e, hr, hA⟩ := k.at_ h0 h1 default
  obtain ⟨A1, c1, rfl, l1, h1⟩ := kActR_open hr
  exact ⟨ad, A1, c1, e, hA, l1, h1⟩
theorem kActR_ato {h : Heap} {ok0 ok : Fp} {A : Option Addr} {c : Nat} {xs : List Act} (k : Ow kActR 109 h ok0 ok A c xs) {i : Int} (h0 : 0 ≤ i) (h1 : i < (xs.length : Int)) : ∃ ad A1 c1, A = some ad ∧ At h (ad.add (i.toNat * 4)) [.int .i64 ((rd xs i).Do), .int .i64 ((rd xs i).N), .int .i64 ((rd xs i).Not), .slice A1 ((rd xs i).P).length c1] ∧ (rd xs i).P.length ≤ c1 ∧ Sl kPtr h ok A1 (rd xs i).P := by
  obtain ⟨ad, cs, e, hr, hA⟩ := k.at_ h0 h1 default
  obtain ⟨A1, c1, rfl, l1, h1⟩ := kActR_open hr
  exact ⟨ad, A1, c1, e, hA, l1, h1⟩
def kActO : Kd Act := .iso (.pair (.int .i64) (.pair (.int .i64) (.pair (.int .i64) (.ow kPtr 70)))) (fun x : Act => (x.Do, x.N, x.Not, x.P))
theorem kActO_open {h : Heap} {ok : Fp} {cs : List Value} {x : Act} (k : kActO.rep h ok cs x) : ∃ (A1 : Option Addr) (c1 : Nat), cs = [.int .i64 x.Do, .int .i64 x.N, .int .i64 x.Not, .slice A1 x.P.length c1] ∧ Ow kPtr 70 h ok ok A1 c1 x.P := by
  obtain ⟨_, _, rfl, rfl, ⟨_, _, rfl, rfl, ⟨_, _, rfl, rfl, ⟨A1, c1, rfl, h1⟩⟩⟩⟩ := k
  exact ⟨A1, c1, rfl, h1⟩
theorem kActO_mk {h : Heap} {ok : Fp} (x : Act) {A1 : Option Addr} {c1 : Nat} (h1 : Ow kPtr 70 h ok ok A1 c1 x.P) : kActO.rep h ok [.int .i64 x.Do, .int .i64 x.N, .int .i64 x.Not, .slice A1 x.P.length c1] x := ⟨[.int .i64 x.Do], [.int .i64 x.N, .int .i64 x.Not, _], rfl, rfl, ⟨[.int .i64 x.N], [.int .i64 x.Not, _], rfl, rfl, ⟨[.int .i64 x.Not], [_], rfl, rfl, ⟨_, _, rfl, h1⟩⟩⟩⟩
theorem kActO_at {h : Heap} {ok : Fp} {A : Option Addr} {xs : List Act} (k : Sl kActO h ok A xs) {i : Int} (h0 : 0 ≤ i) (h1 : i < (xs.length : Int)) : ∃ ad A1 c1, A = some ad ∧ At h (ad.add (i.toNat * 4)) [.int .i64 ((rd xs i).Do), .int .i64 ((rd xs i).N), .int .i64 ((rd xs i).Not), .slice A1 ((rd xs i).P).length c1] ∧ Ow kPtr 70 h ok ok A1 c1 (rd xs i).P := by
  obtain ⟨ad, cs, e, hr, hA⟩ := k.at_ h0 h1 default
  obtain ⟨A1, c1, rfl, h1⟩ := kActO_open hr
  exact ⟨ad, A1, c1, e, hA, h1⟩
theorem kActO_ato {h : Heap} {ok0 ok : Fp} {A : Option Addr} {c : Nat} {xs : List Act} (k : Ow kActO 109 h ok0 ok A c xs) {i : Int} (h0 : 0 ≤ i) (h1 : i < (xs.length : Int)) : ∃ ad A1 c1, A = some ad ∧ At h (ad.add (i.toNat * 4)) [.int .i64 ((rd xs i).Do), .int .i64 ((rd xs i).N), .int .i64 ((rd xs i).Not), .slice A1 ((rd xs i).P).length c1] ∧ Ow kPtr 70 h ok ok A1 c1 (rd xs i).P := by
  obtain ⟨ad, cs, e, hr, hA⟩ := k.at_ h0 h1 default
  obtain ⟨A1, c1, rfl, h1⟩ := kActO_open hr
  exact ⟨ad, A1, c1, e, hA, h1⟩
def kActH : Kd Act := .iso (.pair (.int .i64) (.pair (.int .i64) (.pair (.int .i64) (.ow (Kd.any Ptr 1) 70)))) (fun x : Act => (x.Do, x.N, x.Not, x.P))
theorem kActH_open {h : Heap} {ok : Fp} {cs : List Value} {x : Act} (k : kActH.rep h ok cs x) : ∃ (A1 : Option Addr) (c1 : Nat), cs = [.int .i64 x.Do, .int .i64 x.N, .int .i64 x.Not, .slice A1 x.P.length c1] ∧ Ow (Kd.any Ptr 1) 70 h ok ok A1 c1 x.P := by
  obtain ⟨_, _, rfl, rfl, ⟨_, _, rfl, rfl, ⟨_, _, rfl, rfl, ⟨A1, c1, rfl, h1⟩⟩⟩⟩ := k
  exact ⟨A1, c1, rfl, h1⟩
theorem kActH_mk {h : Heap} {ok : Fp} (x : Act) {A1 : Option Addr} {c1 : Nat} (h1 : Ow (Kd.any Ptr 1) 70 h ok ok A1 c1 x.P) : kActH.rep h ok [.int .i64 x.Do, .int .i64 x.N, .int .i64 x.Not, .slice A1 x.P.length c1] x := ⟨[.int .i64 x.Do], [.int .i64 x.N, .int .i64 x.Not, _], rfl, rfl, ⟨[.int .i64 x.N], [.int .i64 x.Not, _], rfl, rfl, ⟨[.int .i64 x.Not], [_], rfl, rfl, ⟨_, _, rfl, h1⟩⟩⟩⟩
theorem kActH_at {h : Heap} {ok : Fp} {A : Option Addr} {xs : List Act} (k : Sl kActH h ok A xs) {i : Int} (h0 : 0 ≤ i) (h1 : i < (xs.length : Int)) : ∃ ad A1 c1, A = some ad ∧ At h (ad.add (i.toNat * 4)) [.int .i64 ((rd xs i).Do), .int .i64 ((rd xs i).N), .int .i64 ((rd xs i).Not), .slice A1 ((rd xs i).P).length c1] ∧ Ow (Kd.any Ptr 1) 70 h ok ok A1 c1 (rd xs i).P := by
  obtain ⟨ad, cs, e, hr, hA⟩ := k.at_ h0 h1 default
  obtain ⟨A1, c1, rfl, h1⟩ := kActH_open hr
  exact ⟨ad, A1, c1, e, hA, h1⟩
theorem kActH_ato {h : Heap} {ok0 ok : Fp} {A : Option Addr} {c : Nat} {xs : List Act} (k : Ow kActH 109 h ok0 ok A c xs) {i : Int} (h0 : 0 ≤ i) (h1 : i < (xs.length : Int)) : ∃ ad A1 c1, A = some ad ∧ At h (ad.add (i.toNat * 4)) [.int .i64 ((rd xs i).Do), .int .i64 ((rd xs i).N), .int .i64 ((rd xs i).Not), .slice A1 ((rd xs i).P).length c1] ∧ Ow (Kd.any Ptr 1) 70 h ok ok A1 c1 (rd xs i).P := by
  obtain ⟨ad, cs, e, hr, hA⟩ := k.at_ h0 h1 default
  obtain ⟨A1, c1, rfl, h1⟩ := kActH_open hr
  exact ⟨ad, A1, c1, e, hA, h1⟩
def kScriptR : Kd Script := .iso (.pair (.sl kDeviceR) (.sl kActR)) (fun x : Script => (x.L, x.A))
theorem kScriptR_open {h : Heap} {ok : Fp} {cs : List Value} {x : Script} (k : kScriptR.rep h ok cs x) : ∃ (A1 : Option Addr) (c1 : Nat) (A2 : Option Addr) (c2 : Nat), cs = [.slice A1 x.L.length c1, .slice A2 x.A.length c2] ∧ x.L.length ≤ c1 ∧ Sl kDeviceR h ok A1 x.L ∧ x.A.length ≤ c2 ∧ Sl kActR h ok A2 x.A := by
  obtain ⟨_, _, rfl, ⟨A1, c1, rfl, l1, h1⟩, ⟨A2, c2, rfl, l2, h2⟩⟩ := k
  exact ⟨A1, c1, A2, c2, rfl, l1, h1, l2, h2⟩
theorem kScriptR_mk {h : Heap} {ok : Fp} (x : Script) {A1 : Option Addr} {c1 : Nat} (l1 : x.L.length ≤ c1) (h1 : Sl kDeviceR h ok A1 x.L) {A2 : Option Addr} {c2 : Nat} (l2 : x.A.length ≤ c2) (h2 : Sl kActR h ok A2 x.A) : kScriptR.rep h ok [.slice A1 x.L.length c1, .slice A2 x.A.length c2] x := ⟨[_], [_], rfl, ⟨_, _, rfl, l1, h1⟩, ⟨_, _, rfl, l2, h2⟩⟩
theorem kScriptR_at {h : Heap} {ok : Fp} {A : Option Addr} {xs : List Script} (k : Sl kScriptR h ok A xs) {i : Int} (h0 : 0 ≤ i) (h1 : i < (xs.length : Int)) : ∃ ad A1 c1 A2 c2, A = some ad ∧ At h (ad.add (i.toNat * 2)) [.slice A1 ((rd xs i).L).length c1, .slice A2 ((rd xs i).A).length c2] ∧ (rd xs i).L.length ≤ c1 ∧ Sl kDeviceR h ok A1 (rd xs i).L ∧ (rd xs i).A.length ≤ c2 ∧ Sl kActR h ok A2 (rd xs i).A := by
  obtain ⟨ad, cs, e, hr, hA⟩ := k.at_ h0 h1 default
  obtain ⟨A1, c1, A2, c2, rfl, l1, h1, l2, h2⟩ := kScriptR_open hr
  exact ⟨ad, A1, c1, A2, c2, e, hA, l1, h1, l2, h2⟩
theorem kScriptR_ato {h : Heap} {ok0 ok : Fp} {A : Option Addr} {c : Nat} {xs : List Script} (k : Ow kScriptR 59 h ok0 ok A c xs) {i : Int} (h0 : 0 ≤ i) (h1 : i < (xs.length : Int)) : ∃ ad A1 c1 A2 c2, A = some ad ∧ At h (ad.add (i.toNat * 2)) [.slice A1 ((rd xs i).L).length c1, .slice A2 ((rd xs i).A).length c2] ∧ (rd xs i).L.length ≤ c1 ∧ Sl kDeviceR h ok A1 (rd xs i).L ∧ (rd xs i).A.length ≤ c2 ∧ Sl kActR h ok A2 (rd xs i).A := by
  obtain ⟨ad, cs, e, hr, hA⟩ := k.at_ h0 h1 default
  obtain ⟨A1, c1, A2, c2, rfl, l1, h1, l2, h2⟩ := kScriptR_open hr
  exact ⟨ad, A1, c1, A2, c2, e, hA, l1, h1, l2, h2⟩
def kScriptO : Kd Script := .iso (.pair (.ow kDeviceO 84) (.ow kActO 109)) (fun x : Script => (x.L, x.A))
theorem kScriptO_open {h : Heap} {ok : Fp} {cs : List Value} {x : Script} (k : kScriptO.rep h ok cs x) : ∃ (A1 : Option Addr) (c1 : Nat) (A2 : Option Addr) (c2 : Nat), cs = [.slice A1 x.L.length c1, .slice A2 x.A.length c2] ∧ Ow kDeviceO 84 h ok ok A1 c1 x.L ∧ Ow kActO 109 h ok ok A2 c2 x.A := by
  obtain ⟨_, _, rfl, ⟨A1, c1, rfl, h1⟩, ⟨A2, c2, rfl, h2⟩⟩ := k
  exact ⟨A1, c1, A2, c2, rfl, h1, h2⟩
theorem kScriptO_mk {h : Heap} {ok : Fp} (x : Script) {A1 : Option Addr} {c1 : Nat} (h1 : Ow kDeviceO 84 h ok ok A1 c1 x.L) {A2 : Option Addr} {c2 : Nat} (h2 : Ow kActO 109 h ok ok A2 c2 x.A) : kScriptO.rep h ok [.slice A1 x.L.length c1, .slice A2 x.A.length c2] x := ⟨[_], [_], rfl, ⟨_, _, rfl, h1⟩, ⟨_, _, rfl, h2⟩⟩
theorem kScriptO_at {h : Heap} {ok : Fp} {A : Option Addr} {xs : List Script} (k : Sl kScriptO h ok A xs) {i : Int} (h0 : 0 ≤ i) (h1 : i < (xs.length : Int)) : ∃ ad A1 c1 A2 c2, A = some ad ∧ At h (ad.add (i.toNat * 2)) [.slice A1 ((rd xs i).L).length c1, .slice A2 ((rd xs i).A).length c2] ∧ Ow kDeviceO 84 h ok ok A1 c1 (rd xs i).L ∧ Ow kActO 109 h ok ok A2 c2 (rd xs i).A := by
  obtain ⟨ad, cs, e, hr, hA⟩ := k.at_ h0 h1 default
  obtain ⟨A1, c1, A2, c2, rfl, h1, h2⟩ := kScriptO_open hr
  exact ⟨ad, A1, c1, A2, c2, e, hA, h1, h2⟩
theorem kScriptO_ato {h : Heap} {ok0 ok : Fp} {A : Option Addr} {c : Nat} {xs : List Script} (k : Ow kScriptO 59 h ok0 ok A c xs) {i : Int} (h0 : 0 ≤ i) (h1 : i < (xs.length : Int)) : ∃ ad A1 c1 A2 c2, A = some ad ∧ At h (ad.add (i.toNat * 2)) [.slice A1 ((rd xs i).L).length c1, .slice A2 ((rd xs i).A).length c2] ∧ Ow kDeviceO 84 h ok ok A1 c1 (rd xs i).L ∧ Ow kActO 109 h ok ok A2 c2 (rd xs i).A := by
  obtain ⟨ad, cs, e, hr, hA⟩ := k.at_ h0 h1 default
  obtain ⟨A1, c1, A2, c2, rfl, h1, h2⟩ := kScriptO_open hr
  exact ⟨ad, A1, c1, A2, c2, e, hA, h1, h2⟩
def kScriptH : Kd Script := .iso (.pair (.ow kDeviceH 84) (.ow kActH 109)) (fun x : Script => (x.L, x.A))
theorem kScriptH_open {h : Heap} {ok : Fp} {cs : List Value} {x : Script} (k : kScriptH.rep h ok cs x) : ∃ (A1 : Option Addr) (c1 : Nat) (A2 : Option Addr) (c2 : Nat), cs = [.slice A1 x.L.length c1, .slice A2 x.A.length c2] ∧ Ow kDeviceH 84 h ok ok A1 c1 x.L ∧ Ow kActH 109 h ok ok A2 c2 x.A := by
  obtain ⟨_, _, rfl, ⟨A1, c1, rfl, h1⟩, ⟨A2, c2, rfl, h2⟩⟩ := k
  exact ⟨A1, c1, A2, c2, rfl, h1, h2⟩
theorem kScriptH_mk {h : Heap} {ok : Fp} (x : Script) {A1 : Option Addr} {c1 : Nat} (h1 : Ow kDeviceH 84 h ok ok A1 c1 x.L) {A2 : Option Addr} {c2 : Nat} (h2 : Ow kActH 109 h ok ok A2 c2 x.A) : kScriptH.rep h ok [.slice A1 x.L.length c1, .slice A2 x.A.length c2] x := ⟨[_], [_], rfl, ⟨_, _, rfl, h1⟩, ⟨_, _, rfl, h2⟩⟩
theorem kScriptH_at {h : Heap} {ok : Fp} {A : Option Addr} {xs : List Script} (k : Sl kScriptH h ok A xs) {i : Int} (h0 : 0 ≤ i) (h1 : i < (xs.length : Int)) : ∃ ad A1 c1 A2 c2, A = some ad ∧ At h (ad.add (i.toNat * 2)) [.slice A1 ((rd xs i).L).length c1, .slice A2 ((rd xs i).A).length c2] ∧ Ow kDeviceH 84 h ok ok A1 c1 (rd xs i).L ∧ Ow kActH 109 h ok ok A2 c2 (rd xs i).A := by
  obtain ⟨ad, cs, e, hr, hA⟩ := k.at_ h0 h1 default
  obtain ⟨A1, c1, A2, c2, rfl, h1, h2⟩ := kScriptH_open hr
  exact ⟨ad, A1, c1, A2, c2, e, hA, h1, h2⟩
theorem kScriptH_ato {h : Heap} {ok0 ok : Fp} {A : Option Addr} {c : Nat} {xs : List Script} (k : Ow kScriptH 59 h ok0 ok A c xs) {i : Int} (h0 : 0 ≤ i) (h1 : i < (xs.length : Int)) : ∃ ad A1 c1 A2 c2, A = some ad ∧ At h (ad.add (i.toNat * 2)) [.slice A1 ((rd xs i).L).length c1, .slice A2 ((rd xs i).A).length c2] ∧ Ow kDeviceH 84 h ok ok A1 c1 (rd xs i).L ∧ Ow kActH 109 h ok ok A2 c2 (rd xs i).A := by
  obtain ⟨ad, cs, e, hr, hA⟩ := k.at_ h0 h1 default
  obtain ⟨A1, c1, A2, c2, rfl, h1, h2⟩ := kScriptH_open hr
  exact ⟨ad, A1, c1, A2, c2, e, hA, h1, h2⟩
theorem kDevice_ro {h : Heap} {ok : Fp} {cs : List Value} {x : Device} (k : kDeviceO.rep h ok cs x) : kDeviceR.rep h ok cs x := by
  obtain ⟨A0, c0, A1, c1, rfl, h0, h1⟩ := kDeviceO_open k
  exact kDeviceR_mk x h0.len ((h0.sl.mono fun _ _ hh => by rcases hh with hh | hh <;> exact hh).to (fun k => k) rfl) h1.len ((h1.sl.mono fun _ _ hh => by rcases hh with hh | hh <;> exact hh).to (fun k => k) rfl)
theorem kDeviceH_conv {h : Heap} : ∀ ok cs x, kDeviceO.rep h ok cs x → kDeviceH.rep h ok cs x := fun ok cs x k => by
  obtain ⟨A0, c0, A1, c1, rfl, h0, h1⟩ := kDeviceO_open k
  exact kDeviceH_mk x (h0.hollow rfl) (h1.hollow rfl)
theorem kDeviceH_kept {w w' : World} {e : TypeId} {b o : Nat} {us : List Value} (s : Stored w w' e b o us) : Kept kDeviceH w w' := (Kept.iso (Kept.pair Kept.scalar (Kept.pair Kept.scalar (Kept.pair (Kept.ow s) (Kept.ow s)))))
theorem kAct_ro {h : Heap} {ok : Fp} {cs : List Value} {x : Act} (k : kActO.rep h ok cs x) : kActR.rep h ok cs x := by
  obtain ⟨A0, c0, rfl, h0⟩ := kActO_open k
  exact kActR_mk x h0.len ((h0.sl.mono fun _ _ hh => by rcases hh with hh | hh <;> exact hh).to (fun k => k) rfl)
theorem kActH_conv {h : Heap} : ∀ ok cs x, kActO.rep h ok cs x → kActH.rep h ok cs x := fun ok cs x k => by
  obtain ⟨A0, c0, rfl, h0⟩ := kActO_open k
  exact kActH_mk x (h0.hollow rfl)
theorem kActH_kept {w w' : World} {e : TypeId} {b o : Nat} {us : List Value} (s : Stored w w' e b o us) : Kept kActH w w' := (Kept.iso (Kept.pair Kept.scalar (Kept.pair Kept.scalar (Kept.pair Kept.scalar (Kept.ow s)))))
theorem kScript_ro {h : Heap} {ok : Fp} {cs : List Value} {x : Script} (k : kScriptO.rep h ok cs x) : kScriptR.rep h ok cs x := by
  obtain ⟨A0, c0, A1, c1, rfl, h0, h1⟩ := kScriptO_open k
  exact kScriptR_mk x h0.len ((h0.sl.mono fun _ _ hh => by rcases hh with hh | hh <;> exact hh).to kDevice_ro rfl) h1.len ((h1.sl.mono fun _ _ hh => by rcases hh with hh | hh <;> exact hh).to kAct_ro rfl)
theorem kScriptH_conv {h : Heap} : ∀ ok cs x, kScriptO.rep h ok cs x → kScriptH.rep h ok cs x := fun ok cs x k => by
  obtain ⟨A0, c0, A1, c1, rfl, h0, h1⟩ := kScriptO_open k
  exact kScriptH_mk x (Ow.conv (d := kDeviceO) (d' := kDeviceH) rfl kDeviceH_conv h0) (Ow.conv (d := kActO) (d' := kActH) rfl kActH_conv h1)
theorem eqPtr (x y : Ptr) (w : World) : (Op.equalIn 10000 70 (.agg [.int .i64 x.Dev, .int .i64 x.At].toArray) (.agg [.int .i64 y.Dev, .int .i64 y.At].toArray)).run Tryd.prog w = .ok (decide (x = y)) w := by
  have e : decide (x = y) = ((x.Dev == y.Dev) && ((x.At == y.At) && true)) := by rw [Bool.eq_iff_iff]; cases x; cases y; simp
  rw [e]
  exact run_equalFlat tabOk Tryd.underlying70 (by kernel_rfl) [.int .i64 x.Dev, .int .i64 x.At] [.int .i64 y.Dev, .int .i64 y.At] rfl w
theorem eqgPtr : Tryd.prog.eqGuardType Tryd.prog.depth 70 = false := by kernel_rfl
theorem eqSeg (x y : Seg) (w : World) : (Op.equalIn 10000 93 (.agg [.int .i64 x.At, .int .i64 x.Len].toArray) (.agg [.int .i64 y.At, .int .i64 y.Len].toArray)).run Tryd.prog w = .ok (decide (x = y)) w := by
  have e : decide (x = y) = ((x.At == y.At) && ((x.Len == y.Len) && true)) := by rw [Bool.eq_iff_iff]; cases x; cases y; simp
  rw [e]
  exact run_equalFlat tabOk Tryd.underlying93 (by kernel_rfl) [.int .i64 x.At, .int .i64 x.Len] [.int .i64 y.At, .int .i64 y.Len] rfl w
theorem eqgSeg : Tryd.prog.eqGuardType Tryd.prog.depth 93 = false := by kernel_rfl
theorem ent12 : Enters Tryd.prog 12 := Enters.mk Tryd.func12 (by kernel_rfl) (by kernel_rfl)
theorem ent15 : Enters Tryd.prog 15 := Enters.mk Tryd.func15 (by kernel_rfl) (by kernel_rfl)
theorem ent17 : Enters Tryd.prog 17 := Enters.mk Tryd.func17 (by kernel_rfl) (by kernel_rfl)
theorem ent20 : Enters Tryd.prog 20 := Enters.mk Tryd.func20 (by kernel_rfl) (by kernel_rfl)
theorem ent21 : Enters Tryd.prog 21 := Enters.mk Tryd.func21 (by kernel_rfl) (by kernel_rfl)
theorem ent27 : Enters Tryd.prog 27 := Enters.mk Tryd.func27 (by kernel_rfl) (by kernel_rfl)
theorem ent28 : Enters Tryd.prog 28 := Enters.mk Tryd.func28 (by kernel_rfl) (by kernel_rfl)
theorem ent31 : Enters Tryd.prog 31 := Enters.mk Tryd.func31 (by kernel_rfl) (by kernel_rfl)
theorem ent32 : Enters Tryd.prog 32 := Enters.mk Tryd.func32 (by kernel_rfl) (by kernel_rfl)
theorem ent34 : Enters Tryd.prog 34 := Enters.mk Tryd.func34 (by kernel_rfl) (by kernel_rfl)
theorem ent35 : Enters Tryd.prog 35 := Enters.mk Tryd.func35 (by kernel_rfl) (by kernel_rfl)
theorem ent36 : Enters Tryd.prog 36 := Enters.mk Tryd.func36 (by kernel_rfl) (by kernel_rfl)
theorem ent37 : Enters Tryd.prog 37 := Enters.mk Tryd.func37 (by kernel_rfl) (by kernel_rfl)
theorem ent38 : Enters Tryd.prog 38 := Enters.mk Tryd.func38 (by kernel_rfl) (by kernel_rfl)
theorem ent39 : Enters Tryd.prog 39 := Enters.mk Tryd.func39 (by kernel_rfl) (by kernel_rfl)
theorem ent40 : Enters Tryd.prog 40 := Enters.mk Tryd.func40 (by kernel_rfl) (by kernel_rfl)
theorem ent41 : Enters Tryd.prog 41 := Enters.mk Tryd.func41 (by kernel_rfl) (by kernel_rfl)
theorem ent42 : Enters Tryd.prog 42 := Enters.mk Tryd.func42 (by kernel_rfl) (by kernel_rfl)
theorem ent43 : Enters Tryd.prog 43 := Enters.mk Tryd.func43 (by kernel_rfl) (by kernel_rfl)
theorem ent44 : Enters Tryd.prog 44 := Enters.mk Tryd.func44 (by kernel_rfl) (by kernel_rfl)
theorem ent45 : Enters Tryd.prog 45 := Enters.mk Tryd.func45 (by kernel_rfl) (by kernel_rfl)
theorem ent51 : Enters Tryd.prog 51 := Enters.mk Tryd.func51 (by kernel_rfl) (by kernel_rfl)
theorem ent52 : Enters Tryd.prog 52 := Enters.mk Tryd.func52 (by kernel_rfl) (by kernel_rfl)
theorem ent53 : Enters Tryd.prog 53 := Enters.mk Tryd.func53 (by kernel_rfl) (by kernel_rfl)
theorem ent57 : Enters Tryd.prog 57 := Enters.mk Tryd.func57 (by kernel_rfl) (by kernel_rfl)
theorem ent58 : Enters Tryd.prog 58 := Enters.mk Tryd.func58 (by kernel_rfl) (by kernel_rfl)
theorem ent59 : Enters Tryd.prog 59 := Enters.mk Tryd.func59 (by kernel_rfl) (by kernel_rfl)
theorem ent60 : Enters Tryd.prog 60 := Enters.mk Tryd.func60 (by kernel_rfl) (by kernel_rfl)
theorem ent63 : Enters Tryd.prog 63 := Enters.mk Tryd.func63 (by kernel_rfl) (by kernel_rfl)
theorem ent64 : Enters Tryd.prog 64 := Enters.mk Tryd.func64 (by kernel_rfl) (by kernel_rfl)
theorem ent65 : Enters Tryd.prog 65 := Enters.mk Tryd.func65 (by kernel_rfl) (by kernel_rfl)
theorem ent66 : Enters Tryd.prog 66 := Enters.mk Tryd.func66 (by kernel_rfl) (by kernel_rfl)
theorem ent67 : Enters Tryd.prog 67 := Enters.mk Tryd.func67 (by kernel_rfl) (by kernel_rfl)
theorem ent68 : Enters Tryd.prog 68 := Enters.mk Tryd.func68 (by kernel_rfl) (by kernel_rfl)
theorem ent69 : Enters Tryd.prog 69 := Enters.mk Tryd.func69 (by kernel_rfl) (by kernel_rfl)
theorem ent70 : Enters Tryd.prog 70 := Enters.mk Tryd.func70 (by kernel_rfl) (by kernel_rfl)
theorem ent71 : Enters Tryd.prog 71 := Enters.mk Tryd.func71 (by kernel_rfl) (by kernel_rfl)
theorem ent72 : Enters Tryd.prog 72 := Enters.mk Tryd.func72 (by kernel_rfl) (by kernel_rfl)
theorem ent73 : Enters Tryd.prog 73 := Enters.mk Tryd.func73 (by kernel_rfl) (by kernel_rfl)
theorem ent74 : Enters Tryd.prog 74 := Enters.mk Tryd.func74 (by kernel_rfl) (by kernel_rfl)
theorem ent79 : Enters Tryd.prog 79 := Enters.mk Tryd.func79 (by kernel_rfl) (by kernel_rfl)
theorem ent80 : Enters Tryd.prog 80 := Enters.mk Tryd.func80 (by kernel_rfl) (by kernel_rfl)
theorem ent82 : Enters Tryd.prog 82 := Enters.mk Tryd.func82 (by kernel_rfl) (by kernel_rfl)
theorem ent83 : Enters Tryd.prog 83 := Enters.mk Tryd.func83 (by kernel_rfl) (by kernel_rfl)
theorem ent84 : Enters Tryd.prog 84 := Enters.mk Tryd.func84 (by kernel_rfl) (by kernel_rfl)
theorem ent85 : Enters Tryd.prog 85 := Enters.mk Tryd.func85 (by kernel_rfl) (by kernel_rfl)
theorem ent86 : Enters Tryd.prog 86 := Enters.mk Tryd.func86 (by kernel_rfl) (by kernel_rfl)
theorem ent87 : Enters Tryd.prog 87 := Enters.mk Tryd.func87 (by kernel_rfl) (by kernel_rfl)
theorem ent88 : Enters Tryd.prog 88 := Enters.mk Tryd.func88 (by kernel_rfl) (by kernel_rfl)
theorem ent89 : Enters Tryd.prog 89 := Enters.mk Tryd.func89 (by kernel_rfl) (by kernel_rfl)
theorem ent100 : Enters Tryd.prog 100 := Enters.mk Tryd.func100 (by kernel_rfl) (by kernel_rfl)
theorem ent101 : Enters Tryd.prog 101 := Enters.mk Tryd.func101 (by kernel_rfl) (by kernel_rfl)
theorem ent102 : Enters Tryd.prog 102 := Enters.mk Tryd.func102 (by kernel_rfl) (by kernel_rfl)
theorem ent103 : Enters Tryd.prog 103 := Enters.mk Tryd.func103 (by kernel_rfl) (by kernel_rfl)
theorem ent104 : Enters Tryd.prog 104 := Enters.mk Tryd.func104 (by kernel_rfl) (by kernel_rfl)
theorem ent105 : Enters Tryd.prog 105 := Enters.mk Tryd.func105 (by kernel_rfl) (by kernel_rfl)
theorem ent106 : Enters Tryd.prog 106 := Enters.mk Tryd.func106 (by kernel_rfl) (by kernel_rfl)
theorem ent107 : Enters Tryd.prog 107 := Enters.mk Tryd.func107 (by kernel_rfl) (by kernel_rfl)
theorem ent108 : Enters Tryd.prog 108 := Enters.mk Tryd.func108 (by kernel_rfl) (by kernel_rfl)
theorem ent109 : Enters Tryd.prog 109 := Enters.mk Tryd.func109 (by kernel_rfl) (by kernel_rfl)
theorem ent110 : Enters Tryd.prog 110 := Enters.mk Tryd.func110 (by kernel_rfl) (by kernel_rfl)
theorem ent111 : Enters Tryd.prog 111 := Enters.mk Tryd.func111 (by kernel_rfl) (by kernel_rfl)
theorem ent112 : Enters Tryd.prog 112 := Enters.mk Tryd.func112 (by kernel_rfl) (by kernel_rfl)
theorem ent113 : Enters Tryd.prog 113 := Enters.mk Tryd.func113 (by kernel_rfl) (by kernel_rfl)
theorem ent114 : Enters Tryd.prog 114 := Enters.mk Tryd.func114 (by kernel_rfl) (by kernel_rfl)
theorem ent115 : Enters Tryd.prog 115 := Enters.mk Tryd.func115 (by kernel_rfl) (by kernel_rfl)
theorem ent116 : Enters Tryd.prog 116 := Enters.mk Tryd.func116 (by kernel_rfl) (by kernel_rfl)
theorem ent133 : Enters Tryd.prog 133 := Enters.mk Tryd.func133 (by kernel_rfl) (by kernel_rfl)
theorem ent141 : Enters Tryd.prog 141 := Enters.mk Tryd.func141 (by kernel_rfl) (by kernel_rfl)
end Go.Proofs.YtnaajldlloglkaaDoor.W
