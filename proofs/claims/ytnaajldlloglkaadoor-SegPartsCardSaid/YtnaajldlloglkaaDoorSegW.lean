/- The table of types, the kinds of elements; printed by a program of the claim. -/
import Derived.Test.YtnaajldlloglkaaDoorProg
import Derived.Test.YtnaajldlloglkaaDoorSegFn
set_option linter.unusedVariables false
set_option linter.unusedSimpArgs false
namespace Go.Proofs.YtnaajldlloglkaaDoor.W
open Go.H Go.Proofs
def tab : Tab := [(3, ⟨.int .i64, 1, 8, [.int .i64 0]⟩),
  (4, ⟨.bool, 1, 1, [.bool false]⟩),
  (5, ⟨.int .u8, 1, 1, [.int .u8 0]⟩),
  (22, ⟨.slice 28, 1, 24, [.slice none 0 0]⟩),
  (23, ⟨.slice 3, 1, 24, [.slice none 0 0]⟩),
  (25, ⟨.struct [(0, 1), (1, 1)], 2, 48, [.slice none 0 0, .slice none 0 0]⟩),
  (28, ⟨.slice 93, 1, 24, [.slice none 0 0]⟩),
  (54, ⟨.arr 64 4, 64, 64, (arrB 64 fun _ => false)⟩),
  (93, ⟨.struct [(0, 1), (1, 1)], 2, 16, [.int .i64 0, .int .i64 0]⟩),
  (95, ⟨.int .u64, 1, 8, [.int .u64 0]⟩),
  (96, ⟨.int .u64, 1, 8, [.int .u64 0]⟩),
  (167, ⟨.arr 64 5, 64, 64, (arrI .u8 64 fun _ => 0)⟩)]
theorem tabOk : TabOk Tryd.prog tab :=
  ⟨.mk' _ _ _ _ (by kernel_rfl) Tryd.underlying3 rfl rfl (fun h => by first | rfl | cases h) (by decide) rfl,
   .mk' _ _ _ _ (by kernel_rfl) Tryd.underlying4 rfl rfl (fun h => by first | rfl | cases h) (by decide) rfl,
   .mk' _ _ _ _ (by kernel_rfl) Tryd.underlying5 rfl rfl (fun h => by first | rfl | cases h) (by decide) rfl,
   .mk' _ _ _ _ (by kernel_rfl) Tryd.underlying22 rfl rfl (fun h => by first | rfl | cases h) (by decide) rfl,
   .mk' _ _ _ _ (by kernel_rfl) Tryd.underlying23 rfl rfl (fun h => by first | rfl | cases h) (by decide) rfl,
   .mk' _ _ _ _ (by kernel_rfl) Tryd.underlying25 ⟨_, rfl, by kernel_rfl, rfl⟩ rfl (fun h => by first | rfl | cases h) (by decide) rfl,
   .mk' _ _ _ _ (by kernel_rfl) Tryd.underlying28 rfl rfl (fun h => by first | rfl | cases h) (by decide) rfl,
   .mk' _ _ _ _ (by kernel_rfl) Tryd.underlying54 rfl rfl (fun h => by first | rfl | cases h) (by decide) rfl,
   .mk' _ _ _ _ (by kernel_rfl) Tryd.underlying93 ⟨_, rfl, by kernel_rfl, rfl⟩ rfl (fun h => by first | rfl | cases h) (by decide) rfl,
   .mk' _ _ _ _ (by kernel_rfl) Tryd.underlying95 rfl rfl (fun h => by first | rfl | cases h) (by decide) rfl,
   .mk' _ _ _ _ (by kernel_rfl) Tryd.underlying96 rfl rfl (fun h => by first | rfl | cases h) (by decide) rfl,
   .mk' _ _ _ _ (by kernel_rfl) Tryd.underlying167 rfl rfl (fun h => by first | rfl | cases h) (by decide) rfl, trivial⟩
theorem mixed : Tryd.prog.follows .mixedOrders = true := by kernel_rfl
def kSeg : Kd Seg := .iso (.pair (.int .i64) (.int .i64)) (fun x : Seg => (x.At, x.Len))
theorem kSeg_open {h : Heap} {ok : Fp} {cs : List Value} {x : Seg} (k : kSeg.rep h ok cs x) : cs = [.int .i64 x.At, .int .i64 x.Len] := by
  obtain ⟨_, _, rfl, rfl, rfl⟩ := k
  exact rfl
theorem kSeg_mk {h : Heap} {ok : Fp} (x : Seg) : kSeg.rep h ok [.int .i64 x.At, .int .i64 x.Len] x := ⟨[.int .i64 x.At], [.int .i64 x.Len], rfl, rfl, rfl⟩
theorem kSeg_at {h : Heap} {ok : Fp} {A : Option Addr} {xs : List Seg} (k : Sl kSeg h ok A xs) {i : Int} (h0 : 0 ≤ i) (h1 : i < (xs.length : Int)) : ∃ ad, A = some ad ∧ At h (ad.add (i.toNat * 2)) [.int .i64 ((rd xs i).At), .int .i64 ((rd xs i).Len)] := by
  obtain ⟨ad, cs, e, hr, hA⟩ := k.at_ h0 h1 default
  obtain rfl := kSeg_open hr
  exact ⟨ad, e, hA⟩
def khermitagelaw1AskR : Kd hermitagelaw1Ask := .iso (.pair (.sl (Kd.sl kSeg)) (.sl (Kd.int .i64))) (fun x : hermitagelaw1Ask => (x.L, x.N))
theorem khermitagelaw1AskR_open {h : Heap} {ok : Fp} {cs : List Value} {x : hermitagelaw1Ask} (k : khermitagelaw1AskR.rep h ok cs x) : ∃ (A1 : Option Addr) (c1 : Nat) (A2 : Option Addr) (c2 : Nat), cs = [.slice A1 x.L.length c1, .slice A2 x.N.length c2] ∧ x.L.length ≤ c1 ∧ Sl (Kd.sl kSeg) h ok A1 x.L ∧ x.N.length ≤ c2 ∧ Sl (Kd.int .i64) h ok A2 x.N := by
  obtain ⟨_, _, rfl, ⟨A1, c1, rfl, l1, h1⟩, ⟨A2, c2, rfl, l2, h2⟩⟩ := k
  exact ⟨A1, c1, A2, c2, rfl, l1, h1, l2, h2⟩
theorem khermitagelaw1AskR_mk {h : Heap} {ok : Fp} (x : hermitagelaw1Ask) {A1 : Option Addr} {c1 : Nat} (l1 : x.L.length ≤ c1) (h1 : Sl (Kd.sl kSeg) h ok A1 x.L) {A2 : Option Addr} {c2 : Nat} (l2 : x.N.length ≤ c2) (h2 : Sl (Kd.int .i64) h ok A2 x.N) : khermitagelaw1AskR.rep h ok [.slice A1 x.L.length c1, .slice A2 x.N.length c2] x := ⟨[_], [_], rfl, ⟨_, _, rfl, l1, h1⟩, ⟨_, _, rfl, l2, h2⟩⟩
theorem khermitagelaw1AskR_at {h : Heap} {ok : Fp} {A : Option Addr} {xs : List hermitagelaw1Ask} (k : Sl khermitagelaw1AskR h ok A xs) {i : Int} (h0 : 0 ≤ i) (h1 : i < (xs.length : Int)) : ∃ ad A1 c1 A2 c2, A = some ad ∧ At h (ad.add (i.toNat * 2)) [.slice A1 ((rd xs i).L).length c1, .slice A2 ((rd xs i).N).length c2] ∧ (rd xs i).L.length ≤ c1 ∧ Sl (Kd.sl kSeg) h ok A1 (rd xs i).L ∧ (rd xs i).N.length ≤ c2 ∧ Sl (Kd.int .i64) h ok A2 (rd xs i).N := by
  obtain ⟨ad, cs, e, hr, hA⟩ := k.at_ h0 h1 default
  obtain ⟨A1, c1, A2, c2, rfl, l1, h1, l2, h2⟩ := khermitagelaw1AskR_open hr
  exact ⟨ad, A1, c1, A2, c2, e, hA, l1, h1, l2, h2⟩
theorem khermitagelaw1AskR_ato {h : Heap} {ok0 ok : Fp} {A : Option Addr} {c : Nat} {xs : List hermitagelaw1Ask} (k : Ow khermitagelaw1AskR 25 h ok0 ok A c xs) {i : Int} (h0 : 0 ≤ i) (h1 : i < (xs.length : Int)) : ∃ ad A1 c1 A2 c2, A = some ad ∧ At h (ad.add (i.toNat * 2)) [.slice A1 ((rd xs i).L).length c1, .slice A2 ((rd xs i).N).length c2] ∧ (rd xs i).L.length ≤ c1 ∧ Sl (Kd.sl kSeg) h ok A1 (rd xs i).L ∧ (rd xs i).N.length ≤ c2 ∧ Sl (Kd.int .i64) h ok A2 (rd xs i).N := by
  obtain ⟨ad, cs, e, hr, hA⟩ := k.at_ h0 h1 default
  obtain ⟨A1, c1, A2, c2, rfl, l1, h1, l2, h2⟩ := khermitagelaw1AskR_open hr
  exact ⟨ad, A1, c1, A2, c2, e, hA, l1, h1, l2, h2⟩
def khermitagelaw1AskO : Kd hermitagelaw1Ask := .iso (.pair (.ow (Kd.ow kSeg 93) 28) (.ow (Kd.int .i64) 3)) (fun x : hermitagelaw1Ask => (x.L, x.N))
theorem khermitagelaw1AskO_open {h : Heap} {ok : Fp} {cs : List Value} {x : hermitagelaw1Ask} (k : khermitagelaw1AskO.rep h ok cs x) : ∃ (A1 : Option Addr) (c1 : Nat) (A2 : Option Addr) (c2 : Nat), cs = [.slice A1 x.L.length c1, .slice A2 x.N.length c2] ∧ Ow (Kd.ow kSeg 93) 28 h ok ok A1 c1 x.L ∧ Ow (Kd.int .i64) 3 h ok ok A2 c2 x.N := by
  obtain ⟨_, _, rfl, ⟨A1, c1, rfl, h1⟩, ⟨A2, c2, rfl, h2⟩⟩ := k
  exact ⟨A1, c1, A2, c2, rfl, h1, h2⟩
theorem khermitagelaw1AskO_mk {h : Heap} {ok : Fp} (x : hermitagelaw1Ask) {A1 : Option Addr} {c1 : Nat} (h1 : Ow (Kd.ow kSeg 93) 28 h ok ok A1 c1 x.L) {A2 : Option Addr} {c2 : Nat} (h2 : Ow (Kd.int .i64) 3 h ok ok A2 c2 x.N) : khermitagelaw1AskO.rep h ok [.slice A1 x.L.length c1, .slice A2 x.N.length c2] x := ⟨[_], [_], rfl, ⟨_, _, rfl, h1⟩, ⟨_, _, rfl, h2⟩⟩
theorem khermitagelaw1AskO_at {h : Heap} {ok : Fp} {A : Option Addr} {xs : List hermitagelaw1Ask} (k : Sl khermitagelaw1AskO h ok A xs) {i : Int} (h0 : 0 ≤ i) (h1 : i < (xs.length : Int)) : ∃ ad A1 c1 A2 c2, A = some ad ∧ At h (ad.add (i.toNat * 2)) [.slice A1 ((rd xs i).L).length c1, .slice A2 ((rd xs i).N).length c2] ∧ Ow (Kd.ow kSeg 93) 28 h ok ok A1 c1 (rd xs i).L ∧ Ow (Kd.int .i64) 3 h ok ok A2 c2 (rd xs i).N := by
  obtain ⟨ad, cs, e, hr, hA⟩ := k.at_ h0 h1 default
  obtain ⟨A1, c1, A2, c2, rfl, h1, h2⟩ := khermitagelaw1AskO_open hr
  exact ⟨ad, A1, c1, A2, c2, e, hA, h1, h2⟩
theorem khermitagelaw1AskO_ato {h : Heap} {ok0 ok : Fp} {A : Option Addr} {c : Nat} {xs : List hermitagelaw1Ask} (k : Ow khermitagelaw1AskO 25 h ok0 ok A c xs) {i : Int} (h0 : 0 ≤ i) (h1 : i < (xs.length : Int)) : ∃ ad A1 c1 A2 c2, A = some ad ∧ At h (ad.add (i.toNat * 2)) [.slice A1 ((rd xs i).L).length c1, .slice A2 ((rd xs i).N).length c2] ∧ Ow (Kd.ow kSeg 93) 28 h ok ok A1 c1 (rd xs i).L ∧ Ow (Kd.int .i64) 3 h ok ok A2 c2 (rd xs i).N := by
  obtain ⟨ad, cs, e, hr, hA⟩ := k.at_ h0 h1 default
  obtain ⟨A1, c1, A2, c2, rfl, h1, h2⟩ := khermitagelaw1AskO_open hr
  exact ⟨ad, A1, c1, A2, c2, e, hA, h1, h2⟩
theorem khermitagelaw1Ask_ro {h : Heap} {ok : Fp} {cs : List Value} {x : hermitagelaw1Ask} (k : khermitagelaw1AskO.rep h ok cs x) : khermitagelaw1AskR.rep h ok cs x := by
  obtain ⟨A0, c0, A1, c1, rfl, h0, h1⟩ := khermitagelaw1AskO_open k
  exact khermitagelaw1AskR_mk x h0.len ((h0.sl.mono fun _ _ hh => by rcases hh with hh | hh <;> exact hh).to (ow_sl_rep (fun k => k) rfl) rfl) h1.len ((h1.sl.mono fun _ _ hh => by rcases hh with hh | hh <;> exact hh).to (fun k => k) rfl)
theorem eqSeg (x y : Seg) (w : World) : (Op.equalIn 10000 93 (.agg [.int .i64 x.At, .int .i64 x.Len].toArray) (.agg [.int .i64 y.At, .int .i64 y.Len].toArray)).run Tryd.prog w = .ok (decide (x = y)) w := by
  have e : decide (x = y) = ((x.At == y.At) && ((x.Len == y.Len) && true)) := by rw [Bool.eq_iff_iff]; cases x; cases y; simp
  rw [e]
  exact run_equalFlat tabOk Tryd.underlying93 (by kernel_rfl) [.int .i64 x.At, .int .i64 x.Len] [.int .i64 y.At, .int .i64 y.Len] rfl w
theorem eqgSeg : Tryd.prog.eqGuardType Tryd.prog.depth 93 = false := by kernel_rfl
theorem ent11 : Enters Tryd.prog 11 := Enters.mk Tryd.func11 (by kernel_rfl) (by kernel_rfl)
theorem ent12 : Enters Tryd.prog 12 := Enters.mk Tryd.func12 (by kernel_rfl) (by kernel_rfl)
theorem ent13 : Enters Tryd.prog 13 := Enters.mk Tryd.func13 (by kernel_rfl) (by kernel_rfl)
theorem ent14 : Enters Tryd.prog 14 := Enters.mk Tryd.func14 (by kernel_rfl) (by kernel_rfl)
theorem ent15 : Enters Tryd.prog 15 := Enters.mk Tryd.func15 (by kernel_rfl) (by kernel_rfl)
theorem ent16 : Enters Tryd.prog 16 := Enters.mk Tryd.func16 (by kernel_rfl) (by kernel_rfl)
theorem ent17 : Enters Tryd.prog 17 := Enters.mk Tryd.func17 (by kernel_rfl) (by kernel_rfl)
theorem ent18 : Enters Tryd.prog 18 := Enters.mk Tryd.func18 (by kernel_rfl) (by kernel_rfl)
theorem ent19 : Enters Tryd.prog 19 := Enters.mk Tryd.func19 (by kernel_rfl) (by kernel_rfl)
theorem ent20 : Enters Tryd.prog 20 := Enters.mk Tryd.func20 (by kernel_rfl) (by kernel_rfl)
theorem ent21 : Enters Tryd.prog 21 := Enters.mk Tryd.func21 (by kernel_rfl) (by kernel_rfl)
theorem ent22 : Enters Tryd.prog 22 := Enters.mk Tryd.func22 (by kernel_rfl) (by kernel_rfl)
theorem ent23 : Enters Tryd.prog 23 := Enters.mk Tryd.func23 (by kernel_rfl) (by kernel_rfl)
theorem ent24 : Enters Tryd.prog 24 := Enters.mk Tryd.func24 (by kernel_rfl) (by kernel_rfl)
theorem ent25 : Enters Tryd.prog 25 := Enters.mk Tryd.func25 (by kernel_rfl) (by kernel_rfl)
theorem ent26 : Enters Tryd.prog 26 := Enters.mk Tryd.func26 (by kernel_rfl) (by kernel_rfl)
theorem ent27 : Enters Tryd.prog 27 := Enters.mk Tryd.func27 (by kernel_rfl) (by kernel_rfl)
theorem ent28 : Enters Tryd.prog 28 := Enters.mk Tryd.func28 (by kernel_rfl) (by kernel_rfl)
theorem ent29 : Enters Tryd.prog 29 := Enters.mk Tryd.func29 (by kernel_rfl) (by kernel_rfl)
theorem ent30 : Enters Tryd.prog 30 := Enters.mk Tryd.func30 (by kernel_rfl) (by kernel_rfl)
theorem ent31 : Enters Tryd.prog 31 := Enters.mk Tryd.func31 (by kernel_rfl) (by kernel_rfl)
theorem ent32 : Enters Tryd.prog 32 := Enters.mk Tryd.func32 (by kernel_rfl) (by kernel_rfl)
theorem ent33 : Enters Tryd.prog 33 := Enters.mk Tryd.func33 (by kernel_rfl) (by kernel_rfl)
theorem ent34 : Enters Tryd.prog 34 := Enters.mk Tryd.func34 (by kernel_rfl) (by kernel_rfl)
theorem ent35 : Enters Tryd.prog 35 := Enters.mk Tryd.func35 (by kernel_rfl) (by kernel_rfl)
theorem ent51 : Enters Tryd.prog 51 := Enters.mk Tryd.func51 (by kernel_rfl) (by kernel_rfl)
theorem ent52 : Enters Tryd.prog 52 := Enters.mk Tryd.func52 (by kernel_rfl) (by kernel_rfl)
theorem ent53 : Enters Tryd.prog 53 := Enters.mk Tryd.func53 (by kernel_rfl) (by kernel_rfl)
theorem ent54 : Enters Tryd.prog 54 := Enters.mk Tryd.func54 (by kernel_rfl) (by kernel_rfl)
theorem ent55 : Enters Tryd.prog 55 := Enters.mk Tryd.func55 (by kernel_rfl) (by kernel_rfl)
theorem ent56 : Enters Tryd.prog 56 := Enters.mk Tryd.func56 (by kernel_rfl) (by kernel_rfl)
theorem ent57 : Enters Tryd.prog 57 := Enters.mk Tryd.func57 (by kernel_rfl) (by kernel_rfl)
theorem ent58 : Enters Tryd.prog 58 := Enters.mk Tryd.func58 (by kernel_rfl) (by kernel_rfl)
theorem ent59 : Enters Tryd.prog 59 := Enters.mk Tryd.func59 (by kernel_rfl) (by kernel_rfl)
theorem ent60 : Enters Tryd.prog 60 := Enters.mk Tryd.func60 (by kernel_rfl) (by kernel_rfl)
theorem ent61 : Enters Tryd.prog 61 := Enters.mk Tryd.func61 (by kernel_rfl) (by kernel_rfl)
theorem ent62 : Enters Tryd.prog 62 := Enters.mk Tryd.func62 (by kernel_rfl) (by kernel_rfl)
theorem ent63 : Enters Tryd.prog 63 := Enters.mk Tryd.func63 (by kernel_rfl) (by kernel_rfl)
theorem ent64 : Enters Tryd.prog 64 := Enters.mk Tryd.func64 (by kernel_rfl) (by kernel_rfl)
theorem ent79 : Enters Tryd.prog 79 := Enters.mk Tryd.func79 (by kernel_rfl) (by kernel_rfl)
theorem ent80 : Enters Tryd.prog 80 := Enters.mk Tryd.func80 (by kernel_rfl) (by kernel_rfl)
theorem ent81 : Enters Tryd.prog 81 := Enters.mk Tryd.func81 (by kernel_rfl) (by kernel_rfl)
theorem ent100 : Enters Tryd.prog 100 := Enters.mk Tryd.func100 (by kernel_rfl) (by kernel_rfl)
end Go.Proofs.YtnaajldlloglkaaDoor.W
