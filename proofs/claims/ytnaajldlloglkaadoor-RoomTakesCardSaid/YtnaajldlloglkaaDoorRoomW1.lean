/- Walks; printed by a program of the claim. -/
import Derived.Test.YtnaajldlloglkaaDoorRoomW
set_option linter.unusedVariables false
set_option linter.unusedSimpArgs false
namespace Go.Proofs.YtnaajldlloglkaaDoor.W
open Go.H Go.Proofs
set_option maxHeartbeats 4000000 in
set_option maxRecDepth 100000 in
theorem hermitagelaw0_DevicesWeight.calls (k : Nat) (A1 : Option Addr) (c_1 : Nat) (p0 : List Device) (r : Int) (w : World) (hs1 : Sl kDeviceR w.heap okAll A1 p0) (hl1 : p0.length ≤ c_1) (H : hermitagelaw0_DevicesWeight.f k p0 = some r) :
    Calls Tryd.prog 65 #[.slice A1 p0.length c_1] w fun e w' => e = .returned (.int .i64 r) ∧ Ext w w' := by
 have h1 : Sl kDeviceR w.heap (okL [(0, some w.heap.size, none)]) A1 p0 := hs1.old _ rfl
 have x0 : Ext w w := Upd.refl _ w
 unfold hermitagelaw0_DevicesWeight.f at H
 refine calls_start Tryd.func65 rfl 33 rfl [.slice A1 p0.length c_1] rfl ?_
 refine CW.seq ?_
 refine CW.lex [.W] rfl ?_
 refine RW.pure tabOk 1 rfl ?_
 refine RW.done ?_
 refine NW.next ?_
 refine CW.seq ?_
 refine CW.lex [.W, .W, .W] rfl ?_
 refine RW.pure tabOk 3 rfl ?_
 refine RW.done ?_
 refine NW.next ?_
 refine CW.seq ?_
 refine CW.seq ?_
 refine CW.lex [.W] rfl ?_
 refine RW.pure tabOk 1 rfl ?_
 refine RW.done ?_
 refine NW.next ?_
 refine CW.block ?_
 refine CW.loop (fun n1 a w1 => ∃ (it3_0 : Int) (it4_0 : Int), Sat 33 [(0, .slice A1 p0.length c_1), (3, .int .i64 it3_0), (4, .int .i64 it4_0)] a ∧ w.heap.size ≤ w1.heap.size ∧ Sl kDeviceR w1.heap (okL [(0, some w.heap.size, none)]) A1 p0 ∧ Ext w w1 ∧ hermitagelaw0_DevicesWeight.l0 p0 n1 it3_0 it4_0 = some r) k ?_ ?_
 · exact fun a ha => ⟨(p0.length : Int), 0, ha.sub ⟨rfl, rfl, rfl, trivial⟩, by omega, h1, x0, H⟩
 intro n1 a w1 hI hp
 obtain ⟨it3_0, it4_0, hS, hle, gF1_0, x0_0, H⟩ := hI
 cases n1 with
 | zero => cases H
 | succ n1 =>
  rw [hermitagelaw0_DevicesWeight.l0] at H
  refine CW.go hp hS ?_
  refine CW.seq ?_
  refine CW.seqJ (fun a w2 => ∃ (bt14_1 : Bool), Sat 33 [(0, .slice A1 p0.length c_1), (3, .int .i64 it3_0), (4, .int .i64 it4_0), (14, .bool bt14_1)] a ∧ w1.heap.size ≤ w2.heap.size ∧ Sl kDeviceR w2.heap (okL [(0, some w.heap.size, none)]) A1 p0 ∧ Ext w w2 ∧ hermitagelaw0_DevicesWeight.j0 p0 it3_0 it4_0 (hermitagelaw0_DevicesWeight.l0 p0 n1) bt14_1 = some r) ?_ ?_
  ·
   refine CW.lex [.W, .W, .W, .W, .W, .W, .W, .W] rfl ?_
   refine RW.pure tabOk 5 rfl ?_
   by_cases c1 : it4_0 < (p0.length : Int)
   ·
    rw [if_pos c1] at H
    refine RW.bool 11 (b' := true) (decide_eq_true c1) rfl ?_
    refine RW.pure tabOk 3 rfl ?_
    refine RW.done ?_
    exact NW.J fun a ha => ⟨(decide (it3_0 < 1048576)), ha.sub ⟨rfl, rfl, rfl, rfl, trivial⟩, by omega, gF1_0, x0_0, H⟩
   ·
    rw [if_neg c1] at H
    refine RW.bool 11 (b' := false) (decide_eq_false c1) rfl ?_
    refine RW.pure tabOk 3 rfl ?_
    refine RW.done ?_
    exact NW.J fun a ha => ⟨false, ha.sub ⟨rfl, rfl, rfl, rfl, trivial⟩, by omega, gF1_0, x0_0, H⟩
  intro a w2 hJ hp
  obtain ⟨bt14_1, hS, hle, gF1_1, x0_1, H⟩ := hJ
  unfold hermitagelaw0_DevicesWeight.j0 at H
  refine CW.go hp hS ?_
  by_cases c2 : bt14_1 = true
  ·
   rw [if_pos c2] at H
   refine CW.cond_t rfl (c2) ?_
   refine CW.skip ?_
   refine NW.next ?_
   refine CW.seq ?_
   refine CW.block ?_
   refine CW.ord [0, 0, 0, 6, 14, 30, 62, 127, 0, 0, 768, 1792, 3840, 7936, 16383, 32767] (ofL [(0, .W), (1, .W), (2, .W), (3, .W), (4, .W), (8, .W), (9, .W), (10, .W), (11, .W), (5, .L), (6, .W), (7, .W), (12, .L), (13, .W), (14, .W), (15, .W)] .nil) mixed (by kernel_rfl) ?_
   intro w3 x1
   have sx1 := x1.size
   refine RW.pure tabOk 3 rfl ?_
   obtain ⟨g1, H⟩ := guard_some H
   have h2 := gF1_1.ext x1
   obtain ⟨ad1, A2, c_2, A3, c_3, e1, a1, l1, h3, l2, h4⟩ := kDeviceR_at h2 g1.1 g1.2
   refine RW.index tabOk g1.1 g1.2 e1 ⟨rfl, rfl, rfl, rfl⟩ rfl rfl rfl rfl rfl rfl ?_
   refine RW.pure tabOk 3 rfl ?_
   obtain ⟨g2, H⟩ := guard_some H
   obtain ⟨ad2, A4, c_4, A5, c_5, e2, a2, l3, h5, l4, h6⟩ := kDeviceR_at h2 g2.1 g2.2
   refine RW.index tabOk g2.1 g2.2 e2 ⟨rfl, rfl, rfl, rfl⟩ rfl rfl rfl rfl rfl rfl ?_
   refine RW.pure tabOk 1 rfl ?_
   refine RW.load tabOk [.slice A2 ((rd p0 it4_0).Free).length c_2] ((a1.fld 2).take 1 rfl) ⟨rfl, rfl, rfl, rfl⟩ rfl rfl rfl rfl ?_
   refine RW.pure tabOk 2 rfl ?_
   refine RW.load tabOk [.slice A5 ((rd p0 it4_0).Late).length c_5] (a2.fld 3) ⟨rfl, rfl, rfl, rfl⟩ rfl rfl rfl rfl ?_
   refine RW.pure tabOk 3 rfl ?_
   refine RW.done ?_
   refine NW.norm_block (NW.next ?_)
   refine CW.lex [.W, .W, .W] rfl ?_
   refine RW.pure tabOk 3 rfl ?_
   refine RW.done ?_
   have h7 := Ext.trans x0_1 x1
   exact NW.J fun a ha => ⟨n1, Nat.lt_succ_self n1, (w64 ((w64 (it3_0 + (((rd p0 it4_0).Free).length : Int))) + (((rd p0 it4_0).Late).length : Int))), (w64 (it4_0 + 1)), ha.sub ⟨rfl, rfl, rfl, trivial⟩, by omega, h2, h7, H⟩
  ·
   rw [if_neg c2] at H
   refine CW.cond_f rfl (bool_f c2) ?_
   refine CW.exit ?_
   refine NW.exit_then (NW.exit_then (NW.exit_hit ?_))
   refine NW.next ?_
   refine CW.seq ?_
   refine CW.lex [.W, .W] rfl ?_
   refine RW.pure tabOk 2 rfl ?_
   refine RW.done ?_
   refine NW.next ?_
   refine CW.ret ?_
   obtain rfl := Option.some.inj H
   exact NW.ret1 rfl (by rfl) ⟨rfl, x0_1⟩

set_option maxHeartbeats 4000000 in
set_option maxRecDepth 100000 in
theorem hermitagelaw7_Heavy.calls (k : Nat) (p0 : Script) (A1 : Option Addr) (c_1 : Nat) (A2 : Option Addr) (c_2 : Nat) (r : Bool) (w : World) (hs1 : Sl kDeviceR w.heap okAll A1 p0.L) (hl1 : p0.L.length ≤ c_1) (hs2 : Sl kActR w.heap okAll A2 p0.A) (hl2 : p0.A.length ≤ c_2) (H : hermitagelaw7_Heavy.f k p0 = some r) :
    Calls Tryd.prog 36 #[.agg #[.slice A1 p0.L.length c_1, .slice A2 p0.A.length c_2]] w fun e w' => e = .returned (.bool r) ∧ Ext w w' := by
 have h1 : Sl kDeviceR w.heap (okL [(0, some w.heap.size, none)]) A1 p0.L := hs1.old _ rfl
 have h2 : Sl kActR w.heap (okL [(0, some w.heap.size, none)]) A2 p0.A := hs2.old _ rfl
 have x0 : Ext w w := Upd.refl _ w
 unfold hermitagelaw7_Heavy.f at H
 refine calls_start Tryd.func36 rfl 34 rfl [.agg #[.slice A1 p0.L.length c_1, .slice A2 p0.A.length c_2]] rfl ?_
 refine CW.seq ?_
 refine CW.lex [.X, .W] rfl ?_
 refine RW.box (cs := [.slice A1 p0.L.length c_1, .slice A2 p0.A.length c_2]) (.inl rfl) ⟨rfl, rfl, rfl, rfl⟩ rfl rfl rfl ?_
 intro b1 w1 x1 l1 h3
 have sx1 := x1.size
 have ltb1 := h3.lt
 refine RW.pure tabOk 1 rfl ?_
 refine RW.done ?_
 refine NW.next ?_
 refine CW.seq ?_
 refine CW.ord [0, 1, 3, 0, 8, 24, 63, 127] (ofL [(0, .W), (3, .W), (1, .L), (4, .L), (5, .W), (2, .X), (6, .W), (7, .W)] .nil) mixed (by kernel_rfl) ?_
 intro w2 x2
 have sx2 := x2.size
 refine RW.pure tabOk 2 rfl ?_
 have h4 := h3.ext x2
 refine RW.load tabOk [.slice A1 p0.L.length c_1] ((h4.at 0).take 1 rfl) ⟨rfl, rfl, rfl, rfl⟩ rfl rfl rfl rfl ?_
 refine RW.load tabOk [.slice A2 p0.A.length c_2] (h4.at 1) ⟨rfl, rfl, rfl, rfl⟩ rfl rfl rfl rfl ?_
 refine RW.pure tabOk 1 rfl ?_
 have h5 := (h1.ext x1).ext x2
 obtain ⟨y1, h6, H⟩ := bind_some H
 refine RW.callF (.inl rfl) ent65 ⟨rfl, rfl, rfl, rfl⟩ rfl rfl (hermitagelaw0_DevicesWeight.calls k A1 c_1 p0.L _ _ h5.all hl1 h6) ?_
 rintro _ w3 ⟨rfl, x3⟩
 refine ⟨_, rfl, x3, ?_⟩
 have sx3 := x3.size
 refine RW.pure tabOk 2 rfl ?_
 refine RW.done ?_
 refine NW.next ?_
 refine CW.seq ?_
 refine CW.seq ?_
 refine CW.lex [.W] rfl ?_
 refine RW.pure tabOk 1 rfl ?_
 refine RW.done ?_
 refine NW.next ?_
 refine CW.block ?_
 refine CW.loop (fun n1 a w4 => ∃ (it3_0 : Int) (it4_0 : Int), Sat 34 [(1, .pointer (some ⟨b1, 0, none⟩)), (3, .int .i64 it3_0), (4, .int .i64 it4_0)] a ∧ w3.heap.size ≤ w4.heap.size ∧ Sl kDeviceR w4.heap (okL [(0, some w.heap.size, none)]) A1 p0.L ∧ Sl kActR w4.heap (okL [(0, some w.heap.size, none)]) A2 p0.A ∧ Ext w w4 ∧ Box w4.heap b1 59 [.slice A1 p0.L.length c_1, .slice A2 p0.A.length c_2] ∧ hermitagelaw7_Heavy.l0 p0 n1 it3_0 it4_0 = some r) k ?_ ?_
 have h7 := h5.ext x3
 have h8 := ((h2.ext x1).ext x2).ext x3
 have h9 := Ext.trans (Ext.trans (Ext.trans x0 x1) x2) x3
 have h10 := h4.ext x3
 · exact fun a ha => ⟨(w64 (y1 + (p0.A.length : Int))), 0, ha.sub ⟨rfl, rfl, rfl, trivial⟩, by omega, h7, h8, h9, h10, H⟩
 intro n1 a w4 hI hp
 obtain ⟨it3_0, it4_0, hS, hle, gF1_0, gF2_0, x0_0, gb1_0, H⟩ := hI
 cases n1 with
 | zero => cases H
 | succ n1 =>
  rw [hermitagelaw7_Heavy.l0] at H
  refine CW.go hp hS ?_
  refine CW.seq ?_
  refine CW.seqJ (fun a w5 => ∃ (bt20_1 : Bool), Sat 34 [(1, .pointer (some ⟨b1, 0, none⟩)), (3, .int .i64 it3_0), (4, .int .i64 it4_0), (20, .bool bt20_1)] a ∧ w4.heap.size ≤ w5.heap.size ∧ Sl kDeviceR w5.heap (okL [(0, some w.heap.size, none)]) A1 p0.L ∧ Sl kActR w5.heap (okL [(0, some w.heap.size, none)]) A2 p0.A ∧ Ext w w5 ∧ Box w5.heap b1 59 [.slice A1 p0.L.length c_1, .slice A2 p0.A.length c_2] ∧ hermitagelaw7_Heavy.j0 p0 it3_0 it4_0 (hermitagelaw7_Heavy.l0 p0 n1) bt20_1 = some r) ?_ ?_
  ·
   refine CW.lex [.W, .W, .L, .W, .W, .W, .W, .W, .W] rfl ?_
   refine RW.pure tabOk 2 rfl ?_
   refine RW.load tabOk [.slice A2 p0.A.length c_2] (gb1_0.at 1) ⟨rfl, rfl, rfl, rfl⟩ rfl rfl rfl rfl ?_
   refine RW.pure tabOk 3 rfl ?_
   by_cases c1 : it4_0 < (p0.A.length : Int)
   ·
    rw [if_pos c1] at H
    refine RW.bool 17 (b' := true) (decide_eq_true c1) rfl ?_
    refine RW.pure tabOk 3 rfl ?_
    refine RW.done ?_
    exact NW.J fun a ha => ⟨(decide (it3_0 < 1048576)), ha.sub ⟨rfl, rfl, rfl, rfl, trivial⟩, by omega, gF1_0, gF2_0, x0_0, gb1_0, H⟩
   ·
    rw [if_neg c1] at H
    refine RW.bool 17 (b' := false) (decide_eq_false c1) rfl ?_
    refine RW.pure tabOk 3 rfl ?_
    refine RW.done ?_
    exact NW.J fun a ha => ⟨false, ha.sub ⟨rfl, rfl, rfl, rfl, trivial⟩, by omega, gF1_0, gF2_0, x0_0, gb1_0, H⟩
  intro a w5 hJ hp
  obtain ⟨bt20_1, hS, hle, gF1_1, gF2_1, x0_1, gb1_1, H⟩ := hJ
  unfold hermitagelaw7_Heavy.j0 at H
  refine CW.go hp hS ?_
  by_cases c2 : bt20_1 = true
  ·
   rw [if_pos c2] at H
   refine CW.cond_t rfl (c2) ?_
   refine CW.skip ?_
   refine NW.next ?_
   refine CW.seq ?_
   refine CW.block ?_
   refine CW.lex [.W, .W, .L, .W, .W, .W, .L, .W, .W, .W] rfl ?_
   refine RW.pure tabOk 2 rfl ?_
   refine RW.load tabOk [.slice A2 p0.A.length c_2] (gb1_1.at 1) ⟨rfl, rfl, rfl, rfl⟩ rfl rfl rfl rfl ?_
   refine RW.pure tabOk 1 rfl ?_
   obtain ⟨g1, H⟩ := guard_some H
   obtain ⟨ad1, A3, c_3, e1, a1, l2, h11⟩ := kActR_at gF2_1 g1.1 g1.2
   refine RW.index tabOk g1.1 g1.2 e1 ⟨rfl, rfl, rfl, rfl⟩ rfl rfl rfl rfl rfl rfl ?_
   refine RW.pure tabOk 1 rfl ?_
   refine RW.load tabOk [.slice A3 ((rd p0.A it4_0).P).length c_3] (a1.fld 3) ⟨rfl, rfl, rfl, rfl⟩ rfl rfl rfl rfl ?_
   refine RW.pure tabOk 3 rfl ?_
   refine RW.done ?_
   refine NW.norm_block (NW.next ?_)
   refine CW.lex [.W, .W, .W] rfl ?_
   refine RW.pure tabOk 3 rfl ?_
   refine RW.done ?_
   exact NW.J fun a ha => ⟨n1, Nat.lt_succ_self n1, (w64 (it3_0 + (((rd p0.A it4_0).P).length : Int))), (w64 (it4_0 + 1)), ha.sub ⟨rfl, rfl, rfl, trivial⟩, by omega, gF1_1, gF2_1, x0_1, gb1_1, H⟩
  ·
   rw [if_neg c2] at H
   refine CW.cond_f rfl (bool_f c2) ?_
   refine CW.exit ?_
   refine NW.exit_then (NW.exit_then (NW.exit_hit ?_))
   refine NW.next ?_
   refine CW.seq ?_
   refine CW.lex [.W, .W, .W] rfl ?_
   refine RW.pure tabOk 3 rfl ?_
   refine RW.done ?_
   refine NW.next ?_
   refine CW.ret ?_
   obtain rfl := Option.some.inj H
   exact NW.ret1 rfl (by rfl) ⟨rfl, x0_1⟩

set_option maxHeartbeats 4000000 in
set_option maxRecDepth 100000 in
theorem hermitagelaw7_num.calls (p0 : Int) (r : Int) (w : World) (H : hermitagelaw7_num.f p0 = some r) :
    Calls Tryd.prog 38 #[.int .i64 p0] w fun e w' => e = .returned (.int .i64 r) ∧ Ext w w' := by
 have x0 : Ext w w := Upd.refl _ w
 unfold hermitagelaw7_num.f at H
 refine calls_start Tryd.func38 rfl 4 rfl [.int .i64 p0] rfl ?_
 refine CW.seq ?_
 refine CW.lex [.W] rfl ?_
 refine RW.pure tabOk 1 rfl ?_
 refine RW.done ?_
 refine NW.next ?_
 refine CW.seq ?_
 refine CW.lex [.W, .W] rfl ?_
 refine RW.pure tabOk 2 rfl ?_
 refine RW.done ?_
 refine NW.next ?_
 refine CW.ret ?_
 obtain rfl := Option.some.inj H
 exact NW.ret1 rfl (by rfl) ⟨rfl, x0⟩

set_option maxHeartbeats 4000000 in
set_option maxRecDepth 100000 in
theorem seg_To.calls (p0 : Int) (r : Int) (w : World) (H : seg_To.f p0 = some r) :
    Calls Tryd.prog 58 #[.int .i64 p0] w fun e w' => e = .returned (.int .u64 r) ∧ Ext w w' := by
 have x0 : Ext w w := Upd.refl _ w
 unfold seg_To.f at H
 refine calls_start Tryd.func58 rfl 8 rfl [.int .i64 p0] rfl ?_
 refine CW.seq ?_
 refine CW.lex [.W] rfl ?_
 refine RW.pure tabOk 1 rfl ?_
 refine RW.done ?_
 refine NW.next ?_
 refine CW.seq ?_
 refine CW.seq ?_
 refine CW.lex [.W, .W] rfl ?_
 refine RW.pure tabOk 2 rfl ?_
 refine RW.done ?_
 refine NW.next ?_
 by_cases c1 : 64 ≤ p0
 ·
  rw [if_pos c1] at H
  refine CW.cond_t rfl (decide_eq_true c1) ?_
  refine CW.seq ?_
  refine CW.lex [.W] rfl ?_
  refine RW.pure tabOk 1 rfl ?_
  refine RW.done ?_
  refine NW.next ?_
  refine CW.ret ?_
  refine NW.ret_then ?_
  obtain rfl := Option.some.inj H
  exact NW.ret1 rfl (by rfl) ⟨rfl, x0⟩
 ·
  rw [if_neg c1] at H
  refine CW.cond_f rfl (decide_eq_false c1) ?_
  refine CW.skip ?_
  refine NW.next ?_
  refine CW.seq ?_
  refine CW.lex [.W, .W, .W, .W] rfl ?_
  refine RW.pure tabOk 1 rfl ?_
  obtain ⟨g1, H⟩ := guard_some H
  refine RW.shift g1 ⟨rfl, rfl, rfl, rfl⟩ rfl rfl rfl rfl ?_
  refine RW.pure tabOk 2 rfl ?_
  refine RW.done ?_
  refine NW.next ?_
  refine CW.ret ?_
  obtain rfl := Option.some.inj H
  exact NW.ret1 rfl (by rfl) ⟨rfl, x0⟩

set_option maxHeartbeats 4000000 in
set_option maxRecDepth 100000 in
theorem seg_Make.calls (k : Nat) (A1 : Option Addr) (c_1 : Nat) (p0 : List Seg) (r : Int) (w : World) (hs1 : Sl kSeg w.heap okAll A1 p0) (hl1 : p0.length ≤ c_1) (H : seg_Make.f k p0 = some r) :
    Calls Tryd.prog 52 #[.slice A1 p0.length c_1] w fun e w' => e = .returned (.int .u64 r) ∧ Ext w w' := by
 have h1 : Sl kSeg w.heap (okL [(0, some w.heap.size, none)]) A1 p0 := hs1.old _ rfl
 have x0 : Ext w w := Upd.refl _ w
 unfold seg_Make.f at H
 refine calls_start Tryd.func52 rfl 26 rfl [.slice A1 p0.length c_1] rfl ?_
 refine CW.seq ?_
 refine CW.lex [.W] rfl ?_
 refine RW.pure tabOk 1 rfl ?_
 refine RW.done ?_
 refine NW.next ?_
 refine CW.seq ?_
 refine CW.lex [.W] rfl ?_
 refine RW.pure tabOk 1 rfl ?_
 refine RW.done ?_
 refine NW.next ?_
 refine CW.seq ?_
 refine CW.seq ?_
 refine CW.lex [.W, .W, .W] rfl ?_
 refine RW.pure tabOk 3 rfl ?_
 refine RW.done ?_
 refine NW.next ?_
 refine CW.block ?_
 refine CW.loop (fun n1 a w1 => ∃ (it3_0 : Int) (it8_0 : Int), Sat 26 [(3, .int .u64 it3_0), (6, .slice A1 p0.length c_1), (7, .int .i64 (p0.length : Int)), (8, .int .i64 it8_0)] a ∧ w.heap.size ≤ w1.heap.size ∧ Sl kSeg w1.heap (okL [(0, some w.heap.size, none)]) A1 p0 ∧ Ext w w1 ∧ seg_Make.l0 p0 n1 it3_0 it8_0 = some r) k ?_ ?_
 · exact fun a ha => ⟨0, 0, ha.sub ⟨rfl, rfl, rfl, rfl, trivial⟩, by omega, h1, x0, H⟩
 intro n1 a w1 hI hp
 obtain ⟨it3_0, it8_0, hS, hle, gF1_0, x0_0, H⟩ := hI
 cases n1 with
 | zero => cases H
 | succ n1 =>
  rw [seg_Make.l0] at H
  refine CW.go hp hS ?_
  refine CW.seq ?_
  refine CW.lex [.W] rfl ?_
  refine RW.pure tabOk 1 rfl ?_
  refine RW.done ?_
  refine NW.next ?_
  refine CW.seq ?_
  by_cases c1 : it8_0 < (p0.length : Int)
  ·
   rw [if_pos c1] at H
   refine CW.cond_t rfl (decide_eq_true c1) ?_
   refine CW.skip ?_
   refine NW.next ?_
   refine CW.seq ?_
   refine CW.block ?_
   refine CW.seq ?_
   refine CW.lex [.W, .L, .X, .M] rfl ?_
   obtain ⟨g1, H⟩ := guard_some H
   obtain ⟨ad1, e1, a1⟩ := kSeg_at gF1_0 g1.1 g1.2
   refine RW.index tabOk g1.1 g1.2 e1 ⟨rfl, rfl, rfl, rfl⟩ rfl rfl rfl rfl rfl rfl ?_
   refine RW.load tabOk [.int .i64 ((rd p0 it8_0).At), .int .i64 ((rd p0 it8_0).Len)] a1 ⟨rfl, rfl, rfl, rfl⟩ rfl rfl rfl rfl ?_
   refine RW.alloc tabOk (.inl rfl) ⟨rfl, rfl, rfl, rfl⟩ rfl rfl ?_
   intro b1 w2 x1 l1 h2
   have sx1 := x1.size
   have ltb1 := h2.lt
   refine RW.storeBox tabOk h2 [.int .i64 ((rd p0 it8_0).At), .int .i64 ((rd p0 it8_0).Len)] ⟨rfl, rfl, rfl⟩ rfl rfl rfl rfl rfl rfl rfl rfl ?_
   intro w3 x2 h3
   have h4 : Box w3.heap b1 93 [.int .i64 ((rd p0 it8_0).At), .int .i64 ((rd p0 it8_0).Len)] := h3
   have sx2 := x2.size
   refine RW.done ?_
   refine NW.next ?_
   refine CW.ord [0, 0, 2, 0, 8, 30, 62, 0, 128, 510, 1022, 2047, 4095] (ofL [(0, .W), (1, .W), (3, .W), (7, .W), (2, .L), (4, .L), (5, .W), (8, .L), (6, .X), (9, .X), (10, .W), (11, .W), (12, .W)] .nil) mixed (by kernel_rfl) ?_
   intro w4 x3
   have sx3 := x3.size
   refine RW.pure tabOk 4 rfl ?_
   have h5 := h4.ext x3
   refine RW.load tabOk [.int .i64 ((rd p0 it8_0).At)] ((h5.at 0).take 1 rfl) ⟨rfl, rfl, rfl, rfl⟩ rfl rfl rfl rfl ?_
   refine RW.load tabOk [.int .i64 ((rd p0 it8_0).Len)] (h5.at 1) ⟨rfl, rfl, rfl, rfl⟩ rfl rfl rfl rfl ?_
   refine RW.pure tabOk 1 rfl ?_
   refine RW.load tabOk [.int .i64 ((rd p0 it8_0).At)] ((h5.at 0).take 1 rfl) ⟨rfl, rfl, rfl, rfl⟩ rfl rfl rfl rfl ?_
   obtain ⟨y1, h6, H⟩ := bind_some H
   refine RW.callF (.inl rfl) ent58 ⟨rfl, rfl, rfl, rfl⟩ rfl rfl (seg_To.calls (w64 (((rd p0 it8_0).At) + ((rd p0 it8_0).Len))) _ _ h6) ?_
   rintro _ w5 ⟨rfl, x4⟩
   refine ⟨_, rfl, x4, ?_⟩
   have sx4 := x4.size
   obtain ⟨y2, h7, H⟩ := bind_some H
   refine RW.callF (.inl rfl) ent58 ⟨rfl, rfl, rfl, rfl⟩ rfl rfl (seg_To.calls ((rd p0 it8_0).At) _ _ h7) ?_
   rintro _ w6 ⟨rfl, x5⟩
   refine ⟨_, rfl, x5, ?_⟩
   have sx5 := x5.size
   refine RW.pure tabOk 3 rfl ?_
   refine RW.done ?_
   refine NW.norm_block (NW.next ?_)
   refine CW.lex [.W, .W] rfl ?_
   refine RW.pure tabOk 2 rfl ?_
   refine RW.done ?_
   have h8 := ((((gF1_0.ext x1).turnB x2 h2 ⟨.inr (by omega), trivial⟩).ext x3).ext x4).ext x5
   have h9 := Ext.trans (Ext.trans (Ext.trans (Ext.turnB (Ext.trans x0_0 x1) x2 (by omega)) x3) x4) x5
   exact NW.J fun a ha => ⟨n1, Nat.lt_succ_self n1, (uor it3_0 (uandn y1 y2)), (w64 (it8_0 + 1)), ha.sub ⟨rfl, rfl, rfl, rfl, trivial⟩, by omega, h8, h9, H⟩
  ·
   rw [if_neg c1] at H
   refine CW.cond_f rfl (decide_eq_false c1) ?_
   refine CW.exit ?_
   refine NW.exit_then (NW.exit_then (NW.exit_hit ?_))
   refine NW.next ?_
   refine CW.seq ?_
   refine CW.lex [.W, .W] rfl ?_
   refine RW.pure tabOk 2 rfl ?_
   refine RW.done ?_
   refine NW.next ?_
   refine CW.ret ?_
   obtain rfl := Option.some.inj H
   exact NW.ret1 rfl (by rfl) ⟨rfl, x0_0⟩

set_option maxHeartbeats 4000000 in
set_option maxRecDepth 100000 in
theorem seg_May.calls (k : Nat) (A1 : Option Addr) (c_1 : Nat) (p0 : List Seg) (r : Bool) (w : World) (hs1 : Sl kSeg w.heap okAll A1 p0) (hl1 : p0.length ≤ c_1) (H : seg_May.f k p0 = some r) :
    Calls Tryd.prog 51 #[.slice A1 p0.length c_1] w fun e w' => e = .returned (.bool r) ∧ Ext w w' := by
 have h1 : Sl kSeg w.heap (okL [(0, some w.heap.size, none)]) A1 p0 := hs1.old _ rfl
 have x0 : Ext w w := Upd.refl _ w
 unfold seg_May.f at H
 refine calls_start Tryd.func51 rfl 56 rfl [.slice A1 p0.length c_1] rfl ?_
 refine CW.seq ?_
 refine CW.lex [.W] rfl ?_
 refine RW.pure tabOk 1 rfl ?_
 refine RW.done ?_
 refine NW.next ?_
 refine CW.seq ?_
 refine CW.seq ?_
 refine CW.lex [.W, .W, .W] rfl ?_
 refine RW.pure tabOk 3 rfl ?_
 refine RW.done ?_
 refine NW.next ?_
 refine CW.block ?_
 refine CW.loop (fun n1 a w1 => ∃ (it7_0 : Int), Sat 56 [(0, .slice A1 p0.length c_1), (5, .slice A1 p0.length c_1), (6, .int .i64 (p0.length : Int)), (7, .int .i64 it7_0)] a ∧ w.heap.size ≤ w1.heap.size ∧ Sl kSeg w1.heap (okL [(0, some w.heap.size, none)]) A1 p0 ∧ Ext w w1 ∧ seg_May.l0 p0 n1 it7_0 = some r) k ?_ ?_
 · exact fun a ha => ⟨0, ha.sub ⟨rfl, rfl, rfl, rfl, trivial⟩, by omega, h1, x0, H⟩
 intro n1 a w1 hI hp
 obtain ⟨it7_0, hS, hle, gF1_0, x0_0, H⟩ := hI
 cases n1 with
 | zero => cases H
 | succ n1 =>
  rw [seg_May.l0] at H
  refine CW.go hp hS ?_
  refine CW.seq ?_
  refine CW.lex [.W] rfl ?_
  refine RW.pure tabOk 1 rfl ?_
  refine RW.done ?_
  refine NW.next ?_
  refine CW.seq ?_
  by_cases c1 : it7_0 < (p0.length : Int)
  ·
   rw [if_pos c1] at H
   refine CW.cond_t rfl (decide_eq_true c1) ?_
   refine CW.skip ?_
   refine NW.next ?_
   refine CW.seq ?_
   refine CW.block ?_
   refine CW.seq ?_
   refine CW.lex [.W, .W, .L, .X, .W, .M] rfl ?_
   refine RW.pure tabOk 1 rfl ?_
   obtain ⟨g1, H⟩ := guard_some H
   obtain ⟨ad1, e1, a1⟩ := kSeg_at gF1_0 g1.1 g1.2
   refine RW.index tabOk g1.1 g1.2 e1 ⟨rfl, rfl, rfl, rfl⟩ rfl rfl rfl rfl rfl rfl ?_
   refine RW.load tabOk [.int .i64 ((rd p0 it7_0).At), .int .i64 ((rd p0 it7_0).Len)] a1 ⟨rfl, rfl, rfl, rfl⟩ rfl rfl rfl rfl ?_
   refine RW.alloc tabOk (.inl rfl) ⟨rfl, rfl, rfl, rfl⟩ rfl rfl ?_
   intro b1 w2 x1 l1 h2
   have sx1 := x1.size
   have ltb1 := h2.lt
   refine RW.pure tabOk 1 rfl ?_
   refine RW.storeBox tabOk h2 [.int .i64 ((rd p0 it7_0).At), .int .i64 ((rd p0 it7_0).Len)] ⟨rfl, rfl, rfl⟩ rfl rfl rfl rfl rfl rfl rfl rfl ?_
   intro w3 x2 h3
   have h4 : Box w3.heap b1 93 [.int .i64 ((rd p0 it7_0).At), .int .i64 ((rd p0 it7_0).Len)] := h3
   have sx2 := x2.size
   refine RW.done ?_
   refine NW.next ?_
   refine CW.seqJ (fun a w4 => ∃ (bt54_1 : Bool), Sat 56 [(0, .slice A1 p0.length c_1), (5, .slice A1 p0.length c_1), (6, .int .i64 (p0.length : Int)), (7, .int .i64 it7_0), (54, .bool bt54_1)] a ∧ w3.heap.size ≤ w4.heap.size ∧ Sl kSeg w4.heap (okL [(0, some w.heap.size, none)]) A1 p0 ∧ Ext w w4 ∧ seg_May.j0 it7_0 (seg_May.l0 p0 n1) bt54_1 = some r) ?_ ?_
   ·
    refine CW.ord [0, 1, 3, 7, 15, 31, 63, 127, 255, 511, 1023, 2047, 4095, 8191, 16383, 32767, 16383, 81919, 212991, 524287, 1048575, 2097151, 4194303, 8388607, 16777215, 33554431, 67108863, 33554431, 33554431, 301989887, 973078527, 2046820351, 4194303999, 33554431, 33554431, 17213423615, 60163096575, 128882573311, 266321526783, 549655150591, 1099511627775, 2199023255551, 4398046511103] (ofL [(0, .W), (1, .L), (2, .W), (3, .W), (4, .W), (5, .L), (6, .W), (7, .W), (8, .W), (9, .W), (10, .L), (11, .W), (12, .W), (13, .W), (14, .W), (16, .W), (15, .L), (17, .L), (18, .W), (19, .W), (20, .W), (21, .W), (22, .W), (23, .W), (24, .W), (25, .W), (27, .W), (28, .W), (29, .W), (30, .W), (31, .W), (33, .W), (34, .W), (35, .W), (36, .W), (37, .W), (26, .L), (32, .L), (38, .L), (39, .W), (40, .W), (41, .W), (42, .W)] .nil) mixed (by kernel_rfl) ?_
    intro w5 x3
    have sx3 := x3.size
    refine RW.pure tabOk 1 rfl ?_
    have h5 := h4.ext x3
    refine RW.load tabOk [.int .i64 ((rd p0 it7_0).At)] ((h5.at 0).take 1 rfl) ⟨rfl, rfl, rfl, rfl⟩ rfl rfl rfl rfl ?_
    refine RW.pure tabOk 2 rfl ?_
    by_cases c2 : ((rd p0 it7_0).At) < 0
    ·
     rw [if_pos c2] at H
     refine RW.bool 15 (b' := true) (decide_eq_true c2) rfl ?_
     refine RW.pure tabOk 39 rfl ?_
     refine RW.done ?_
     have h6 := ((gF1_0.ext x1).turnB x2 h2 ⟨.inr (by omega), trivial⟩).ext x3
     have h7 := Ext.trans (Ext.turnB (Ext.trans x0_0 x1) x2 (by omega)) x3
     exact NW.J fun a ha => ⟨true, ha.sub ⟨rfl, rfl, rfl, rfl, rfl, trivial⟩, by omega, h6, h7, H⟩
    ·
     rw [if_neg c2] at H
     refine RW.bool 15 (b' := false) (decide_eq_false c2) rfl ?_
     refine RW.pure tabOk 1 rfl ?_
     refine RW.load tabOk [.int .i64 ((rd p0 it7_0).Len)] (h5.at 1) ⟨rfl, rfl, rfl, rfl⟩ rfl rfl rfl rfl ?_
     refine RW.pure tabOk 3 rfl ?_
     by_cases c3 : ((rd p0 it7_0).Len) < 1
     ·
      rw [if_pos c3] at H
      refine RW.bool 20 (b' := true) (decide_eq_true c3) rfl ?_
      refine RW.pure tabOk 34 rfl ?_
      refine RW.done ?_
      have h8 := ((gF1_0.ext x1).turnB x2 h2 ⟨.inr (by omega), trivial⟩).ext x3
      have h9 := Ext.trans (Ext.turnB (Ext.trans x0_0 x1) x2 (by omega)) x3
      exact NW.J fun a ha => ⟨true, ha.sub ⟨rfl, rfl, rfl, rfl, rfl, trivial⟩, by omega, h8, h9, H⟩
     ·
      rw [if_neg c3] at H
      refine RW.bool 20 (b' := false) (decide_eq_false c3) rfl ?_
      refine RW.pure tabOk 1 rfl ?_
      refine RW.load tabOk [.int .i64 ((rd p0 it7_0).At)] ((h5.at 0).take 1 rfl) ⟨rfl, rfl, rfl, rfl⟩ rfl rfl rfl rfl ?_
      refine RW.pure tabOk 3 rfl ?_
      by_cases c4 : 64 < ((rd p0 it7_0).At)
      ·
       rw [if_pos c4] at H
       refine RW.bool 25 (b' := true) (decide_eq_true c4) rfl ?_
       refine RW.pure tabOk 29 rfl ?_
       refine RW.done ?_
       have h10 := ((gF1_0.ext x1).turnB x2 h2 ⟨.inr (by omega), trivial⟩).ext x3
       have h11 := Ext.trans (Ext.turnB (Ext.trans x0_0 x1) x2 (by omega)) x3
       exact NW.J fun a ha => ⟨true, ha.sub ⟨rfl, rfl, rfl, rfl, rfl, trivial⟩, by omega, h10, h11, H⟩
      ·
       rw [if_neg c4] at H
       refine RW.bool 25 (b' := false) (decide_eq_false c4) rfl ?_
       refine RW.pure tabOk 2 rfl ?_
       refine RW.load tabOk [.int .i64 ((rd p0 it7_0).Len)] (h5.at 1) ⟨rfl, rfl, rfl, rfl⟩ rfl rfl rfl rfl ?_
       refine RW.load tabOk [.int .i64 ((rd p0 it7_0).At)] ((h5.at 0).take 1 rfl) ⟨rfl, rfl, rfl, rfl⟩ rfl rfl rfl rfl ?_
       refine RW.pure tabOk 4 rfl ?_
       by_cases c5 : (w64 (64 - ((rd p0 it7_0).At))) < ((rd p0 it7_0).Len)
       ·
        rw [if_pos c5] at H
        refine RW.bool 33 (b' := true) (decide_eq_true c5) rfl ?_
        refine RW.pure tabOk 21 rfl ?_
        refine RW.done ?_
        have h12 := ((gF1_0.ext x1).turnB x2 h2 ⟨.inr (by omega), trivial⟩).ext x3
        have h13 := Ext.trans (Ext.turnB (Ext.trans x0_0 x1) x2 (by omega)) x3
        exact NW.J fun a ha => ⟨true, ha.sub ⟨rfl, rfl, rfl, rfl, rfl, trivial⟩, by omega, h12, h13, H⟩
       ·
        rw [if_neg c5] at H
        refine RW.bool 33 (b' := false) (decide_eq_false c5) rfl ?_
        refine RW.pure tabOk 3 rfl ?_
        by_cases c6 : 0 < it7_0
        ·
         rw [if_pos c6] at H
         refine RW.bool 36 (b' := true) (decide_eq_true c6) rfl ?_
         refine RW.pure tabOk 4 rfl ?_
         obtain ⟨g2, H⟩ := guard_some H
         have h14 := ((gF1_0.ext x1).turnB x2 h2 ⟨.inr (by omega), trivial⟩).ext x3
         obtain ⟨ad2, e2, a2⟩ := kSeg_at h14 g2.1 g2.2
         refine RW.index tabOk g2.1 g2.2 e2 ⟨rfl, rfl, rfl, rfl⟩ rfl rfl rfl rfl rfl rfl ?_
         refine RW.pure tabOk 4 rfl ?_
         obtain ⟨g3, H⟩ := guard_some H
         obtain ⟨ad3, e3, a3⟩ := kSeg_at h14 g3.1 g3.2
         refine RW.index tabOk g3.1 g3.2 e3 ⟨rfl, rfl, rfl, rfl⟩ rfl rfl rfl rfl rfl rfl ?_
         refine RW.pure tabOk 1 rfl ?_
         refine RW.load tabOk [.int .i64 ((rd p0 it7_0).At)] ((h5.at 0).take 1 rfl) ⟨rfl, rfl, rfl, rfl⟩ rfl rfl rfl rfl ?_
         refine RW.load tabOk [.int .i64 ((rd p0 (w64 (it7_0 - 1))).At)] ((a2.fld 0).take 1 rfl) ⟨rfl, rfl, rfl, rfl⟩ rfl rfl rfl rfl ?_
         refine RW.load tabOk [.int .i64 ((rd p0 (w64 (it7_0 - 1))).Len)] (a3.fld 1) ⟨rfl, rfl, rfl, rfl⟩ rfl rfl rfl rfl ?_
         refine RW.pure tabOk 4 rfl ?_
         refine RW.done ?_
         have h15 := Ext.trans (Ext.turnB (Ext.trans x0_0 x1) x2 (by omega)) x3
         exact NW.J fun a ha => ⟨(decide (((rd p0 it7_0).At) ≤ (w64 (((rd p0 (w64 (it7_0 - 1))).At) + ((rd p0 (w64 (it7_0 - 1))).Len))))), ha.sub ⟨rfl, rfl, rfl, rfl, rfl, trivial⟩, by omega, h14, h15, H⟩
        ·
         rw [if_neg c6] at H
         refine RW.bool 36 (b' := false) (decide_eq_false c6) rfl ?_
         refine RW.pure tabOk 18 rfl ?_
         refine RW.done ?_
         have h16 := ((gF1_0.ext x1).turnB x2 h2 ⟨.inr (by omega), trivial⟩).ext x3
         have h17 := Ext.trans (Ext.turnB (Ext.trans x0_0 x1) x2 (by omega)) x3
         exact NW.J fun a ha => ⟨false, ha.sub ⟨rfl, rfl, rfl, rfl, rfl, trivial⟩, by omega, h16, h17, H⟩
   intro a w4 hJ hp
   obtain ⟨bt54_1, hS, hle, gF1_1, x0_1, H⟩ := hJ
   unfold seg_May.j0 at H
   refine CW.go hp hS ?_
   by_cases c7 : bt54_1 = true
   ·
    rw [if_pos c7] at H
    refine CW.cond_t rfl (c7) ?_
    refine CW.seq ?_
    refine CW.lex [.W] rfl ?_
    refine RW.pure tabOk 1 rfl ?_
    refine RW.done ?_
    refine NW.next ?_
    refine CW.ret ?_
    refine NW.ret_block (NW.ret_then (NW.ret_then (NW.ret_block (NW.ret_then ?_))))
    obtain rfl := Option.some.inj H
    exact NW.ret1 rfl (by rfl) ⟨rfl, x0_1⟩
   ·
    rw [if_neg c7] at H
    refine CW.cond_f rfl (bool_f c7) ?_
    refine CW.skip ?_
    refine NW.norm_block (NW.next ?_)
    refine CW.lex [.W, .W] rfl ?_
    refine RW.pure tabOk 2 rfl ?_
    refine RW.done ?_
    exact NW.J fun a ha => ⟨n1, Nat.lt_succ_self n1, (w64 (it7_0 + 1)), ha.sub ⟨rfl, rfl, rfl, rfl, trivial⟩, by omega, gF1_1, x0_1, H⟩
  ·
   rw [if_neg c1] at H
   refine CW.cond_f rfl (decide_eq_false c1) ?_
   refine CW.exit ?_
   refine NW.exit_then (NW.exit_then (NW.exit_hit ?_))
   refine NW.next ?_
   refine CW.seq ?_
   refine CW.lex [.W] rfl ?_
   refine RW.pure tabOk 1 rfl ?_
   refine RW.done ?_
   refine NW.next ?_
   refine CW.ret ?_
   obtain rfl := Option.some.inj H
   exact NW.ret1 rfl (by rfl) ⟨rfl, x0_0⟩

set_option maxHeartbeats 4000000 in
set_option maxRecDepth 100000 in
theorem room_ok.calls (k : Nat) (A1 : Option Addr) (c_1 : Nat) (p0 : List Seg) (p1 : Int) (r : Bool) (w : World) (hs1 : Sl kSeg w.heap okAll A1 p0) (hl1 : p0.length ≤ c_1) (H : room_ok.f k p0 p1 = some r) :
    Calls Tryd.prog 101 #[.slice A1 p0.length c_1, .int .i64 p1] w fun e w' => e = .returned (.bool r) ∧ Ext w w' := by
 have h1 : Sl kSeg w.heap (okL [(0, some w.heap.size, none)]) A1 p0 := hs1.old _ rfl
 have x0 : Ext w w := Upd.refl _ w
 unfold room_ok.f at H
 refine calls_start Tryd.func101 rfl 15 rfl [.slice A1 p0.length c_1, .int .i64 p1] rfl ?_
 refine CW.seq ?_
 refine CW.lex [.W] rfl ?_
 refine RW.pure tabOk 1 rfl ?_
 refine RW.done ?_
 refine NW.next ?_
 refine CW.seq ?_
 refine CW.lex [.W, .X, .W, .W, .X, .W, .X, .W, .W, .W, .W] rfl ?_
 refine RW.pure tabOk 1 rfl ?_
 obtain ⟨y1, h2, H⟩ := bind_some H
 refine RW.callF (.inl rfl) ent51 ⟨rfl, rfl, rfl, rfl⟩ rfl rfl (seg_May.calls k A1 c_1 p0 _ _ h1.all hl1 h2) ?_
 rintro _ w1 ⟨rfl, x1⟩
 refine ⟨_, rfl, x1, ?_⟩
 have sx1 := x1.size
 refine RW.pure tabOk 1 rfl ?_
 by_cases c1 : y1 = true
 ·
  rw [if_pos c1] at H
  refine RW.bool 7 (b' := true) (c1) rfl ?_
  refine RW.pure tabOk 1 rfl ?_
  have h3 := h1.ext x1
  obtain ⟨y2, h4, H⟩ := bind_some H
  refine RW.callF (.inl rfl) ent52 ⟨rfl, rfl, rfl, rfl⟩ rfl rfl (seg_Make.calls k A1 c_1 p0 _ _ h3.all hl1 h4) ?_
  rintro _ w2 ⟨rfl, x2⟩
  refine ⟨_, rfl, x2, ?_⟩
  have sx2 := x2.size
  refine RW.pure tabOk 1 rfl ?_
  obtain ⟨y3, h5, H⟩ := bind_some H
  refine RW.callF (.inl rfl) ent58 ⟨rfl, rfl, rfl, rfl⟩ rfl rfl (seg_To.calls p1 _ _ h5) ?_
  rintro _ w3 ⟨rfl, x3⟩
  refine ⟨_, rfl, x3, ?_⟩
  have sx3 := x3.size
  refine RW.pure tabOk 4 rfl ?_
  refine RW.done ?_
  refine NW.next ?_
  refine CW.ret ?_
  obtain rfl := Option.some.inj H
  have h6 := Ext.trans (Ext.trans (Ext.trans x0 x1) x2) x3
  exact NW.ret1 rfl (by rfl) ⟨rfl, h6⟩
 ·
  rw [if_neg c1] at H
  refine RW.bool 7 (b' := false) (bool_f c1) rfl ?_
  refine RW.pure tabOk 8 rfl ?_
  refine RW.done ?_
  refine NW.next ?_
  refine CW.ret ?_
  obtain rfl := Option.some.inj H
  have h7 := Ext.trans x0 x1
  exact NW.ret1 rfl (by rfl) ⟨rfl, h7⟩

set_option maxHeartbeats 4000000 in
set_option maxRecDepth 100000 in
theorem room_Device.calls (k : Nat) (p0 : Device) (A1 : Option Addr) (c_1 : Nat) (A2 : Option Addr) (c_2 : Nat) (r : Bool) (w : World) (hs1 : Sl kSeg w.heap okAll A1 p0.Free) (hl1 : p0.Free.length ≤ c_1) (hs2 : Sl kSeg w.heap okAll A2 p0.Late) (hl2 : p0.Late.length ≤ c_2) (H : room_Device.f k p0 = some r) :
    Calls Tryd.prog 82 #[.agg #[.int .i64 p0.ID, .int .i64 p0.Size, .slice A1 p0.Free.length c_1, .slice A2 p0.Late.length c_2]] w fun e w' => e = .returned (.bool r) ∧ Ext w w' := by
 have h1 : Sl kSeg w.heap (okL [(0, some w.heap.size, none)]) A1 p0.Free := hs1.old _ rfl
 have h2 : Sl kSeg w.heap (okL [(0, some w.heap.size, none)]) A2 p0.Late := hs2.old _ rfl
 have x0 : Ext w w := Upd.refl _ w
 unfold room_Device.f at H
 refine calls_start Tryd.func82 rfl 45 rfl [.agg #[.int .i64 p0.ID, .int .i64 p0.Size, .slice A1 p0.Free.length c_1, .slice A2 p0.Late.length c_2]] rfl ?_
 refine CW.seq ?_
 refine CW.lex [.X, .W] rfl ?_
 refine RW.box (cs := [.int .i64 p0.ID, .int .i64 p0.Size, .slice A1 p0.Free.length c_1, .slice A2 p0.Late.length c_2]) (.inl rfl) ⟨rfl, rfl, rfl, rfl⟩ rfl rfl rfl ?_
 intro b1 w1 x1 l1 h3
 have sx1 := x1.size
 have ltb1 := h3.lt
 refine RW.pure tabOk 1 rfl ?_
 refine RW.done ?_
 refine NW.next ?_
 refine CW.seq ?_
 refine CW.ord [0, 1, 3, 7, 15, 31, 63, 127, 255, 511, 1023, 2047, 4095, 8191, 16383, 32767, 65535, 131071, 262143, 524287, 1048575, 524287, 2621439, 8388607, 16777215, 33554431, 67108863, 134217727, 67108863, 335544319, 1073741823, 2147483647, 4294967295, 8589934591, 17179869183, 34359738367, 8589934591, 77309411327, 274877906943, 549755813887, 1099511627775, 2199023255551, 4398046511103] (ofL [(0, .W), (1, .L), (2, .W), (3, .W), (4, .W), (5, .L), (6, .W), (7, .W), (8, .W), (9, .W), (10, .L), (11, .W), (12, .W), (13, .W), (14, .W), (15, .L), (16, .W), (17, .W), (18, .W), (19, .W), (21, .W), (20, .L), (22, .L), (23, .X), (24, .W), (25, .W), (26, .W), (28, .W), (27, .L), (29, .L), (30, .X), (31, .W), (32, .W), (33, .W), (36, .W), (34, .L), (37, .L), (35, .X), (38, .X), (39, .W), (40, .W), (41, .W), (42, .W)] .nil) mixed (by kernel_rfl) ?_
 intro w2 x2
 have sx2 := x2.size
 refine RW.pure tabOk 1 rfl ?_
 have h4 := h3.ext x2
 refine RW.load tabOk [.int .i64 p0.ID] ((h4.at 0).take 1 rfl) ⟨rfl, rfl, rfl, rfl⟩ rfl rfl rfl rfl ?_
 refine RW.pure tabOk 2 rfl ?_
 by_cases c1 : 1 ≤ p0.ID
 ·
  rw [if_pos c1] at H
  refine RW.bool 6 (b' := true) (decide_eq_true c1) rfl ?_
  refine RW.pure tabOk 1 rfl ?_
  refine RW.load tabOk [.int .i64 p0.ID] ((h4.at 0).take 1 rfl) ⟨rfl, rfl, rfl, rfl⟩ rfl rfl rfl rfl ?_
  refine RW.pure tabOk 3 rfl ?_
  by_cases c2 : p0.ID ≤ 40
  ·
   rw [if_pos c2] at H
   refine RW.bool 11 (b' := true) (decide_eq_true c2) rfl ?_
   refine RW.pure tabOk 1 rfl ?_
   refine RW.load tabOk [.int .i64 p0.Size] ((h4.at 1).take 1 rfl) ⟨rfl, rfl, rfl, rfl⟩ rfl rfl rfl rfl ?_
   refine RW.pure tabOk 3 rfl ?_
   by_cases c3 : 1 ≤ p0.Size
   ·
    rw [if_pos c3] at H
    refine RW.bool 16 (b' := true) (decide_eq_true c3) rfl ?_
    refine RW.pure tabOk 1 rfl ?_
    refine RW.load tabOk [.int .i64 p0.Size] ((h4.at 1).take 1 rfl) ⟨rfl, rfl, rfl, rfl⟩ rfl rfl rfl rfl ?_
    refine RW.pure tabOk 3 rfl ?_
    by_cases c4 : p0.Size ≤ 64
    ·
     rw [if_pos c4] at H
     refine RW.bool 21 (b' := true) (decide_eq_true c4) rfl ?_
     refine RW.pure tabOk 2 rfl ?_
     refine RW.load tabOk [.slice A1 p0.Free.length c_1] ((h4.at 2).take 1 rfl) ⟨rfl, rfl, rfl, rfl⟩ rfl rfl rfl rfl ?_
     refine RW.load tabOk [.int .i64 p0.Size] ((h4.at 1).take 1 rfl) ⟨rfl, rfl, rfl, rfl⟩ rfl rfl rfl rfl ?_
     have h5 := (h1.ext x1).ext x2
     obtain ⟨y1, h6, H⟩ := bind_some H
     refine RW.callF (.inl rfl) ent101 ⟨rfl, rfl, rfl, rfl⟩ rfl rfl (room_ok.calls k A1 c_1 p0.Free p0.Size _ _ h5.all hl1 h6) ?_
     rintro _ w3 ⟨rfl, x3⟩
     refine ⟨_, rfl, x3, ?_⟩
     have sx3 := x3.size
     refine RW.pure tabOk 2 rfl ?_
     by_cases c5 : y1 = true
     ·
      rw [if_pos c5] at H
      refine RW.bool 28 (b' := true) (c5) rfl ?_
      refine RW.pure tabOk 2 rfl ?_
      have h7 := h4.ext x3
      refine RW.load tabOk [.slice A2 p0.Late.length c_2] (h7.at 3) ⟨rfl, rfl, rfl, rfl⟩ rfl rfl rfl rfl ?_
      refine RW.load tabOk [.int .i64 p0.Size] ((h7.at 1).take 1 rfl) ⟨rfl, rfl, rfl, rfl⟩ rfl rfl rfl rfl ?_
      have h8 := ((h2.ext x1).ext x2).ext x3
      obtain ⟨y2, h9, H⟩ := bind_some H
      refine RW.callF (.inl rfl) ent101 ⟨rfl, rfl, rfl, rfl⟩ rfl rfl (room_ok.calls k A2 c_2 p0.Late p0.Size _ _ h8.all hl2 h9) ?_
      rintro _ w4 ⟨rfl, x4⟩
      refine ⟨_, rfl, x4, ?_⟩
      have sx4 := x4.size
      refine RW.pure tabOk 2 rfl ?_
      by_cases c6 : y2 = true
      ·
       rw [if_pos c6] at H
       refine RW.bool 35 (b' := true) (c6) rfl ?_
       refine RW.pure tabOk 2 rfl ?_
       have h10 := h7.ext x4
       refine RW.load tabOk [.slice A1 p0.Free.length c_1] ((h10.at 2).take 1 rfl) ⟨rfl, rfl, rfl, rfl⟩ rfl rfl rfl rfl ?_
       refine RW.load tabOk [.slice A2 p0.Late.length c_2] (h10.at 3) ⟨rfl, rfl, rfl, rfl⟩ rfl rfl rfl rfl ?_
       have h11 := (h5.ext x3).ext x4
       obtain ⟨y3, h12, H⟩ := bind_some H
       refine RW.callF (.inl rfl) ent52 ⟨rfl, rfl, rfl, rfl⟩ rfl rfl (seg_Make.calls k A1 c_1 p0.Free _ _ h11.all hl1 h12) ?_
       rintro _ w5 ⟨rfl, x5⟩
       refine ⟨_, rfl, x5, ?_⟩
       have sx5 := x5.size
       have h13 := (h8.ext x4).ext x5
       obtain ⟨y4, h14, H⟩ := bind_some H
       refine RW.callF (.inl rfl) ent52 ⟨rfl, rfl, rfl, rfl⟩ rfl rfl (seg_Make.calls k A2 c_2 p0.Late _ _ h13.all hl2 h14) ?_
       rintro _ w6 ⟨rfl, x6⟩
       refine ⟨_, rfl, x6, ?_⟩
       have sx6 := x6.size
       refine RW.pure tabOk 4 rfl ?_
       refine RW.done ?_
       refine NW.next ?_
       refine CW.ret ?_
       obtain rfl := Option.some.inj H
       have h15 := Ext.trans (Ext.trans (Ext.trans (Ext.trans (Ext.trans (Ext.trans x0 x1) x2) x3) x4) x5) x6
       exact NW.ret1 rfl (by rfl) ⟨rfl, h15⟩
      ·
       rw [if_neg c6] at H
       refine RW.bool 35 (b' := false) (bool_f c6) rfl ?_
       refine RW.pure tabOk 10 rfl ?_
       refine RW.done ?_
       refine NW.next ?_
       refine CW.ret ?_
       obtain rfl := Option.some.inj H
       have h16 := Ext.trans (Ext.trans (Ext.trans (Ext.trans x0 x1) x2) x3) x4
       exact NW.ret1 rfl (by rfl) ⟨rfl, h16⟩
     ·
      rw [if_neg c5] at H
      refine RW.bool 28 (b' := false) (bool_f c5) rfl ?_
      refine RW.pure tabOk 17 rfl ?_
      refine RW.done ?_
      refine NW.next ?_
      refine CW.ret ?_
      obtain rfl := Option.some.inj H
      have h17 := Ext.trans (Ext.trans (Ext.trans x0 x1) x2) x3
      exact NW.ret1 rfl (by rfl) ⟨rfl, h17⟩
    ·
     rw [if_neg c4] at H
     refine RW.bool 21 (b' := false) (decide_eq_false c4) rfl ?_
     refine RW.pure tabOk 24 rfl ?_
     refine RW.done ?_
     refine NW.next ?_
     refine CW.ret ?_
     obtain rfl := Option.some.inj H
     have h18 := Ext.trans (Ext.trans x0 x1) x2
     exact NW.ret1 rfl (by rfl) ⟨rfl, h18⟩
   ·
    rw [if_neg c3] at H
    refine RW.bool 16 (b' := false) (decide_eq_false c3) rfl ?_
    refine RW.pure tabOk 29 rfl ?_
    refine RW.done ?_
    refine NW.next ?_
    refine CW.ret ?_
    obtain rfl := Option.some.inj H
    have h19 := Ext.trans (Ext.trans x0 x1) x2
    exact NW.ret1 rfl (by rfl) ⟨rfl, h19⟩
  ·
   rw [if_neg c2] at H
   refine RW.bool 11 (b' := false) (decide_eq_false c2) rfl ?_
   refine RW.pure tabOk 34 rfl ?_
   refine RW.done ?_
   refine NW.next ?_
   refine CW.ret ?_
   obtain rfl := Option.some.inj H
   have h20 := Ext.trans (Ext.trans x0 x1) x2
   exact NW.ret1 rfl (by rfl) ⟨rfl, h20⟩
 ·
  rw [if_neg c1] at H
  refine RW.bool 6 (b' := false) (decide_eq_false c1) rfl ?_
  refine RW.pure tabOk 39 rfl ?_
  refine RW.done ?_
  refine NW.next ?_
  refine CW.ret ?_
  obtain rfl := Option.some.inj H
  have h21 := Ext.trans (Ext.trans x0 x1) x2
  exact NW.ret1 rfl (by rfl) ⟨rfl, h21⟩

set_option maxHeartbeats 4000000 in
set_option maxRecDepth 100000 in
theorem room_May.calls (k : Nat) (A1 : Option Addr) (c_1 : Nat) (p0 : List Device) (r : Bool) (w : World) (hs1 : Sl kDeviceR w.heap okAll A1 p0) (hl1 : p0.length ≤ c_1) (H : room_May.f k p0 = some r) :
    Calls Tryd.prog 66 #[.slice A1 p0.length c_1] w fun e w' => e = .returned (.bool r) ∧ Ext w w' := by
 have h1 : Sl kDeviceR w.heap (okL [(0, some w.heap.size, none)]) A1 p0 := hs1.old _ rfl
 have x0 : Ext w w := Upd.refl _ w
 unfold room_May.f at H
 refine calls_start Tryd.func66 rfl 34 rfl [.slice A1 p0.length c_1] rfl ?_
 refine CW.seq ?_
 refine CW.lex [.W] rfl ?_
 refine RW.pure tabOk 1 rfl ?_
 refine RW.done ?_
 refine NW.next ?_
 refine CW.seq ?_
 refine CW.seq ?_
 refine CW.lex [.W, .W, .W] rfl ?_
 refine RW.pure tabOk 3 rfl ?_
 refine RW.done ?_
 refine NW.next ?_
 by_cases c1 : 6 < (p0.length : Int)
 ·
  rw [if_pos c1] at H
  refine CW.cond_t rfl (decide_eq_true c1) ?_
  refine CW.seq ?_
  refine CW.lex [.W] rfl ?_
  refine RW.pure tabOk 1 rfl ?_
  refine RW.done ?_
  refine NW.next ?_
  refine CW.ret ?_
  refine NW.ret_then ?_
  obtain rfl := Option.some.inj H
  exact NW.ret1 rfl (by rfl) ⟨rfl, x0⟩
 ·
  rw [if_neg c1] at H
  refine CW.cond_f rfl (decide_eq_false c1) ?_
  refine CW.skip ?_
  refine NW.next ?_
  refine CW.seq ?_
  refine CW.seq ?_
  refine CW.lex [.W, .W, .W] rfl ?_
  refine RW.pure tabOk 3 rfl ?_
  refine RW.done ?_
  refine NW.next ?_
  refine CW.block ?_
  refine CW.loop (fun n1 a w1 => ∃ (it10_0 : Int), Sat 34 [(0, .slice A1 p0.length c_1), (8, .slice A1 p0.length c_1), (9, .int .i64 (p0.length : Int)), (10, .int .i64 it10_0)] a ∧ w.heap.size ≤ w1.heap.size ∧ Sl kDeviceR w1.heap (okL [(0, some w.heap.size, none)]) A1 p0 ∧ Ext w w1 ∧ room_May.l0 p0 k n1 it10_0 = some r) k ?_ ?_
  · exact fun a ha => ⟨0, ha.sub ⟨rfl, rfl, rfl, rfl, trivial⟩, by omega, h1, x0, H⟩
  intro n1 a w1 hI hp
  obtain ⟨it10_0, hS, hle, gF1_0, x0_0, H⟩ := hI
  cases n1 with
  | zero => cases H
  | succ n1 =>
   rw [room_May.l0] at H
   refine CW.go hp hS ?_
   refine CW.seq ?_
   refine CW.lex [.W] rfl ?_
   refine RW.pure tabOk 1 rfl ?_
   refine RW.done ?_
   refine NW.next ?_
   refine CW.seq ?_
   by_cases c2 : it10_0 < (p0.length : Int)
   ·
    rw [if_pos c2] at H
    refine CW.cond_t rfl (decide_eq_true c2) ?_
    refine CW.skip ?_
    refine NW.next ?_
    refine CW.seq ?_
    refine CW.block ?_
    refine CW.seq ?_
    refine CW.lex [.W, .W, .L, .X, .W, .M] rfl ?_
    refine RW.pure tabOk 1 rfl ?_
    obtain ⟨g1, H⟩ := guard_some H
    obtain ⟨ad1, A2, c_2, A3, c_3, e1, a1, l1, h2, l2, h3⟩ := kDeviceR_at gF1_0 g1.1 g1.2
    refine RW.index tabOk g1.1 g1.2 e1 ⟨rfl, rfl, rfl, rfl⟩ rfl rfl rfl rfl rfl rfl ?_
    refine RW.load tabOk [.int .i64 ((rd p0 it10_0).ID), .int .i64 ((rd p0 it10_0).Size), .slice A2 ((rd p0 it10_0).Free).length c_2, .slice A3 ((rd p0 it10_0).Late).length c_3] a1 ⟨rfl, rfl, rfl, rfl⟩ rfl rfl rfl rfl ?_
    refine RW.alloc tabOk (.inl rfl) ⟨rfl, rfl, rfl, rfl⟩ rfl rfl ?_
    intro b1 w2 x1 l3 h4
    have sx1 := x1.size
    have ltb1 := h4.lt
    refine RW.pure tabOk 1 rfl ?_
    refine RW.storeBox tabOk h4 [.int .i64 ((rd p0 it10_0).ID), .int .i64 ((rd p0 it10_0).Size), .slice A2 ((rd p0 it10_0).Free).length c_2, .slice A3 ((rd p0 it10_0).Late).length c_3] ⟨rfl, rfl, rfl⟩ rfl rfl rfl rfl rfl rfl rfl rfl ?_
    intro w3 x2 h5
    have h6 : Box w3.heap b1 84 [.int .i64 ((rd p0 it10_0).ID), .int .i64 ((rd p0 it10_0).Size), .slice A2 ((rd p0 it10_0).Free).length c_2, .slice A3 ((rd p0 it10_0).Late).length c_3] := h5
    have sx2 := x2.size
    refine RW.done ?_
    refine NW.next ?_
    refine CW.seqJ (fun a w4 => ∃ (bt32_1 : Bool), Sat 34 [(0, .slice A1 p0.length c_1), (8, .slice A1 p0.length c_1), (9, .int .i64 (p0.length : Int)), (10, .int .i64 it10_0), (32, .bool bt32_1)] a ∧ w3.heap.size ≤ w4.heap.size ∧ Sl kDeviceR w4.heap (okL [(0, some w.heap.size, none)]) A1 p0 ∧ Ext w w4 ∧ room_May.j0 it10_0 (room_May.l0 p0 k n1) bt32_1 = some r) ?_ ?_
    ·
     refine CW.ord [0, 1, 3, 7, 15, 31, 63, 127, 255, 127, 127, 1151, 3711, 7807, 15999, 32767, 65535, 131071] (ofL [(0, .L), (1, .X), (2, .W), (3, .W), (4, .W), (5, .W), (6, .W), (7, .W), (9, .W), (10, .W), (11, .W), (12, .W), (13, .W), (8, .L), (14, .L), (15, .W), (16, .W), (17, .W)] .nil) mixed (by kernel_rfl) ?_
     intro w5 x3
     have sx3 := x3.size
     have h7 := h6.ext x3
     refine RW.load tabOk [.int .i64 ((rd p0 it10_0).ID), .int .i64 ((rd p0 it10_0).Size), .slice A2 ((rd p0 it10_0).Free).length c_2, .slice A3 ((rd p0 it10_0).Late).length c_3] (h7.at 0) ⟨rfl, rfl, rfl, rfl⟩ rfl rfl rfl rfl ?_
     have h8 := ((h2.ext x1).turnB x2 h4 ⟨.inr (by omega), trivial⟩).ext x3
     have h9 := ((h3.ext x1).turnB x2 h4 ⟨.inr (by omega), trivial⟩).ext x3
     obtain ⟨y1, h10, H⟩ := bind_some H
     refine RW.callF (.inl rfl) ent82 ⟨rfl, rfl, rfl, rfl⟩ rfl rfl (room_Device.calls k (rd p0 it10_0) A2 c_2 A3 c_3 _ _ h8.all l1 h9.all l2 h10) ?_
     rintro _ w6 ⟨rfl, x4⟩
     refine ⟨_, rfl, x4, ?_⟩
     have sx4 := x4.size
     refine RW.pure tabOk 2 rfl ?_
     by_cases c3 : y1 = true
     ·
      rw [if_pos c3] at H
      refine RW.bool 18 (b' := false) (not_f (c3)) rfl ?_
      refine RW.pure tabOk 3 rfl ?_
      by_cases c4 : 0 < it10_0
      ·
       rw [if_pos c4] at H
       refine RW.bool 21 (b' := true) (decide_eq_true c4) rfl ?_
       refine RW.pure tabOk 4 rfl ?_
       obtain ⟨g2, H⟩ := guard_some H
       have h11 := (((gF1_0.ext x1).turnB x2 h4 ⟨.inr (by omega), trivial⟩).ext x3).ext x4
       obtain ⟨ad2, A4, c_4, A5, c_5, e2, a2, l4, h12, l5, h13⟩ := kDeviceR_at h11 g2.1 g2.2
       refine RW.index tabOk g2.1 g2.2 e2 ⟨rfl, rfl, rfl, rfl⟩ rfl rfl rfl rfl rfl rfl ?_
       refine RW.pure tabOk 1 rfl ?_
       have h14 := h7.ext x4
       refine RW.load tabOk [.int .i64 ((rd p0 it10_0).ID)] ((h14.at 0).take 1 rfl) ⟨rfl, rfl, rfl, rfl⟩ rfl rfl rfl rfl ?_
       refine RW.load tabOk [.int .i64 ((rd p0 (w64 (it10_0 - 1))).ID)] ((a2.fld 0).take 1 rfl) ⟨rfl, rfl, rfl, rfl⟩ rfl rfl rfl rfl ?_
       refine RW.pure tabOk 3 rfl ?_
       refine RW.done ?_
       have h15 := Ext.trans (Ext.trans (Ext.turnB (Ext.trans x0_0 x1) x2 (by omega)) x3) x4
       exact NW.J fun a ha => ⟨(decide (((rd p0 it10_0).ID) ≤ ((rd p0 (w64 (it10_0 - 1))).ID))), ha.sub ⟨rfl, rfl, rfl, rfl, rfl, trivial⟩, by omega, h11, h15, H⟩
      ·
       rw [if_neg c4] at H
       refine RW.bool 21 (b' := false) (decide_eq_false c4) rfl ?_
       refine RW.pure tabOk 11 rfl ?_
       refine RW.done ?_
       have h16 := (((gF1_0.ext x1).turnB x2 h4 ⟨.inr (by omega), trivial⟩).ext x3).ext x4
       have h17 := Ext.trans (Ext.trans (Ext.turnB (Ext.trans x0_0 x1) x2 (by omega)) x3) x4
       exact NW.J fun a ha => ⟨false, ha.sub ⟨rfl, rfl, rfl, rfl, rfl, trivial⟩, by omega, h16, h17, H⟩
     ·
      rw [if_neg c3] at H
      refine RW.bool 18 (b' := true) (not_t (bool_f c3)) rfl ?_
      refine RW.pure tabOk 14 rfl ?_
      refine RW.done ?_
      have h18 := (((gF1_0.ext x1).turnB x2 h4 ⟨.inr (by omega), trivial⟩).ext x3).ext x4
      have h19 := Ext.trans (Ext.trans (Ext.turnB (Ext.trans x0_0 x1) x2 (by omega)) x3) x4
      exact NW.J fun a ha => ⟨true, ha.sub ⟨rfl, rfl, rfl, rfl, rfl, trivial⟩, by omega, h18, h19, H⟩
    intro a w4 hJ hp
    obtain ⟨bt32_1, hS, hle, gF1_1, x0_1, H⟩ := hJ
    unfold room_May.j0 at H
    refine CW.go hp hS ?_
    by_cases c5 : bt32_1 = true
    ·
     rw [if_pos c5] at H
     refine CW.cond_t rfl (c5) ?_
     refine CW.seq ?_
     refine CW.lex [.W] rfl ?_
     refine RW.pure tabOk 1 rfl ?_
     refine RW.done ?_
     refine NW.next ?_
     refine CW.ret ?_
     refine NW.ret_block (NW.ret_then (NW.ret_then (NW.ret_block (NW.ret_then ?_))))
     obtain rfl := Option.some.inj H
     exact NW.ret1 rfl (by rfl) ⟨rfl, x0_1⟩
    ·
     rw [if_neg c5] at H
     refine CW.cond_f rfl (bool_f c5) ?_
     refine CW.skip ?_
     refine NW.norm_block (NW.next ?_)
     refine CW.lex [.W, .W] rfl ?_
     refine RW.pure tabOk 2 rfl ?_
     refine RW.done ?_
     exact NW.J fun a ha => ⟨n1, Nat.lt_succ_self n1, (w64 (it10_0 + 1)), ha.sub ⟨rfl, rfl, rfl, rfl, trivial⟩, by omega, gF1_1, x0_1, H⟩
   ·
    rw [if_neg c2] at H
    refine CW.cond_f rfl (decide_eq_false c2) ?_
    refine CW.exit ?_
    refine NW.exit_then (NW.exit_then (NW.exit_hit ?_))
    refine NW.next ?_
    refine CW.seq ?_
    refine CW.lex [.W] rfl ?_
    refine RW.pure tabOk 1 rfl ?_
    refine RW.done ?_
    refine NW.next ?_
    refine CW.ret ?_
    obtain rfl := Option.some.inj H
    exact NW.ret1 rfl (by rfl) ⟨rfl, x0_0⟩

set_option maxHeartbeats 4000000 in
set_option maxRecDepth 100000 in
theorem slices_Clone_Device.calls (A1 : Option Addr) (c_1 : Nat) (p0 : List Device) (r : (List Device)) (w : World) (hs1 : Sl kDeviceR w.heap okAll A1 p0) (hl1 : p0.length ≤ c_1) (H : slices_Clone_Device.f p0 = some r) :
    Calls Tryd.prog 83 #[.slice A1 p0.length c_1] w fun e w' => ∃ (B1 : Option Addr) (d1 : Nat), e = .returned (.slice B1 r.length d1) ∧ Ext w w' ∧ Ow kDeviceR 84 w'.heap (okL [(w.heap.size, none, some 84)]) (okL [(0, some w.heap.size, none), (w.heap.size, none, some 93)]) B1 d1 r := by
 have h1 : Sl kDeviceR w.heap (okL [(0, some w.heap.size, none)]) A1 p0 := hs1.old _ rfl
 have x0 : Ext w w := Upd.refl _ w
 unfold slices_Clone_Device.f at H
 refine calls_start Tryd.func83 rfl 8 rfl [.slice A1 p0.length c_1] rfl ?_
 refine CW.seq ?_
 refine CW.lex [.W] rfl ?_
 refine RW.pure tabOk 1 rfl ?_
 refine RW.done ?_
 refine NW.next ?_
 refine CW.seq ?_
 refine CW.seq ?_
 refine CW.lex [.W, .W] rfl ?_
 refine RW.pure tabOk 1 rfl ?_
 refine RW.eqNil tabOk ⟨rfl, rfl, rfl, rfl⟩ rfl rfl rfl rfl rfl ?_
 refine RW.done ?_
 refine NW.next ?_
 by_cases c1 : A1.isNone = true
 ·
  obtain rfl : p0 = [] := sl_none h1 c1
  replace H : (some ([] : List Device)) = some r := by first | exact H | simpa using H
  refine CW.cond_t rfl (c1) ?_
  refine CW.seq ?_
  refine CW.lex [.W] rfl ?_
  refine RW.pure tabOk 1 rfl ?_
  refine RW.done ?_
  refine NW.next ?_
  refine CW.ret ?_
  refine NW.ret_then ?_
  obtain rfl := Option.some.inj H
  exact NW.ret1 rfl (by rfl) ⟨none, 0, rfl, x0, Ow.nil⟩
 ·
  refine CW.cond_f rfl (bool_f c1) ?_
  refine CW.skip ?_
  refine NW.next ?_
  refine CW.seq ?_
  refine CW.lex [.X, .W, .M, .W] rfl ?_
  refine RW.buildSlice (cs := []) tabOk (.inl rfl) ⟨rfl, rfl, rfl, rfl⟩ rfl rfl rfl rfl rfl rfl rfl ?_
  intro b1 w1 x1 l1 h2
  have sx1 := x1.size
  have ltb1 := h2.lt
  refine RW.pure tabOk 1 rfl ?_
  have h3 := h1.ext x1
  obtain ⟨y1, h4, h5⟩ := Sl.ch h3
  obtain ⟨g1, H⟩ := guard_some H
  refine RW.appendL (d := kDeviceR) (l := []) (li := []) (ly := [(0, some w.heap.size, none)]) (xs := ([] : List Device)) (ys := p0) tabOk Ow.nil h4 h5 ⟨trivial, trivial⟩ (by simp only [maxLen]; omega) g1 ⟨rfl, rfl, rfl, rfl⟩ rfl rfl rfl rfl rfl rfl rfl rfl ?_
  intro A2 c_2 w2 x2 h6
  have sx2 := x2.size
  have h7 := h6.close.sub (l' := [(w1.heap.size, some w2.heap.size, some 84)]) (li' := [(0, some w.heap.size, none)]) ⟨(.inl ⟨by omega, by omega, rfl⟩), trivial⟩ ⟨(.inl ⟨by omega, by omega, trivial⟩), trivial⟩
  refine RW.pure tabOk 1 rfl ?_
  refine RW.done ?_
  refine NW.next ?_
  refine CW.ret ?_
  obtain rfl := Option.some.inj H
  have h8 := Ext.turn (Ext.trans x0 x1) x2 trivial
  exact NW.ret1 rfl (by rfl) ⟨A2, c_2, rfl, h8, (h7.sub (l' := [(w.heap.size, none, some 84)]) (li' := [(0, some w.heap.size, none), (w.heap.size, none, some 93)]) ⟨(.inl ⟨by omega, trivial, rfl⟩), trivial⟩ ⟨(.inl ⟨by omega, by omega, trivial⟩), trivial⟩)⟩

set_option maxHeartbeats 4000000 in
set_option maxRecDepth 100000 in
theorem slices_Clone_Seg.calls (A1 : Option Addr) (c_1 : Nat) (p0 : List Seg) (r : (List Seg)) (w : World) (hs1 : Sl kSeg w.heap okAll A1 p0) (hl1 : p0.length ≤ c_1) (H : slices_Clone_Seg.f p0 = some r) :
    Calls Tryd.prog 84 #[.slice A1 p0.length c_1] w fun e w' => ∃ (B1 : Option Addr) (d1 : Nat), e = .returned (.slice B1 r.length d1) ∧ Ext w w' ∧ Ow kSeg 93 w'.heap (okL [(w.heap.size, none, some 93)]) (okL []) B1 d1 r := by
 have h1 : Sl kSeg w.heap (okL [(0, some w.heap.size, none)]) A1 p0 := hs1.old _ rfl
 have x0 : Ext w w := Upd.refl _ w
 unfold slices_Clone_Seg.f at H
 refine calls_start Tryd.func84 rfl 8 rfl [.slice A1 p0.length c_1] rfl ?_
 refine CW.seq ?_
 refine CW.lex [.W] rfl ?_
 refine RW.pure tabOk 1 rfl ?_
 refine RW.done ?_
 refine NW.next ?_
 refine CW.seq ?_
 refine CW.seq ?_
 refine CW.lex [.W, .W] rfl ?_
 refine RW.pure tabOk 1 rfl ?_
 refine RW.eqNil tabOk ⟨rfl, rfl, rfl, rfl⟩ rfl rfl rfl rfl rfl ?_
 refine RW.done ?_
 refine NW.next ?_
 by_cases c1 : A1.isNone = true
 ·
  obtain rfl : p0 = [] := sl_none h1 c1
  replace H : (some ([] : List Seg)) = some r := by first | exact H | simpa using H
  refine CW.cond_t rfl (c1) ?_
  refine CW.seq ?_
  refine CW.lex [.W] rfl ?_
  refine RW.pure tabOk 1 rfl ?_
  refine RW.done ?_
  refine NW.next ?_
  refine CW.ret ?_
  refine NW.ret_then ?_
  obtain rfl := Option.some.inj H
  exact NW.ret1 rfl (by rfl) ⟨none, 0, rfl, x0, Ow.nil⟩
 ·
  refine CW.cond_f rfl (bool_f c1) ?_
  refine CW.skip ?_
  refine NW.next ?_
  refine CW.seq ?_
  refine CW.lex [.X, .W, .M, .W] rfl ?_
  refine RW.buildSlice (cs := []) tabOk (.inl rfl) ⟨rfl, rfl, rfl, rfl⟩ rfl rfl rfl rfl rfl rfl rfl ?_
  intro b1 w1 x1 l1 h2
  have sx1 := x1.size
  have ltb1 := h2.lt
  refine RW.pure tabOk 1 rfl ?_
  have h3 := h1.ext x1
  obtain ⟨y1, h4, h5⟩ := Sl.ch h3
  have h6 := h4.flat (h' := w1.heap) (ok' := okL []) fun e => e
  obtain ⟨g1, H⟩ := guard_some H
  refine RW.appendL (d := kSeg) (l := []) (li := []) (ly := []) (xs := ([] : List Seg)) (ys := p0) tabOk Ow.nil h6 h5 trivial (by simp only [maxLen]; omega) g1 ⟨rfl, rfl, rfl, rfl⟩ rfl rfl rfl rfl rfl rfl rfl rfl ?_
  intro A2 c_2 w2 x2 h7
  have sx2 := x2.size
  have h8 := h7.close.sub (l' := [(w1.heap.size, some w2.heap.size, some 93)]) (li' := []) ⟨(.inl ⟨by omega, by omega, rfl⟩), trivial⟩ trivial
  refine RW.pure tabOk 1 rfl ?_
  refine RW.done ?_
  refine NW.next ?_
  refine CW.ret ?_
  obtain rfl := Option.some.inj H
  have h9 := Ext.turn (Ext.trans x0 x1) x2 trivial
  exact NW.ret1 rfl (by rfl) ⟨A2, c_2, rfl, h9, (h8.sub (l' := [(w.heap.size, none, some 93)]) (li' := []) ⟨(.inl ⟨by omega, trivial, rfl⟩), trivial⟩ trivial)⟩

set_option maxHeartbeats 4000000 in
set_option maxRecDepth 100000 in
theorem room_Own.calls (k : Nat) (A1 : Option Addr) (c_1 : Nat) (p0 : List Device) (r : (List Device)) (w : World) (hs1 : Sl kDeviceR w.heap okAll A1 p0) (hl1 : p0.length ≤ c_1) (H : room_Own.f k p0 = some r) :
    Calls Tryd.prog 67 #[.slice A1 p0.length c_1] w fun e w' => ∃ (B1 : Option Addr) (d1 : Nat), e = .returned (.slice B1 r.length d1) ∧ Ext w w' ∧ Ow kDeviceO 84 w'.heap (okL [(w.heap.size, none, some 84)]) (okL [(w.heap.size, none, some 93)]) B1 d1 r := by
 have h1 : Sl kDeviceR w.heap (okL [(0, some w.heap.size, none)]) A1 p0 := hs1.old _ rfl
 have x0 : Ext w w := Upd.refl _ w
 unfold room_Own.f at H
 refine calls_start Tryd.func67 rfl 33 rfl [.slice A1 p0.length c_1] rfl ?_
 refine CW.seq ?_
 refine CW.lex [.W] rfl ?_
 refine RW.pure tabOk 1 rfl ?_
 refine RW.done ?_
 refine NW.next ?_
 refine CW.seq ?_
 refine CW.lex [.W, .X, .W] rfl ?_
 refine RW.pure tabOk 1 rfl ?_
 obtain ⟨y1, h2, H⟩ := bind_some H
 refine RW.callF (.inl rfl) ent83 ⟨rfl, rfl, rfl, rfl⟩ rfl rfl (slices_Clone_Device.calls A1 c_1 p0 _ _ h1.all hl1 h2) ?_
 rintro _ w1 ⟨A2, c_2, rfl, x1, h3⟩
 refine ⟨_, rfl, x1, ?_⟩
 have sx1 := x1.size
 have h4 : Ow kDeviceR 84 w1.heap (okL [(w.heap.size, some w1.heap.size, some 84)]) (okL [(0, some w.heap.size, none), (w.heap.size, some w1.heap.size, some 93)]) A2 c_2 y1 := h3.close
 refine RW.pure tabOk 1 rfl ?_
 refine RW.done ?_
 refine NW.next ?_
 refine CW.seq ?_
 refine CW.seq ?_
 refine CW.lex [.W, .W, .W] rfl ?_
 refine RW.pure tabOk 3 rfl ?_
 refine RW.done ?_
 refine NW.next ?_
 refine CW.block ?_
 refine CW.loop (fun n1 a w2 => ∃ (lt0_0 : List Device) (it8_0 : Int), Sat 33 [(0, .slice A2 lt0_0.length c_2), (7, .int .i64 (y1.length : Int)), (8, .int .i64 it8_0)] a ∧ w1.heap.size ≤ w2.heap.size ∧ Ow kDeviceR 84 w2.heap (okL [(w.heap.size, none, some 84)]) (okL [(0, some w.heap.size, none), (w.heap.size, none, some 93)]) A2 c_2 lt0_0 ∧ Ext w w2 ∧ lt0_0.length = y1.length ∧ lt0_0.length = y1.length ∧ 0 ≤ it8_0 ∧ OwPart kDeviceO w2.heap (okL [(w.heap.size, none, some 93)]) A2 lt0_0 default it8_0.toNat ∧ room_Own.l0 y1 n1 lt0_0 it8_0 = some r) k ?_ ?_
 have h5 := Ext.trans x0 x1
 · exact fun a ha => ⟨y1, 0, ha.sub ⟨rfl, rfl, rfl, trivial⟩, by omega, (h4.sub ⟨(.inl ⟨by omega, trivial, rfl⟩), trivial⟩ ⟨(.inl ⟨by omega, by omega, trivial⟩), ⟨(.inr (.inl ⟨by omega, trivial, rfl⟩)), trivial⟩⟩), h5, (by (try simp only [List.length_set]) <;> omega), rfl, Int.le_refl 0, OwPart.zero, H⟩
 intro n1 a w2 hI hp
 obtain ⟨lt0_0, it8_0, hS, hle, ft0_0, x0_0, ln_lt0_0, hln, hi0, hpt, H⟩ := hI
 cases n1 with
 | zero => cases H
 | succ n1 =>
  rw [room_Own.l0] at H
  refine CW.go hp hS ?_
  have h6 : Ow kDeviceR 84 w2.heap (okL [(w.heap.size, some w2.heap.size, some 84)]) (okL [(0, some w.heap.size, none), (w.heap.size, some w2.heap.size, some 93)]) A2 c_2 lt0_0 := ft0_0.close
  refine CW.seq ?_
  refine CW.lex [.W] rfl ?_
  refine RW.pure tabOk 1 rfl ?_
  refine RW.done ?_
  refine NW.next ?_
  refine CW.seq ?_
  by_cases c1 : it8_0 < (y1.length : Int)
  ·
   rw [if_pos c1] at H
   refine CW.cond_t rfl (decide_eq_true c1) ?_
   refine CW.skip ?_
   refine NW.next ?_
   refine CW.seq ?_
   refine CW.block ?_
   refine CW.seq ?_
   refine CW.lex [.W, .W] rfl ?_
   refine RW.pure tabOk 2 rfl ?_
   refine RW.done ?_
   refine NW.next ?_
   refine CW.ord [0, 0, 0, 0, 0, 0, 48, 112, 240, 496, 0, 0, 3072, 7168, 15360, 32752, 65523, 131059, 262131, 524287, 1048575, 2097151] (ofL [(0, .W), (1, .W), (2, .W), (3, .W), (4, .W), (5, .W), (6, .W), (7, .W), (10, .W), (11, .W), (12, .W), (13, .W), (8, .L), (14, .L), (9, .X), (15, .X), (16, .W), (17, .W), (18, .M), (19, .W), (20, .W), (21, .M)] .nil) mixed (by kernel_rfl) ?_
   intro w3 x2
   have sx2 := x2.size
   refine RW.pure tabOk 6 rfl ?_
   obtain ⟨g1, H⟩ := guard_some H
   have h7 := h6.ext x2
   obtain ⟨ad1, A3, c_3, A4, c_4, e1, a1, l1, h8, l2, h9⟩ := kDeviceR_ato h7 g1.1 g1.2
   refine RW.index tabOk g1.1 g1.2 e1 ⟨rfl, rfl, rfl, rfl⟩ rfl rfl rfl rfl rfl rfl ?_
   refine RW.pure tabOk 3 rfl ?_
   obtain ⟨g2, H⟩ := guard_some H
   obtain ⟨ad2, A5, c_5, A6, c_6, e2, a2, l3, h10, l4, h11⟩ := kDeviceR_ato h7 g2.1 g2.2
   refine RW.index tabOk g2.1 g2.2 e2 ⟨rfl, rfl, rfl, rfl⟩ rfl rfl rfl rfl rfl rfl ?_
   refine RW.pure tabOk 1 rfl ?_
   refine RW.load tabOk [.slice A3 ((rd lt0_0 it8_0).Free).length c_3] ((a1.fld 2).take 1 rfl) ⟨rfl, rfl, rfl, rfl⟩ rfl rfl rfl rfl ?_
   refine RW.load tabOk [.slice A6 ((rd lt0_0 it8_0).Late).length c_6] (a2.fld 3) ⟨rfl, rfl, rfl, rfl⟩ rfl rfl rfl rfl ?_
   obtain ⟨y2, h12, H⟩ := bind_some H
   refine RW.callF (.inl rfl) ent84 ⟨rfl, rfl, rfl, rfl⟩ rfl rfl (slices_Clone_Seg.calls A3 c_3 ((rd lt0_0 it8_0).Free) _ _ h8.all l1 h12) ?_
   rintro _ w4 ⟨A7, c_7, rfl, x3, h13⟩
   refine ⟨_, rfl, x3, ?_⟩
   have sx3 := x3.size
   have h14 : Ow kSeg 93 w4.heap (okL [(w3.heap.size, some w4.heap.size, some 93)]) (okL []) A7 c_7 y2 := h13.close
   have h15 := h11.ext x3
   obtain ⟨y3, h16, H⟩ := bind_some H
   refine RW.callF (.inl rfl) ent84 ⟨rfl, rfl, rfl, rfl⟩ rfl rfl (slices_Clone_Seg.calls A6 c_6 ((rd lt0_0 it8_0).Late) _ _ h15.all l4 h16) ?_
   rintro _ w5 ⟨A8, c_8, rfl, x4, h17⟩
   refine ⟨_, rfl, x4, ?_⟩
   have sx4 := x4.size
   have h18 : Ow kSeg 93 w5.heap (okL [(w4.heap.size, some w5.heap.size, some 93)]) (okL []) A8 c_8 y3 := h17.close
   obtain ⟨g3, H⟩ := guard_some H
   have h19 := (h7.ext x3).ext x4
   obtain ⟨ad3, A9, c_9, A10, c_10, e3, a3, l5, h20, l6, h21⟩ := kDeviceR_ato h19 g3.1 g3.2
   refine RW.index tabOk g3.1 g3.2 e3 ⟨rfl, rfl, rfl, rfl⟩ rfl rfl rfl rfl rfl rfl ?_
   refine RW.pure tabOk 1 rfl ?_
   have h22 := h14.ext x4
   refine RW.storeElX (y := (⟨(rd lt0_0 it8_0).ID, (rd lt0_0 it8_0).Size, y2, (rd lt0_0 it8_0).Late⟩ : Device)) (lv := [(w3.heap.size, some w4.heap.size, some 93)]) (k := 2) tabOk h19 (j := it8_0.toNat) (by have := g3; omega) default [.slice A7 y2.length c_7] (fun cs ok' hr => by obtain ⟨qa1, qc1, qa2, qc2, rfl, ql1, q1, ql2, q2⟩ := kDeviceR_open hr; exact ⟨by simp, kDeviceR_mk (⟨(rd lt0_0 it8_0).ID, (rd lt0_0 it8_0).Size, y2, (rd lt0_0 it8_0).Late⟩ : Device) h22.len (Sl.mono h22.slL fun _ _ ho => Or.inr (okL_sub (l := [(w3.heap.size, some w4.heap.size, some 93)]) (l' := [(w3.heap.size, some w4.heap.size, some 93)]) ⟨(.inl ⟨by omega, by omega, rfl⟩), trivial⟩ ho)) ql2 (q2.mono fun _ _ ho => Or.inl ho)⟩) ⟨⟨.inl (show (93 : Nat) ≠ 84 by decide), trivial⟩, trivial⟩ ⟨rfl, rfl, rfl⟩ rfl rfl e3 rfl rfl rfl rfl rfl ?_
   intro w6 x5 Xx5 h23
   have sx5 := x5.size
   have h24 := h23.close.sub (l' := [(w.heap.size, some w2.heap.size, some 84)]) (li' := [(0, some w.heap.size, none), (w.heap.size, some w4.heap.size, some 93)]) ⟨(.inl ⟨by omega, by omega, rfl⟩), trivial⟩ ⟨(.inl ⟨by omega, by omega, trivial⟩), ⟨(.inr (.inl ⟨by omega, by omega, rfl⟩)), ⟨(.inr (.inl ⟨by omega, by omega, rfl⟩)), trivial⟩⟩⟩
   refine RW.tell 0 (v' := .slice A2 (lt0_0.set it8_0.toNat (⟨(rd lt0_0 it8_0).ID, (rd lt0_0 it8_0).Size, y2, (rd lt0_0 it8_0).Late⟩ : Device)).length c_2) (by simp only [List.length_set]) rfl ?_
   refine RW.tell 13 (v' := .slice A2 (lt0_0.set it8_0.toNat (⟨(rd lt0_0 it8_0).ID, (rd lt0_0 it8_0).Size, y2, (rd lt0_0 it8_0).Late⟩ : Device)).length c_2) (by simp only [List.length_set]) rfl ?_
   obtain ⟨g4, H⟩ := guard_some H
   obtain ⟨ad4, A11, c_11, A12, c_12, e4, a4, l7, h25, l8, h26⟩ := kDeviceR_ato h24 g4.1 g4.2
   refine RW.index tabOk g4.1 g4.2 e4 ⟨rfl, rfl, rfl, rfl⟩ rfl rfl rfl rfl rfl rfl ?_
   refine RW.pure tabOk 1 rfl ?_
   have h27 := h18.turnL x5 ⟨⟨.inl (show (93 : Nat) ≠ 84 by decide), trivial⟩, trivial⟩ trivial
   refine RW.storeElX (y := (⟨(rd (lt0_0.set it8_0.toNat (⟨(rd lt0_0 it8_0).ID, (rd lt0_0 it8_0).Size, y2, (rd lt0_0 it8_0).Late⟩ : Device)) it8_0).ID, (rd (lt0_0.set it8_0.toNat (⟨(rd lt0_0 it8_0).ID, (rd lt0_0 it8_0).Size, y2, (rd lt0_0 it8_0).Late⟩ : Device)) it8_0).Size, (rd (lt0_0.set it8_0.toNat (⟨(rd lt0_0 it8_0).ID, (rd lt0_0 it8_0).Size, y2, (rd lt0_0 it8_0).Late⟩ : Device)) it8_0).Free, y3⟩ : Device)) (lv := [(w4.heap.size, some w5.heap.size, some 93)]) (k := 3) tabOk h24 (j := it8_0.toNat) (by have := g4; omega) default [.slice A8 y3.length c_8] (fun cs ok' hr => by obtain ⟨qa1, qc1, qa2, qc2, rfl, ql1, q1, ql2, q2⟩ := kDeviceR_open hr; exact ⟨by simp, kDeviceR_mk (⟨(rd (lt0_0.set it8_0.toNat (⟨(rd lt0_0 it8_0).ID, (rd lt0_0 it8_0).Size, y2, (rd lt0_0 it8_0).Late⟩ : Device)) it8_0).ID, (rd (lt0_0.set it8_0.toNat (⟨(rd lt0_0 it8_0).ID, (rd lt0_0 it8_0).Size, y2, (rd lt0_0 it8_0).Late⟩ : Device)) it8_0).Size, (rd (lt0_0.set it8_0.toNat (⟨(rd lt0_0 it8_0).ID, (rd lt0_0 it8_0).Size, y2, (rd lt0_0 it8_0).Late⟩ : Device)) it8_0).Free, y3⟩ : Device) ql1 (q1.mono fun _ _ ho => Or.inl ho) h27.len (Sl.mono h27.slL fun _ _ ho => Or.inr (okL_sub (l := [(w4.heap.size, some w5.heap.size, some 93)]) (l' := [(w4.heap.size, some w5.heap.size, some 93)]) ⟨(.inl ⟨by omega, by omega, rfl⟩), trivial⟩ ho))⟩) ⟨⟨.inl (show (93 : Nat) ≠ 84 by decide), trivial⟩, trivial⟩ ⟨rfl, rfl, rfl⟩ rfl rfl e4 rfl rfl rfl rfl rfl ?_
   intro w7 x6 Xx6 h28
   have sx6 := x6.size
   have h29 := h28.close.sub (l' := [(w.heap.size, some w2.heap.size, some 84)]) (li' := [(0, some w.heap.size, none), (w.heap.size, some w5.heap.size, some 93)]) ⟨(.inl ⟨by omega, by omega, rfl⟩), trivial⟩ ⟨(.inl ⟨by omega, by omega, trivial⟩), ⟨(.inr (.inl ⟨by omega, by omega, rfl⟩)), ⟨(.inr (.inl ⟨by omega, by omega, rfl⟩)), trivial⟩⟩⟩
   refine RW.tell 0 (v' := .slice A2 ((lt0_0.set it8_0.toNat (⟨(rd lt0_0 it8_0).ID, (rd lt0_0 it8_0).Size, y2, (rd lt0_0 it8_0).Late⟩ : Device)).set it8_0.toNat (⟨(rd (lt0_0.set it8_0.toNat (⟨(rd lt0_0 it8_0).ID, (rd lt0_0 it8_0).Size, y2, (rd lt0_0 it8_0).Late⟩ : Device)) it8_0).ID, (rd (lt0_0.set it8_0.toNat (⟨(rd lt0_0 it8_0).ID, (rd lt0_0 it8_0).Size, y2, (rd lt0_0 it8_0).Late⟩ : Device)) it8_0).Size, (rd (lt0_0.set it8_0.toNat (⟨(rd lt0_0 it8_0).ID, (rd lt0_0 it8_0).Size, y2, (rd lt0_0 it8_0).Late⟩ : Device)) it8_0).Free, y3⟩ : Device)).length c_2) (by simp only [List.length_set]) rfl ?_
   refine RW.done ?_
   refine NW.norm_block (NW.next ?_)
   refine CW.lex [.W, .W] rfl ?_
   refine RW.pure tabOk 2 rfl ?_
   refine RW.done ?_
   have h30 := Ext.turn (Ext.turn (Ext.trans (Ext.trans (Ext.trans x0_0 x2) x3) x4) x5 ⟨by omega, trivial⟩) x6 ⟨by omega, trivial⟩
   have hno : ∀ b, okL [(w.heap.size, none, some 93)] b (some 84) → False := fun b h => by rcases h with ⟨_, _, h⟩ | h; exact absurd h (show ¬ ((some 84 : Option TypeId) = some 93) by decide); exact h.elim
   have Xx5' : Laid kDeviceO _ _ _ _ _ 2 _ := Xx5
   have Xx6' : Laid kDeviceO _ _ _ _ _ 3 _ := Xx6
   have pt := ((((hpt.ext x2).ext x3).ext x4).store (y := (⟨(rd lt0_0 it8_0).ID, (rd lt0_0 it8_0).Size, y2, (rd lt0_0 it8_0).Late⟩ : Device)) x5 Xx5' (Nat.le_refl _) hno).store (y := (⟨(rd (lt0_0.set it8_0.toNat (⟨(rd lt0_0 it8_0).ID, (rd lt0_0 it8_0).Size, y2, (rd lt0_0 it8_0).Late⟩ : Device)) it8_0).ID, (rd (lt0_0.set it8_0.toNat (⟨(rd lt0_0 it8_0).ID, (rd lt0_0 it8_0).Size, y2, (rd lt0_0 it8_0).Late⟩ : Device)) it8_0).Size, (rd (lt0_0.set it8_0.toNat (⟨(rd lt0_0 it8_0).ID, (rd lt0_0 it8_0).Size, y2, (rd lt0_0 it8_0).Late⟩ : Device)) it8_0).Free, y3⟩ : Device)) x6 Xx6' (Nat.le_refl _) hno
   have at1 := ((((a1.ext x3).ext x4).here Xx5 (d := kDeviceR) e1 (Nat.le_of_ble_eq_true rfl)).here Xx6 (d := kDeviceR) e1 (Nat.le_of_ble_eq_true rfl))
   have q1 := ((h14.ext x4).turnL x5 ⟨⟨.inl (show (93 : Nat) ≠ 84 by decide), trivial⟩, trivial⟩ trivial).turnL x6 ⟨⟨.inl (show (93 : Nat) ≠ 84 by decide), trivial⟩, trivial⟩ trivial
   have q2 := (h18.turnL x5 ⟨⟨.inl (show (93 : Nat) ≠ 84 by decide), trivial⟩, trivial⟩ trivial).turnL x6 ⟨⟨.inl (show (93 : Nat) ≠ 84 by decide), trivial⟩, trivial⟩ trivial
   have lj : it8_0.toNat < lt0_0.length := by have := g1; omega
   have er : rd (lt0_0.set it8_0.toNat (⟨(rd lt0_0 it8_0).ID, (rd lt0_0 it8_0).Size, y2, (rd lt0_0 it8_0).Late⟩ : Device)) it8_0 = (⟨(rd lt0_0 it8_0).ID, (rd lt0_0 it8_0).Size, y2, (rd lt0_0 it8_0).Late⟩ : Device) := by unfold rd; rw [List.getD_eq_getElem?_getD, List.getElem?_set_self lj]; rfl
   have eg : ((lt0_0.set it8_0.toNat (⟨(rd lt0_0 it8_0).ID, (rd lt0_0 it8_0).Size, y2, (rd lt0_0 it8_0).Late⟩ : Device)).set it8_0.toNat (⟨(rd (lt0_0.set it8_0.toNat (⟨(rd lt0_0 it8_0).ID, (rd lt0_0 it8_0).Size, y2, (rd lt0_0 it8_0).Late⟩ : Device)) it8_0).ID, (rd (lt0_0.set it8_0.toNat (⟨(rd lt0_0 it8_0).ID, (rd lt0_0 it8_0).Size, y2, (rd lt0_0 it8_0).Late⟩ : Device)) it8_0).Size, (rd (lt0_0.set it8_0.toNat (⟨(rd lt0_0 it8_0).ID, (rd lt0_0 it8_0).Size, y2, (rd lt0_0 it8_0).Late⟩ : Device)) it8_0).Free, y3⟩ : Device)).getD it8_0.toNat default = (⟨(rd lt0_0 it8_0).ID, (rd lt0_0 it8_0).Size, y2, y3⟩ : Device) := by rw [List.getD_eq_getElem?_getD, List.getElem?_set_self (by rw [List.length_set]; exact lj), er]; rfl
   have rp : kDeviceO.rep w7.heap (okL [(w.heap.size, none, some 93)]) [.int .i64 (rd lt0_0 it8_0).ID, .int .i64 (rd lt0_0 it8_0).Size, .slice A7 y2.length c_7, .slice A8 y3.length c_8] (((lt0_0.set it8_0.toNat (⟨(rd lt0_0 it8_0).ID, (rd lt0_0 it8_0).Size, y2, (rd lt0_0 it8_0).Late⟩ : Device)).set it8_0.toNat (⟨(rd (lt0_0.set it8_0.toNat (⟨(rd lt0_0 it8_0).ID, (rd lt0_0 it8_0).Size, y2, (rd lt0_0 it8_0).Late⟩ : Device)) it8_0).ID, (rd (lt0_0.set it8_0.toNat (⟨(rd lt0_0 it8_0).ID, (rd lt0_0 it8_0).Size, y2, (rd lt0_0 it8_0).Late⟩ : Device)) it8_0).Size, (rd (lt0_0.set it8_0.toNat (⟨(rd lt0_0 it8_0).ID, (rd lt0_0 it8_0).Size, y2, (rd lt0_0 it8_0).Late⟩ : Device)) it8_0).Free, y3⟩ : Device)).getD it8_0.toNat default) := by rw [eg]; exact kDeviceO_mk (⟨(rd lt0_0 it8_0).ID, (rd lt0_0 it8_0).Size, y2, y3⟩ : Device) (q1.sub (l' := [(w.heap.size, none, some 93)]) (li' := [(w.heap.size, none, some 93)]) ⟨(.inl ⟨by omega, trivial, rfl⟩), trivial⟩ trivial) (q2.sub (l' := [(w.heap.size, none, some 93)]) (li' := [(w.heap.size, none, some 93)]) ⟨(.inl ⟨by omega, trivial, rfl⟩), trivial⟩ trivial)
   have sh := h6.short
   have ew : w64 (it8_0 + 1) = it8_0 + 1 := w64_id (by omega) (by simp only [maxLen] at sh; omega)
   exact NW.J fun a ha => ⟨n1, Nat.lt_succ_self n1, ((lt0_0.set it8_0.toNat (⟨(rd lt0_0 it8_0).ID, (rd lt0_0 it8_0).Size, y2, (rd lt0_0 it8_0).Late⟩ : Device)).set it8_0.toNat (⟨(rd (lt0_0.set it8_0.toNat (⟨(rd lt0_0 it8_0).ID, (rd lt0_0 it8_0).Size, y2, (rd lt0_0 it8_0).Late⟩ : Device)) it8_0).ID, (rd (lt0_0.set it8_0.toNat (⟨(rd lt0_0 it8_0).ID, (rd lt0_0 it8_0).Size, y2, (rd lt0_0 it8_0).Late⟩ : Device)) it8_0).Size, (rd (lt0_0.set it8_0.toNat (⟨(rd lt0_0 it8_0).ID, (rd lt0_0 it8_0).Size, y2, (rd lt0_0 it8_0).Late⟩ : Device)) it8_0).Free, y3⟩ : Device)), (w64 (it8_0 + 1)), ha.sub ⟨rfl, rfl, rfl, trivial⟩, by omega, (h29.sub ⟨(.inl ⟨by omega, trivial, rfl⟩), trivial⟩ ⟨(.inl ⟨by omega, by omega, trivial⟩), ⟨(.inr (.inl ⟨by omega, trivial, rfl⟩)), trivial⟩⟩), h30, (by (try simp only [List.length_set]) <;> omega), by simp only [List.length_set]; exact hln, by omega, (by rw [show (w64 (it8_0 + 1)).toNat = it8_0.toNat + 1 by omega]; exact pt.snoc e1 rp at1), H⟩
  ·
   rw [if_neg c1] at H
   refine CW.cond_f rfl (decide_eq_false c1) ?_
   refine CW.exit ?_
   refine NW.exit_then (NW.exit_then (NW.exit_hit ?_))
   refine NW.next ?_
   refine CW.seq ?_
   refine CW.lex [.W, .W] rfl ?_
   refine RW.pure tabOk 2 rfl ?_
   refine RW.done ?_
   refine NW.next ?_
   refine CW.ret ?_
   obtain rfl := Option.some.inj H
   have hno : ∀ b, okL [(w.heap.size, none, some 93)] b (some 84) → False := fun b h => by rcases h with ⟨_, _, h⟩ | h; exact absurd h (show ¬ ((some 84 : Option TypeId) = some 93) by decide); exact h.elim
   exact NW.ret1 rfl (by rfl) ⟨A2, c_2, rfl, x0_0, ((h6.sub (l' := [(w.heap.size, none, some 84)]) (li' := [(0, some w.heap.size, none), (w.heap.size, none, some 93)]) ⟨(.inl ⟨by omega, trivial, rfl⟩), trivial⟩ ⟨(.inl ⟨by omega, by omega, trivial⟩), ⟨(.inr (.inl ⟨by omega, trivial, rfl⟩)), trivial⟩⟩).upgrade (d := kDeviceO) rfl hpt (by omega) hno)⟩

set_option maxHeartbeats 4000000 in
set_option maxRecDepth 100000 in
theorem math_bits_OnesCount64.calls (p0 : Int) (r : Int) (w : World) (H : math_bits_OnesCount64.f p0 = some r) :
    Calls Tryd.prog 79 #[.int .u64 p0] w fun e w' => e = .returned (.int .i64 r) ∧ Ext w w' := by
 have x0 : Ext w w := Upd.refl _ w
 unfold math_bits_OnesCount64.f at H
 refine calls_start Tryd.func79 rfl 35 rfl [.int .u64 p0] rfl ?_
 refine CW.seq ?_
 refine CW.lex [.W] rfl ?_
 refine RW.pure tabOk 1 rfl ?_
 refine RW.done ?_
 refine NW.next ?_
 refine CW.seq ?_
 refine CW.lex [.W, .W, .W, .W, .W, .W, .W] rfl ?_
 refine RW.pure tabOk 1 rfl ?_
 refine RW.shift (by omega) ⟨rfl, rfl, rfl, rfl⟩ rfl rfl rfl rfl ?_
 refine RW.pure tabOk 5 rfl ?_
 refine RW.done ?_
 refine NW.next ?_
 refine CW.seq ?_
 refine CW.lex [.W, .W, .W, .W, .W, .W, .W] rfl ?_
 refine RW.pure tabOk 1 rfl ?_
 refine RW.shift (by omega) ⟨rfl, rfl, rfl, rfl⟩ rfl rfl rfl rfl ?_
 refine RW.pure tabOk 5 rfl ?_
 refine RW.done ?_
 refine NW.next ?_
 refine CW.seq ?_
 refine CW.lex [.W, .W, .W, .W, .W, .W] rfl ?_
 refine RW.pure tabOk 1 rfl ?_
 refine RW.shift (by omega) ⟨rfl, rfl, rfl, rfl⟩ rfl rfl rfl rfl ?_
 refine RW.pure tabOk 4 rfl ?_
 refine RW.done ?_
 refine NW.next ?_
 refine CW.seq ?_
 refine CW.lex [.W, .W, .W, .W, .W] rfl ?_
 refine RW.pure tabOk 2 rfl ?_
 refine RW.shift (by omega) ⟨rfl, rfl, rfl, rfl⟩ rfl rfl rfl rfl ?_
 refine RW.pure tabOk 2 rfl ?_
 refine RW.done ?_
 refine NW.next ?_
 refine CW.seq ?_
 refine CW.lex [.W, .W, .W, .W, .W] rfl ?_
 refine RW.pure tabOk 2 rfl ?_
 refine RW.shift (by omega) ⟨rfl, rfl, rfl, rfl⟩ rfl rfl rfl rfl ?_
 refine RW.pure tabOk 2 rfl ?_
 refine RW.done ?_
 refine NW.next ?_
 refine CW.seq ?_
 refine CW.lex [.W, .W, .W, .W, .W] rfl ?_
 refine RW.pure tabOk 2 rfl ?_
 refine RW.shift (by omega) ⟨rfl, rfl, rfl, rfl⟩ rfl rfl rfl rfl ?_
 refine RW.pure tabOk 2 rfl ?_
 refine RW.done ?_
 refine NW.next ?_
 refine CW.seq ?_
 refine CW.lex [.W, .W, .W, .W] rfl ?_
 refine RW.pure tabOk 4 rfl ?_
 refine RW.done ?_
 refine NW.next ?_
 refine CW.ret ?_
 obtain rfl := Option.some.inj H
 exact NW.ret1 rfl (by rfl) ⟨rfl, x0⟩

set_option maxHeartbeats 4000000 in
set_option maxRecDepth 100000 in
theorem seg_Set_Count.calls (p0 : Int) (r : Int) (w : World) (H : seg_Set_Count.f p0 = some r) :
    Calls Tryd.prog 59 #[.int .u64 p0] w fun e w' => e = .returned (.int .i64 r) ∧ Ext w w' := by
 have x0 : Ext w w := Upd.refl _ w
 unfold seg_Set_Count.f at H
 refine calls_start Tryd.func59 rfl 5 rfl [.int .u64 p0] rfl ?_
 refine CW.seq ?_
 refine CW.lex [.W] rfl ?_
 refine RW.pure tabOk 1 rfl ?_
 refine RW.done ?_
 refine NW.next ?_
 refine CW.seq ?_
 refine CW.lex [.W, .X, .W] rfl ?_
 refine RW.pure tabOk 1 rfl ?_
 obtain ⟨y1, h1, H⟩ := bind_some H
 refine RW.callF (.inl rfl) ent79 ⟨rfl, rfl, rfl, rfl⟩ rfl rfl (math_bits_OnesCount64.calls p0 _ _ h1) ?_
 rintro _ w1 ⟨rfl, x1⟩
 refine ⟨_, rfl, x1, ?_⟩
 have sx1 := x1.size
 refine RW.pure tabOk 1 rfl ?_
 refine RW.done ?_
 refine NW.next ?_
 refine CW.ret ?_
 obtain rfl := Option.some.inj H
 have h2 := Ext.trans x0 x1
 exact NW.ret1 rfl (by rfl) ⟨rfl, h2⟩

set_option maxHeartbeats 4000000 in
set_option maxRecDepth 100000 in
theorem room_Free.calls (k : Nat) (A1 : Option Addr) (c_1 : Nat) (p0 : List Device) (p1 : Int) (r : Int) (w : World) (hs1 : Sl kDeviceR w.heap okAll A1 p0) (hl1 : p0.length ≤ c_1) (H : room_Free.f k p0 p1 = some r) :
    Calls Tryd.prog 69 #[.slice A1 p0.length c_1, .int .i64 p1] w fun e w' => e = .returned (.int .i64 r) ∧ Ext w w' := by
 have h1 : Sl kDeviceR w.heap (okL [(0, some w.heap.size, none)]) A1 p0 := hs1.old _ rfl
 have x0 : Ext w w := Upd.refl _ w
 unfold room_Free.f at H
 refine calls_start Tryd.func69 rfl 26 rfl [.slice A1 p0.length c_1, .int .i64 p1] rfl ?_
 refine CW.seq ?_
 refine CW.lex [.W] rfl ?_
 refine RW.pure tabOk 1 rfl ?_
 refine RW.done ?_
 refine NW.next ?_
 refine CW.seq ?_
 refine CW.lex [.W] rfl ?_
 refine RW.pure tabOk 1 rfl ?_
 refine RW.done ?_
 refine NW.next ?_
 refine CW.seq ?_
 refine CW.seq ?_
 refine CW.lex [.W, .W, .W] rfl ?_
 refine RW.pure tabOk 3 rfl ?_
 refine RW.done ?_
 refine NW.next ?_
 refine CW.block ?_
 refine CW.loop (fun n1 a w1 => ∃ (it5_0 : Int) (it10_0 : Int), Sat 26 [(1, .int .i64 p1), (5, .int .i64 it5_0), (8, .slice A1 p0.length c_1), (9, .int .i64 (p0.length : Int)), (10, .int .i64 it10_0)] a ∧ w.heap.size ≤ w1.heap.size ∧ Sl kDeviceR w1.heap (okL [(0, some w.heap.size, none)]) A1 p0 ∧ Ext w w1 ∧ room_Free.l0 p0 p1 k n1 it5_0 it10_0 = some r) k ?_ ?_
 · exact fun a ha => ⟨0, 0, ha.sub ⟨rfl, rfl, rfl, rfl, rfl, trivial⟩, by omega, h1, x0, H⟩
 intro n1 a w1 hI hp
 obtain ⟨it5_0, it10_0, hS, hle, gF1_0, x0_0, H⟩ := hI
 cases n1 with
 | zero => cases H
 | succ n1 =>
  rw [room_Free.l0] at H
  refine CW.go hp hS ?_
  refine CW.seq ?_
  refine CW.lex [.W] rfl ?_
  refine RW.pure tabOk 1 rfl ?_
  refine RW.done ?_
  refine NW.next ?_
  refine CW.seq ?_
  by_cases c1 : it10_0 < (p0.length : Int)
  ·
   rw [if_pos c1] at H
   refine CW.cond_t rfl (decide_eq_true c1) ?_
   refine CW.skip ?_
   refine NW.next ?_
   refine CW.seqJ (fun a w2 => ∃ (it5_1 : Int), Sat 26 [(1, .int .i64 p1), (5, .int .i64 it5_1), (8, .slice A1 p0.length c_1), (9, .int .i64 (p0.length : Int)), (10, .int .i64 it10_0)] a ∧ w1.heap.size ≤ w2.heap.size ∧ Sl kDeviceR w2.heap (okL [(0, some w.heap.size, none)]) A1 p0 ∧ Ext w w2 ∧ room_Free.j0 it10_0 (room_Free.l0 p0 p1 k n1) it5_1 = some r) ?_ ?_
   ·
    refine CW.block ?_
    refine CW.seq ?_
    refine CW.lex [.W, .L, .X, .M] rfl ?_
    obtain ⟨g1, H⟩ := guard_some H
    obtain ⟨ad1, A2, c_2, A3, c_3, e1, a1, l1, h2, l2, h3⟩ := kDeviceR_at gF1_0 g1.1 g1.2
    refine RW.index tabOk g1.1 g1.2 e1 ⟨rfl, rfl, rfl, rfl⟩ rfl rfl rfl rfl rfl rfl ?_
    refine RW.load tabOk [.int .i64 ((rd p0 it10_0).ID), .int .i64 ((rd p0 it10_0).Size), .slice A2 ((rd p0 it10_0).Free).length c_2, .slice A3 ((rd p0 it10_0).Late).length c_3] a1 ⟨rfl, rfl, rfl, rfl⟩ rfl rfl rfl rfl ?_
    refine RW.alloc tabOk (.inl rfl) ⟨rfl, rfl, rfl, rfl⟩ rfl rfl ?_
    intro b1 w3 x1 l3 h4
    have sx1 := x1.size
    have ltb1 := h4.lt
    refine RW.storeBox tabOk h4 [.int .i64 ((rd p0 it10_0).ID), .int .i64 ((rd p0 it10_0).Size), .slice A2 ((rd p0 it10_0).Free).length c_2, .slice A3 ((rd p0 it10_0).Late).length c_3] ⟨rfl, rfl, rfl⟩ rfl rfl rfl rfl rfl rfl rfl rfl ?_
    intro w4 x2 h5
    have h6 : Box w4.heap b1 84 [.int .i64 ((rd p0 it10_0).ID), .int .i64 ((rd p0 it10_0).Size), .slice A2 ((rd p0 it10_0).Free).length c_2, .slice A3 ((rd p0 it10_0).Late).length c_3] := h5
    have sx2 := x2.size
    refine RW.done ?_
    refine NW.next ?_
    refine CW.seq ?_
    refine CW.lex [.W, .L, .W, .W] rfl ?_
    refine RW.pure tabOk 1 rfl ?_
    refine RW.load tabOk [.int .i64 ((rd p0 it10_0).ID)] ((h6.at 0).take 1 rfl) ⟨rfl, rfl, rfl, rfl⟩ rfl rfl rfl rfl ?_
    refine RW.pure tabOk 2 rfl ?_
    refine RW.done ?_
    refine NW.next ?_
    by_cases c2 : (rd p0 it10_0).ID = p1
    ·
     rw [if_pos c2] at H
     refine CW.cond_f rfl (bne_f c2) ?_
     refine CW.skip ?_
     refine NW.norm_block ?_
     have h7 := (gF1_0.ext x1).turnB x2 h4 ⟨.inr (by omega), trivial⟩
     have h8 := Ext.turnB (Ext.trans x0_0 x1) x2 (by omega)
     exact NW.J fun a ha => ⟨it5_0, ha.sub ⟨rfl, rfl, rfl, rfl, rfl, trivial⟩, by omega, h7, h8, H⟩
    ·
     rw [if_neg c2] at H
     refine CW.cond_t rfl (bne_t c2) ?_
     refine CW.lex [.W, .W, .L, .X, .X, .W, .W] rfl ?_
     refine RW.pure tabOk 2 rfl ?_
     refine RW.load tabOk [.slice A2 ((rd p0 it10_0).Free).length c_2] ((h6.at 2).take 1 rfl) ⟨rfl, rfl, rfl, rfl⟩ rfl rfl rfl rfl ?_
     have h9 := (h2.ext x1).turnB x2 h4 ⟨.inr (by omega), trivial⟩
     obtain ⟨y1, h10, H⟩ := bind_some H
     refine RW.callF (.inl rfl) ent52 ⟨rfl, rfl, rfl, rfl⟩ rfl rfl (seg_Make.calls k A2 c_2 ((rd p0 it10_0).Free) _ _ h9.all l1 h10) ?_
     rintro _ w5 ⟨rfl, x3⟩
     refine ⟨_, rfl, x3, ?_⟩
     have sx3 := x3.size
     obtain ⟨y2, h11, H⟩ := bind_some H
     refine RW.callF (.inl rfl) ent59 ⟨rfl, rfl, rfl, rfl⟩ rfl rfl (seg_Set_Count.calls y1 _ _ h11) ?_
     rintro _ w6 ⟨rfl, x4⟩
     refine ⟨_, rfl, x4, ?_⟩
     have sx4 := x4.size
     refine RW.pure tabOk 2 rfl ?_
     refine RW.done ?_
     refine NW.norm_block ?_
     have h12 := (((gF1_0.ext x1).turnB x2 h4 ⟨.inr (by omega), trivial⟩).ext x3).ext x4
     have h13 := Ext.trans (Ext.trans (Ext.turnB (Ext.trans x0_0 x1) x2 (by omega)) x3) x4
     exact NW.J fun a ha => ⟨(w64 (it5_0 + y2)), ha.sub ⟨rfl, rfl, rfl, rfl, rfl, trivial⟩, by omega, h12, h13, H⟩
   intro a w2 hJ hp
   obtain ⟨it5_1, hS, hle, gF1_1, x0_1, H⟩ := hJ
   unfold room_Free.j0 at H
   refine CW.go hp hS ?_
   refine CW.lex [.W, .W] rfl ?_
   refine RW.pure tabOk 2 rfl ?_
   refine RW.done ?_
   exact NW.J fun a ha => ⟨n1, Nat.lt_succ_self n1, it5_1, (w64 (it10_0 + 1)), ha.sub ⟨rfl, rfl, rfl, rfl, rfl, trivial⟩, by omega, gF1_1, x0_1, H⟩
  ·
   rw [if_neg c1] at H
   refine CW.cond_f rfl (decide_eq_false c1) ?_
   refine CW.exit ?_
   refine NW.exit_then (NW.exit_then (NW.exit_hit ?_))
   refine NW.next ?_
   refine CW.seq ?_
   refine CW.lex [.W, .W] rfl ?_
   refine RW.pure tabOk 2 rfl ?_
   refine RW.done ?_
   refine NW.next ?_
   refine CW.ret ?_
   obtain rfl := Option.some.inj H
   exact NW.ret1 rfl (by rfl) ⟨rfl, x0_0⟩

set_option maxHeartbeats 4000000 in
set_option maxRecDepth 100000 in
theorem math_bits_TrailingZeros64.calls (p0 : Int) (r : Int) (w : World) {gT : Nat} (hG : Box w.heap 0 gT (arrI .u8 64 tz)) (H : math_bits_TrailingZeros64.f p0 = some r) :
    Calls Tryd.prog 100 #[.int .u64 p0] w fun e w' => e = .returned (.int .i64 r) ∧ Ext w w' := by
 have hG0 : 0 < w.heap.size := hG.lt
 have x0 : Ext w w := Upd.refl _ w
 unfold math_bits_TrailingZeros64.f at H
 refine calls_start Tryd.func100 rfl 14 rfl [.int .u64 p0] rfl ?_
 refine CW.seq ?_
 refine CW.lex [.W] rfl ?_
 refine RW.pure tabOk 1 rfl ?_
 refine RW.done ?_
 refine NW.next ?_
 refine CW.seq ?_
 refine CW.seq ?_
 refine CW.lex [.W, .W] rfl ?_
 refine RW.pure tabOk 2 rfl ?_
 refine RW.done ?_
 refine NW.next ?_
 by_cases c1 : p0 = 0
 ·
  rw [if_pos c1] at H
  refine CW.cond_t rfl (beq_t c1) ?_
  refine CW.seq ?_
  refine CW.lex [.W] rfl ?_
  refine RW.pure tabOk 1 rfl ?_
  refine RW.done ?_
  refine NW.next ?_
  refine CW.ret ?_
  refine NW.ret_then ?_
  obtain rfl := Option.some.inj H
  exact NW.ret1 rfl (by rfl) ⟨rfl, x0⟩
 ·
  rw [if_neg c1] at H
  refine CW.cond_f rfl (beq_f c1) ?_
  refine CW.skip ?_
  refine NW.next ?_
  refine CW.seq ?_
  refine CW.lex [.W, .W, .W, .W, .W, .W, .W, .L, .W, .W] rfl ?_
  refine RW.pure tabOk 2 rfl ?_
  refine RW.neg ⟨rfl, rfl, rfl, rfl⟩ rfl rfl ?_
  refine RW.pure tabOk 2 rfl ?_
  refine RW.shift (by omega) ⟨rfl, rfl, rfl, rfl⟩ rfl rfl rfl rfl ?_
  obtain ⟨g1, H⟩ := guard_some H
  refine RW.indexBox tabOk g1.1 g1.2 ⟨rfl, rfl, rfl, rfl⟩ rfl rfl rfl rfl rfl rfl rfl ?_
  refine RW.load tabOk [.int .u8 (tz ((wu64 ((uand p0 (wu64 (0 - p0))) * 285870213051353865)).fdiv (2 ^ min (58 : Int).toNat 64)).toNat)] (hG.elF (by have := g1; omega)) ⟨rfl, rfl, rfl, rfl⟩ rfl rfl rfl rfl ?_
  refine RW.pure tabOk 2 rfl ?_
  refine RW.done ?_
  refine NW.next ?_
  refine CW.ret ?_
  obtain rfl := Option.some.inj H
  exact NW.ret1 rfl (by rfl) ⟨rfl, x0⟩

set_option maxHeartbeats 4000000 in
set_option maxRecDepth 100000 in
theorem seg_Set_Least.calls (p0 : Int) (r : Int) (w : World) {gT : Nat} (hG : Box w.heap 0 gT (arrI .u8 64 tz)) (H : seg_Set_Least.f p0 = some r) :
    Calls Tryd.prog 80 #[.int .u64 p0] w fun e w' => e = .returned (.int .i64 r) ∧ Ext w w' := by
 have hG0 : 0 < w.heap.size := hG.lt
 have x0 : Ext w w := Upd.refl _ w
 unfold seg_Set_Least.f at H
 refine calls_start Tryd.func80 rfl 5 rfl [.int .u64 p0] rfl ?_
 refine CW.seq ?_
 refine CW.lex [.W] rfl ?_
 refine RW.pure tabOk 1 rfl ?_
 refine RW.done ?_
 refine NW.next ?_
 refine CW.seq ?_
 refine CW.lex [.W, .X, .W] rfl ?_
 refine RW.pure tabOk 1 rfl ?_
 obtain ⟨y1, h1, H⟩ := bind_some H
 refine RW.callF (.inl rfl) ent100 ⟨rfl, rfl, rfl, rfl⟩ rfl rfl (math_bits_TrailingZeros64.calls p0 _ _ hG h1) ?_
 rintro _ w1 ⟨rfl, x1⟩
 refine ⟨_, rfl, x1, ?_⟩
 have sx1 := x1.size
 refine RW.pure tabOk 1 rfl ?_
 refine RW.done ?_
 refine NW.next ?_
 refine CW.ret ?_
 obtain rfl := Option.some.inj H
 have h2 := Ext.trans x0 x1
 exact NW.ret1 rfl (by rfl) ⟨rfl, h2⟩

set_option maxHeartbeats 4000000 in
set_option maxRecDepth 100000 in
theorem seg_Set_Sectors.calls (k : Nat) (p0 : Int) (r : (List Int)) (w : World) {gT : Nat} (hG : Box w.heap 0 gT (arrI .u8 64 tz)) (H : seg_Set_Sectors.f k p0 = some r) :
    Calls Tryd.prog 60 #[.int .u64 p0] w fun e w' => ∃ (B1 : Option Addr) (d1 : Nat), e = .returned (.slice B1 r.length d1) ∧ Ext w w' ∧ Ow (Kd.int .i64) 3 w'.heap (okL [(w.heap.size, none, some 3)]) (okL []) B1 d1 r := by
 have hG0 : 0 < w.heap.size := hG.lt
 have x0 : Ext w w := Upd.refl _ w
 unfold seg_Set_Sectors.f at H
 refine calls_start Tryd.func60 rfl 15 rfl [.int .u64 p0] rfl ?_
 refine CW.seq ?_
 refine CW.lex [.W] rfl ?_
 refine RW.pure tabOk 1 rfl ?_
 refine RW.done ?_
 refine NW.next ?_
 refine CW.seq ?_
 refine CW.block ?_
 refine CW.loop (fun n1 a w1 => ∃ (it0_0 : Int) (lt2_0 : List Int) (At2_0 : Option Addr) (ct2_0 : Nat), Sat 15 [(0, .int .u64 it0_0), (2, .slice At2_0 lt2_0.length ct2_0)] a ∧ w.heap.size ≤ w1.heap.size ∧ Ow (Kd.int .i64) 3 w1.heap (okL [(w.heap.size, none, some 3)]) (okL []) At2_0 ct2_0 lt2_0 ∧ Ext w w1 ∧ Box w1.heap 0 gT (arrI .u8 64 tz) ∧ seg_Set_Sectors.l0 n1 it0_0 lt2_0 = some r) k ?_ ?_
 · exact fun a ha => ⟨p0, ([] : List Int), none, 0, ha.sub ⟨rfl, rfl, trivial⟩, by omega, Ow.nil, x0, hG, H⟩
 intro n1 a w1 hI hp
 obtain ⟨it0_0, lt2_0, At2_0, ct2_0, hS, hle, ft2_0, x0_0, g0_0, H⟩ := hI
 cases n1 with
 | zero => cases H
 | succ n1 =>
  rw [seg_Set_Sectors.l0] at H
  refine CW.go hp hS ?_
  have h1 : Ow (Kd.int .i64) 3 w1.heap (okL [(w.heap.size, some w1.heap.size, some 3)]) (okL []) At2_0 ct2_0 lt2_0 := ft2_0.close
  refine CW.seq ?_
  refine CW.seq ?_
  refine CW.lex [.W, .W] rfl ?_
  refine RW.pure tabOk 2 rfl ?_
  refine RW.done ?_
  refine NW.next ?_
  by_cases c1 : it0_0 = 0
  ·
   rw [if_pos c1] at H
   refine CW.cond_f rfl (bne_f c1) ?_
   refine CW.exit ?_
   refine NW.exit_then (NW.exit_then (NW.exit_hit ?_))
   refine NW.next ?_
   refine CW.seq ?_
   refine CW.lex [.W, .W] rfl ?_
   refine RW.pure tabOk 2 rfl ?_
   refine RW.done ?_
   refine NW.next ?_
   refine CW.ret ?_
   obtain rfl := Option.some.inj H
   exact NW.ret1 rfl (by rfl) ⟨At2_0, ct2_0, rfl, x0_0, (h1.sub (l' := [(w.heap.size, none, some 3)]) (li' := []) ⟨(.inl ⟨by omega, trivial, rfl⟩), trivial⟩ trivial)⟩
  ·
   rw [if_neg c1] at H
   refine CW.cond_t rfl (bne_t c1) ?_
   refine CW.skip ?_
   refine NW.next ?_
   refine CW.seq ?_
   refine CW.block ?_
   refine CW.lex [.W, .W, .X, .X, .M, .W] rfl ?_
   refine RW.pure tabOk 2 rfl ?_
   obtain ⟨y1, h2, H⟩ := bind_some H
   refine RW.callF (.inl rfl) ent80 ⟨rfl, rfl, rfl, rfl⟩ rfl rfl (seg_Set_Least.calls it0_0 _ _ g0_0 h2) ?_
   rintro _ w2 ⟨rfl, x1⟩
   refine ⟨_, rfl, x1, ?_⟩
   have sx1 := x1.size
   refine RW.buildSlice (cs := [.int .i64 y1]) tabOk (.inl rfl) ⟨rfl, rfl, rfl, rfl⟩ rfl rfl rfl rfl rfl rfl rfl ?_
   intro b1 w3 x2 l1 h3
   have sx2 := x2.size
   have ltb1 := h3.lt
   have h4 := (h1.ext x1).ext x2
   obtain ⟨g1, H⟩ := guard_some H
   refine RW.append1L (d := (Kd.int .i64)) (v := y1) (l := [(w.heap.size, some w1.heap.size, some 3)]) (li := []) (ly := []) (xs := lt2_0) tabOk h4 h3 rfl trivial (by simp only [maxLen]; omega) g1 ⟨rfl, rfl, rfl, rfl⟩ rfl rfl rfl rfl rfl rfl rfl ?_
   intro A1 c_1 w4 x3 h5
   have sx3 := x3.size
   have h6 := h5.close.sub (l' := [(w.heap.size, some w4.heap.size, some 3)]) (li' := []) ⟨(.inl ⟨by omega, by omega, rfl⟩), ⟨(.inl ⟨by omega, by omega, rfl⟩), trivial⟩⟩ trivial
   refine RW.pure tabOk 1 rfl ?_
   refine RW.done ?_
   refine NW.norm_block (NW.next ?_)
   refine CW.lex [.W, .W, .W, .W, .W] rfl ?_
   refine RW.pure tabOk 5 rfl ?_
   refine RW.done ?_
   have h7 := Ext.turn (Ext.trans (Ext.trans x0_0 x1) x2) x3 ⟨by omega, trivial⟩
   have h8 := ((g0_0.ext x1).ext x2).turnL x3 (.inr ⟨⟨.inr (.inl (by omega)), trivial⟩, trivial⟩)
   exact NW.J fun a ha => ⟨n1, Nat.lt_succ_self n1, (uand it0_0 (wu64 (it0_0 - 1))), (lt2_0 ++ [y1]), A1, c_1, ha.sub ⟨rfl, rfl, trivial⟩, by omega, (h6.sub ⟨(.inl ⟨by omega, trivial, rfl⟩), trivial⟩ trivial), h7, h8, H⟩

set_option maxHeartbeats 4000000 in
set_option maxRecDepth 100000 in
theorem seg_Set_Segs.calls (k : Nat) (p0 : Int) (r : (List Seg)) (w : World) {gT : Nat} (hG : Box w.heap 0 gT (arrI .u8 64 tz)) (H : seg_Set_Segs.f k p0 = some r) :
    Calls Tryd.prog 53 #[.int .u64 p0] w fun e w' => ∃ (B1 : Option Addr) (d1 : Nat), e = .returned (.slice B1 r.length d1) ∧ Ext w w' ∧ Ow kSeg 93 w'.heap (okL [(w.heap.size, none, some 93)]) (okL []) B1 d1 r := by
 have hG0 : 0 < w.heap.size := hG.lt
 have x0 : Ext w w := Upd.refl _ w
 unfold seg_Set_Segs.f at H
 refine calls_start Tryd.func53 rfl 50 rfl [.int .u64 p0] rfl ?_
 refine CW.seq ?_
 refine CW.lex [.W] rfl ?_
 refine RW.pure tabOk 1 rfl ?_
 refine RW.done ?_
 refine NW.next ?_
 refine CW.seq ?_
 refine CW.seq ?_
 refine CW.lex [.W, .X, .W, .W] rfl ?_
 refine RW.pure tabOk 1 rfl ?_
 obtain ⟨y1, h1, H⟩ := bind_some H
 refine RW.callF (.inl rfl) ent60 ⟨rfl, rfl, rfl, rfl⟩ rfl rfl (seg_Set_Sectors.calls k p0 _ _ hG h1) ?_
 rintro _ w1 ⟨A1, c_1, rfl, x1, h2⟩
 refine ⟨_, rfl, x1, ?_⟩
 have sx1 := x1.size
 have h3 : Ow (Kd.int .i64) 3 w1.heap (okL [(w.heap.size, some w1.heap.size, some 3)]) (okL []) A1 c_1 y1 := h2.close
 refine RW.pure tabOk 2 rfl ?_
 refine RW.done ?_
 refine NW.next ?_
 refine CW.block ?_
 refine CW.loop (fun n1 a w2 => ∃ (lt2_0 : List Seg) (At2_0 : Option Addr) (ct2_0 : Nat) (it9_0 : Int), Sat 50 [(2, .slice At2_0 lt2_0.length ct2_0), (7, .slice A1 y1.length c_1), (8, .int .i64 (y1.length : Int)), (9, .int .i64 it9_0)] a ∧ w1.heap.size ≤ w2.heap.size ∧ Ow kSeg 93 w2.heap (okL [(w1.heap.size, none, some 93)]) (okL []) At2_0 ct2_0 lt2_0 ∧ Ow (Kd.int .i64) 3 w2.heap (okL [(w.heap.size, some w1.heap.size, some 3)]) (okL []) A1 c_1 y1 ∧ Ext w w2 ∧ Box w2.heap 0 gT (arrI .u8 64 tz) ∧ seg_Set_Segs.l0 y1 n1 lt2_0 it9_0 = some r) k ?_ ?_
 have h4 := Ext.trans x0 x1
 have h5 := hG.ext x1
 · exact fun a ha => ⟨([] : List Seg), none, 0, 0, ha.sub ⟨rfl, rfl, rfl, rfl, trivial⟩, by omega, Ow.nil, h3, h4, h5, H⟩
 intro n1 a w2 hI hp
 obtain ⟨lt2_0, At2_0, ct2_0, it9_0, hS, hle, ft2_0, gF1_0, x0_0, g0_0, H⟩ := hI
 cases n1 with
 | zero => cases H
 | succ n1 =>
  rw [seg_Set_Segs.l0] at H
  refine CW.go hp hS ?_
  have h6 : Ow kSeg 93 w2.heap (okL [(w1.heap.size, some w2.heap.size, some 93)]) (okL []) At2_0 ct2_0 lt2_0 := ft2_0.close
  refine CW.seq ?_
  refine CW.lex [.W] rfl ?_
  refine RW.pure tabOk 1 rfl ?_
  refine RW.done ?_
  refine NW.next ?_
  refine CW.seq ?_
  by_cases c1 : it9_0 < (y1.length : Int)
  ·
   rw [if_pos c1] at H
   refine CW.cond_t rfl (decide_eq_true c1) ?_
   refine CW.skip ?_
   refine NW.next ?_
   refine CW.seqJ (fun a w3 => ∃ (lt2_1 : List Seg) (At2_1 : Option Addr) (ct2_1 : Nat), Sat 50 [(2, .slice At2_1 lt2_1.length ct2_1), (7, .slice A1 y1.length c_1), (8, .int .i64 (y1.length : Int)), (9, .int .i64 it9_0)] a ∧ w2.heap.size ≤ w3.heap.size ∧ Ow kSeg 93 w3.heap (okL [(w1.heap.size, none, some 93)]) (okL []) At2_1 ct2_1 lt2_1 ∧ Ow (Kd.int .i64) 3 w3.heap (okL [(w.heap.size, some w1.heap.size, some 3)]) (okL []) A1 c_1 y1 ∧ Ext w w3 ∧ Box w3.heap 0 gT (arrI .u8 64 tz) ∧ seg_Set_Segs.j0 it9_0 (seg_Set_Segs.l0 y1 n1) lt2_1 = some r) ?_ ?_
   ·
    refine CW.block ?_
    refine CW.seq ?_
    refine CW.lex [.W, .L, .W] rfl ?_
    obtain ⟨g1, H⟩ := guard_some H
    obtain ⟨ad1, e1, a1⟩ := at_i64 gF1_0.slL g1.1 g1.2
    refine RW.index tabOk g1.1 g1.2 e1 ⟨rfl, rfl, rfl, rfl⟩ rfl rfl rfl rfl rfl rfl ?_
    refine RW.load tabOk [.int .i64 (rd y1 it9_0)] a1 ⟨rfl, rfl, rfl, rfl⟩ rfl rfl rfl rfl ?_
    refine RW.pure tabOk 1 rfl ?_
    refine RW.done ?_
    refine NW.next ?_
    refine CW.seq ?_
    refine CW.seq ?_
    refine CW.lex [.W, .W, .W] rfl ?_
    refine RW.pure tabOk 3 rfl ?_
    refine RW.done ?_
    refine NW.next ?_
    refine CW.seqJ (fun a w4 => ∃ (bt33_2 : Bool), Sat 50 [(2, .slice At2_0 lt2_0.length ct2_0), (4, .int .i64 (rd y1 it9_0)), (5, .int .i64 (lt2_0.length : Int)), (7, .slice A1 y1.length c_1), (8, .int .i64 (y1.length : Int)), (9, .int .i64 it9_0), (33, .bool bt33_2)] a ∧ w2.heap.size ≤ w4.heap.size ∧ Ow kSeg 93 w4.heap (okL [(w1.heap.size, some w2.heap.size, some 93)]) (okL []) At2_0 ct2_0 lt2_0 ∧ Ow (Kd.int .i64) 3 w4.heap (okL [(w.heap.size, some w1.heap.size, some 3)]) (okL []) A1 c_1 y1 ∧ Ext w w4 ∧ Box w4.heap 0 gT (arrI .u8 64 tz) ∧ seg_Set_Segs.j1 y1 lt2_0 it9_0 (seg_Set_Segs.l0 y1 n1) bt33_2 = some r) ?_ ?_
    ·
     refine CW.ord [0, 1, 3, 7, 7, 23, 63, 127, 255, 7, 7, 1031, 3591, 7687, 15879, 32767, 7, 131071, 262143] (ofL [(0, .W), (1, .W), (2, .W), (3, .W), (4, .W), (5, .W), (6, .W), (7, .W), (9, .W), (10, .W), (11, .W), (12, .W), (13, .W), (16, .W), (8, .L), (14, .L), (15, .W), (17, .W), (18, .W)] .nil) mixed (by kernel_rfl) ?_
     intro w5 x2
     have sx2 := x2.size
     refine RW.pure tabOk 3 rfl ?_
     by_cases c2 : 0 < (lt2_0.length : Int)
     ·
      rw [if_pos c2] at H
      refine RW.bool 17 (b' := true) (decide_eq_true c2) rfl ?_
      refine RW.pure tabOk 3 rfl ?_
      obtain ⟨g2, H⟩ := guard_some H
      have h7 := h6.ext x2
      obtain ⟨ad2, e2, a2⟩ := kSeg_at h7.slL g2.1 g2.2
      refine RW.index tabOk g2.1 g2.2 e2 ⟨rfl, rfl, rfl, rfl⟩ rfl rfl rfl rfl rfl rfl ?_
      refine RW.pure tabOk 4 rfl ?_
      obtain ⟨g3, H⟩ := guard_some H
      obtain ⟨ad3, e3, a3⟩ := kSeg_at h7.slL g3.1 g3.2
      refine RW.index tabOk g3.1 g3.2 e3 ⟨rfl, rfl, rfl, rfl⟩ rfl rfl rfl rfl rfl rfl ?_
      refine RW.pure tabOk 2 rfl ?_
      refine RW.load tabOk [.int .i64 ((rd lt2_0 (w64 ((lt2_0.length : Int) - 1))).At)] ((a2.fld 0).take 1 rfl) ⟨rfl, rfl, rfl, rfl⟩ rfl rfl rfl rfl ?_
      refine RW.load tabOk [.int .i64 ((rd lt2_0 (w64 ((lt2_0.length : Int) - 1))).Len)] (a3.fld 1) ⟨rfl, rfl, rfl, rfl⟩ rfl rfl rfl rfl ?_
      refine RW.pure tabOk 3 rfl ?_
      refine RW.done ?_
      have h8 := gF1_0.ext x2
      have h9 := Ext.trans x0_0 x2
      have h10 := g0_0.ext x2
      exact NW.J fun a ha => ⟨((w64 (((rd lt2_0 (w64 ((lt2_0.length : Int) - 1))).At) + ((rd lt2_0 (w64 ((lt2_0.length : Int) - 1))).Len))) == (rd y1 it9_0)), ha.sub ⟨rfl, rfl, rfl, rfl, rfl, rfl, rfl, trivial⟩, by omega, h7, h8, h9, h10, H⟩
     ·
      rw [if_neg c2] at H
      refine RW.bool 17 (b' := false) (decide_eq_false c2) rfl ?_
      refine RW.pure tabOk 16 rfl ?_
      refine RW.done ?_
      have h11 := h6.ext x2
      have h12 := gF1_0.ext x2
      have h13 := Ext.trans x0_0 x2
      have h14 := g0_0.ext x2
      exact NW.J fun a ha => ⟨false, ha.sub ⟨rfl, rfl, rfl, rfl, rfl, rfl, rfl, trivial⟩, by omega, h11, h12, h13, h14, H⟩
    intro a w4 hJ hp
    obtain ⟨bt33_2, hS, hle, gL0_t2_2, gF1_2, x0_2, g0_2, H⟩ := hJ
    unfold seg_Set_Segs.j1 at H
    refine CW.go hp hS ?_
    by_cases c3 : bt33_2 = true
    ·
     rw [if_pos c3] at H
     refine CW.cond_t rfl (c3) ?_
     refine CW.seq ?_
     refine CW.lex [.W, .W, .W, .W, .W, .L, .W, .W, .W, .M] rfl ?_
     refine RW.pure tabOk 3 rfl ?_
     obtain ⟨g4, H⟩ := guard_some H
     obtain ⟨ad4, e4, a4⟩ := kSeg_at gL0_t2_2.slL g4.1 g4.2
     refine RW.index tabOk g4.1 g4.2 e4 ⟨rfl, rfl, rfl, rfl⟩ rfl rfl rfl rfl rfl rfl ?_
     refine RW.pure tabOk 1 rfl ?_
     refine RW.load tabOk [.int .i64 ((rd lt2_0 (w64 ((lt2_0.length : Int) - 1))).Len)] (a4.fld 1) ⟨rfl, rfl, rfl, rfl⟩ rfl rfl rfl rfl ?_
     refine RW.pure tabOk 1 rfl ?_
     obtain ⟨g5, H⟩ := guard_some H
     obtain ⟨ad5, e5, a5⟩ := kSeg_at gL0_t2_2.slL g5.1 g5.2
     refine RW.index tabOk g5.1 g5.2 e5 ⟨rfl, rfl, rfl, rfl⟩ rfl rfl rfl rfl rfl rfl ?_
     refine RW.pure tabOk 1 rfl ?_
     refine RW.storeElL (y := (⟨(rd lt2_0 (w64 ((lt2_0.length : Int) - 1))).At, w64 (((rd lt2_0 (w64 ((lt2_0.length : Int) - 1))).Len) + 1)⟩ : Seg)) (lv := []) (k := 1) tabOk gL0_t2_2 (j := (w64 ((lt2_0.length : Int) - 1)).toNat) (by have := g5; omega) default [.int .i64 (w64 (((rd lt2_0 (w64 ((lt2_0.length : Int) - 1))).Len) + 1))] (fun cs ok' hr => by obtain rfl := kSeg_open hr; exact ⟨by simp, kSeg_mk (⟨(rd lt2_0 (w64 ((lt2_0.length : Int) - 1))).At, w64 (((rd lt2_0 (w64 ((lt2_0.length : Int) - 1))).Len) + 1)⟩ : Seg)⟩) trivial ⟨rfl, rfl, rfl⟩ rfl rfl e5 rfl rfl rfl rfl rfl ?_
     intro w6 x3 h15
     have sx3 := x3.size
     have h16 := h15.sub (l' := [(w1.heap.size, some w2.heap.size, some 93)]) (li' := []) ⟨(.inl ⟨by omega, by omega, rfl⟩), trivial⟩ trivial
     refine RW.tell 2 (v' := .slice At2_0 (lt2_0.set (w64 ((lt2_0.length : Int) - 1)).toNat (⟨(rd lt2_0 (w64 ((lt2_0.length : Int) - 1))).At, w64 (((rd lt2_0 (w64 ((lt2_0.length : Int) - 1))).Len) + 1)⟩ : Seg)).length ct2_0) (by simp only [List.length_set]) rfl ?_
     refine RW.done ?_
     refine NW.next ?_
     refine CW.exit ?_
     refine NW.exit_then (NW.exit_hit ?_)
     have h17 := gF1_2.turnL x3 ⟨⟨.inl (show (3 : Nat) ≠ 93 by decide), trivial⟩, trivial⟩ trivial
     have h18 := Ext.turn x0_2 x3 ⟨by omega, trivial⟩
     have h19 := g0_2.turnL x3 (.inr ⟨⟨.inr (.inl (by omega)), trivial⟩, trivial⟩)
     exact NW.J fun a ha => ⟨(lt2_0.set (w64 ((lt2_0.length : Int) - 1)).toNat (⟨(rd lt2_0 (w64 ((lt2_0.length : Int) - 1))).At, w64 (((rd lt2_0 (w64 ((lt2_0.length : Int) - 1))).Len) + 1)⟩ : Seg)), At2_0, ct2_0, ha.sub ⟨rfl, rfl, rfl, rfl, trivial⟩, by omega, (h16.sub ⟨(.inl ⟨by omega, trivial, rfl⟩), trivial⟩ trivial), h17, h18, h19, H⟩
    ·
     rw [if_neg c3] at H
     refine CW.cond_f rfl (bool_f c3) ?_
     refine CW.skip ?_
     refine NW.next ?_
     refine CW.lex [.W, .W, .W, .X, .M, .W] rfl ?_
     refine RW.pure tabOk 3 rfl ?_
     refine RW.buildSlice (cs := [.int .i64 (rd y1 it9_0), .int .i64 1]) tabOk (.inl rfl) ⟨rfl, rfl, rfl, rfl⟩ rfl rfl rfl rfl rfl rfl rfl ?_
     intro b1 w7 x4 l1 h20
     have sx4 := x4.size
     have ltb1 := h20.lt
     have h21 := gL0_t2_2.ext x4
     obtain ⟨g6, H⟩ := guard_some H
     refine RW.append1L (d := kSeg) (v := (⟨rd y1 it9_0, 1⟩ : Seg)) (l := [(w1.heap.size, some w2.heap.size, some 93)]) (li := []) (ly := []) (xs := lt2_0) tabOk h21 h20 (kSeg_mk (⟨rd y1 it9_0, 1⟩ : Seg)) trivial (by simp only [maxLen]; omega) g6 ⟨rfl, rfl, rfl, rfl⟩ rfl rfl rfl rfl rfl rfl rfl ?_
     intro A2 c_2 w8 x5 h22
     have sx5 := x5.size
     have h23 := h22.close.sub (l' := [(w1.heap.size, some w8.heap.size, some 93)]) (li' := []) ⟨(.inl ⟨by omega, by omega, rfl⟩), ⟨(.inl ⟨by omega, by omega, rfl⟩), trivial⟩⟩ trivial
     refine RW.pure tabOk 1 rfl ?_
     refine RW.done ?_
     refine NW.norm_block ?_
     have h24 := (gF1_2.ext x4).turnL x5 ⟨⟨.inl (show (3 : Nat) ≠ 93 by decide), trivial⟩, trivial⟩ trivial
     have h25 := Ext.turn (Ext.trans x0_2 x4) x5 ⟨by omega, trivial⟩
     have h26 := (g0_2.ext x4).turnL x5 (.inr ⟨⟨.inr (.inl (by omega)), trivial⟩, trivial⟩)
     exact NW.J fun a ha => ⟨(lt2_0 ++ [(⟨rd y1 it9_0, 1⟩ : Seg)]), A2, c_2, ha.sub ⟨rfl, rfl, rfl, rfl, trivial⟩, by omega, (h23.sub ⟨(.inl ⟨by omega, trivial, rfl⟩), trivial⟩ trivial), h24, h25, h26, H⟩
   intro a w3 hJ hp
   obtain ⟨lt2_1, At2_1, ct2_1, hS, hle, ft2_1, gF1_1, x0_1, g0_1, H⟩ := hJ
   unfold seg_Set_Segs.j0 at H
   refine CW.go hp hS ?_
   have h27 : Ow kSeg 93 w3.heap (okL [(w1.heap.size, some w3.heap.size, some 93)]) (okL []) At2_1 ct2_1 lt2_1 := ft2_1.close
   refine CW.lex [.W, .W] rfl ?_
   refine RW.pure tabOk 2 rfl ?_
   refine RW.done ?_
   exact NW.J fun a ha => ⟨n1, Nat.lt_succ_self n1, lt2_1, At2_1, ct2_1, (w64 (it9_0 + 1)), ha.sub ⟨rfl, rfl, rfl, rfl, trivial⟩, by omega, (h27.sub ⟨(.inl ⟨by omega, trivial, rfl⟩), trivial⟩ trivial), gF1_1, x0_1, g0_1, H⟩
  ·
   rw [if_neg c1] at H
   refine CW.cond_f rfl (decide_eq_false c1) ?_
   refine CW.exit ?_
   refine NW.exit_then (NW.exit_then (NW.exit_hit ?_))
   refine NW.next ?_
   refine CW.seq ?_
   refine CW.lex [.W, .W] rfl ?_
   refine RW.pure tabOk 2 rfl ?_
   refine RW.done ?_
   refine NW.next ?_
   refine CW.ret ?_
   obtain rfl := Option.some.inj H
   exact NW.ret1 rfl (by rfl) ⟨At2_0, ct2_0, rfl, x0_0, (h6.sub (l' := [(w.heap.size, none, some 93)]) (li' := []) ⟨(.inl ⟨by omega, trivial, rfl⟩), trivial⟩ trivial)⟩

set_option maxHeartbeats 4000000 in
set_option maxRecDepth 100000 in
theorem seg_One.calls (p0 : Int) (r : Int) (w : World) (H : seg_One.f p0 = some r) :
    Calls Tryd.prog 63 #[.int .i64 p0] w fun e w' => e = .returned (.int .u64 r) ∧ Ext w w' := by
 have x0 : Ext w w := Upd.refl _ w
 unfold seg_One.f at H
 refine calls_start Tryd.func63 rfl 5 rfl [.int .i64 p0] rfl ?_
 refine CW.seq ?_
 refine CW.lex [.W] rfl ?_
 refine RW.pure tabOk 1 rfl ?_
 refine RW.done ?_
 refine NW.next ?_
 refine CW.seq ?_
 refine CW.lex [.W, .W, .W] rfl ?_
 refine RW.pure tabOk 1 rfl ?_
 obtain ⟨g1, H⟩ := guard_some H
 refine RW.shift g1 ⟨rfl, rfl, rfl, rfl⟩ rfl rfl rfl rfl ?_
 refine RW.pure tabOk 1 rfl ?_
 refine RW.done ?_
 refine NW.next ?_
 refine CW.ret ?_
 obtain rfl := Option.some.inj H
 exact NW.ret1 rfl (by rfl) ⟨rfl, x0⟩

set_option maxHeartbeats 4000000 in
set_option maxRecDepth 100000 in
theorem room_emptiest.calls (k : Nat) (A1 : Option Addr) (c_1 : Nat) (p0 : List Device) (p1 : Int) (r : Int) (w : World) (hs1 : Sl kDeviceR w.heap okAll A1 p0) (hl1 : p0.length ≤ c_1) (H : room_emptiest.f k p0 p1 = some r) :
    Calls Tryd.prog 102 #[.slice A1 p0.length c_1, .int .i64 p1] w fun e w' => e = .returned (.int .i64 r) ∧ Ext w w' := by
 have h1 : Sl kDeviceR w.heap (okL [(0, some w.heap.size, none)]) A1 p0 := hs1.old _ rfl
 have x0 : Ext w w := Upd.refl _ w
 unfold room_emptiest.f at H
 refine calls_start Tryd.func102 rfl 34 rfl [.slice A1 p0.length c_1, .int .i64 p1] rfl ?_
 refine CW.seq ?_
 refine CW.lex [.W] rfl ?_
 refine RW.pure tabOk 1 rfl ?_
 refine RW.done ?_
 refine NW.next ?_
 refine CW.seq ?_
 refine CW.lex [.W, .W] rfl ?_
 refine RW.pure tabOk 2 rfl ?_
 refine RW.done ?_
 refine NW.next ?_
 refine CW.seq ?_
 refine CW.seq ?_
 refine CW.lex [.W, .W, .W] rfl ?_
 refine RW.pure tabOk 3 rfl ?_
 refine RW.done ?_
 refine NW.next ?_
 refine CW.block ?_
 refine CW.loop (fun n1 a w1 => ∃ (it5_0 : Int) (it6_0 : Int) (it12_0 : Int), Sat 34 [(1, .int .i64 p1), (5, .int .i64 it5_0), (6, .int .i64 it6_0), (10, .slice A1 p0.length c_1), (11, .int .i64 (p0.length : Int)), (12, .int .i64 it12_0)] a ∧ w.heap.size ≤ w1.heap.size ∧ Sl kDeviceR w1.heap (okL [(0, some w.heap.size, none)]) A1 p0 ∧ Ext w w1 ∧ room_emptiest.l0 p0 p1 k n1 it5_0 it6_0 it12_0 = some r) k ?_ ?_
 · exact fun a ha => ⟨(-1), 0, 0, ha.sub ⟨rfl, rfl, rfl, rfl, rfl, rfl, trivial⟩, by omega, h1, x0, H⟩
 intro n1 a w1 hI hp
 obtain ⟨it5_0, it6_0, it12_0, hS, hle, gF1_0, x0_0, H⟩ := hI
 cases n1 with
 | zero => cases H
 | succ n1 =>
  rw [room_emptiest.l0] at H
  refine CW.go hp hS ?_
  refine CW.seq ?_
  refine CW.lex [.W] rfl ?_
  refine RW.pure tabOk 1 rfl ?_
  refine RW.done ?_
  refine NW.next ?_
  refine CW.seq ?_
  by_cases c1 : it12_0 < (p0.length : Int)
  ·
   rw [if_pos c1] at H
   refine CW.cond_t rfl (decide_eq_true c1) ?_
   refine CW.skip ?_
   refine NW.next ?_
   refine CW.seqJ (fun a w2 => ∃ (it5_1 : Int) (it6_1 : Int), Sat 34 [(1, .int .i64 p1), (5, .int .i64 it5_1), (6, .int .i64 it6_1), (10, .slice A1 p0.length c_1), (11, .int .i64 (p0.length : Int)), (12, .int .i64 it12_0)] a ∧ w1.heap.size ≤ w2.heap.size ∧ Sl kDeviceR w2.heap (okL [(0, some w.heap.size, none)]) A1 p0 ∧ Ext w w2 ∧ room_emptiest.j0 it12_0 (room_emptiest.l0 p0 p1 k n1) it5_1 it6_1 = some r) ?_ ?_
   ·
    refine CW.block ?_
    refine CW.seq ?_
    refine CW.lex [.W, .W, .L, .X, .W, .M] rfl ?_
    refine RW.pure tabOk 1 rfl ?_
    obtain ⟨g1, H⟩ := guard_some H
    obtain ⟨ad1, A2, c_2, A3, c_3, e1, a1, l1, h2, l2, h3⟩ := kDeviceR_at gF1_0 g1.1 g1.2
    refine RW.index tabOk g1.1 g1.2 e1 ⟨rfl, rfl, rfl, rfl⟩ rfl rfl rfl rfl rfl rfl ?_
    refine RW.load tabOk [.int .i64 ((rd p0 it12_0).ID), .int .i64 ((rd p0 it12_0).Size), .slice A2 ((rd p0 it12_0).Free).length c_2, .slice A3 ((rd p0 it12_0).Late).length c_3] a1 ⟨rfl, rfl, rfl, rfl⟩ rfl rfl rfl rfl ?_
    refine RW.alloc tabOk (.inl rfl) ⟨rfl, rfl, rfl, rfl⟩ rfl rfl ?_
    intro b1 w3 x1 l3 h4
    have sx1 := x1.size
    have ltb1 := h4.lt
    refine RW.pure tabOk 1 rfl ?_
    refine RW.storeBox tabOk h4 [.int .i64 ((rd p0 it12_0).ID), .int .i64 ((rd p0 it12_0).Size), .slice A2 ((rd p0 it12_0).Free).length c_2, .slice A3 ((rd p0 it12_0).Late).length c_3] ⟨rfl, rfl, rfl⟩ rfl rfl rfl rfl rfl rfl rfl rfl ?_
    intro w4 x2 h5
    have h6 : Box w4.heap b1 84 [.int .i64 ((rd p0 it12_0).ID), .int .i64 ((rd p0 it12_0).Size), .slice A2 ((rd p0 it12_0).Free).length c_2, .slice A3 ((rd p0 it12_0).Late).length c_3] := h5
    have sx2 := x2.size
    refine RW.done ?_
    refine NW.next ?_
    refine CW.seq ?_
    refine CW.lex [.W, .L, .X, .X, .W] rfl ?_
    refine RW.pure tabOk 1 rfl ?_
    refine RW.load tabOk [.slice A2 ((rd p0 it12_0).Free).length c_2] ((h6.at 2).take 1 rfl) ⟨rfl, rfl, rfl, rfl⟩ rfl rfl rfl rfl ?_
    have h7 := (h2.ext x1).turnB x2 h4 ⟨.inr (by omega), trivial⟩
    obtain ⟨y1, h8, H⟩ := bind_some H
    refine RW.callF (.inl rfl) ent52 ⟨rfl, rfl, rfl, rfl⟩ rfl rfl (seg_Make.calls k A2 c_2 ((rd p0 it12_0).Free) _ _ h7.all l1 h8) ?_
    rintro _ w5 ⟨rfl, x3⟩
    refine ⟨_, rfl, x3, ?_⟩
    have sx3 := x3.size
    obtain ⟨y2, h9, H⟩ := bind_some H
    refine RW.callF (.inl rfl) ent59 ⟨rfl, rfl, rfl, rfl⟩ rfl rfl (seg_Set_Count.calls y1 _ _ h9) ?_
    rintro _ w6 ⟨rfl, x4⟩
    refine ⟨_, rfl, x4, ?_⟩
    have sx4 := x4.size
    refine RW.pure tabOk 1 rfl ?_
    refine RW.done ?_
    refine NW.next ?_
    refine CW.seqJ (fun a w7 => ∃ (bt29_2 : Bool), Sat 34 [(1, .int .i64 p1), (5, .int .i64 it5_0), (6, .int .i64 it6_0), (7, .int .i64 it12_0), (9, .int .i64 y2), (10, .slice A1 p0.length c_1), (11, .int .i64 (p0.length : Int)), (12, .int .i64 it12_0), (29, .bool bt29_2)] a ∧ w6.heap.size ≤ w7.heap.size ∧ Sl kDeviceR w7.heap (okL [(0, some w.heap.size, none)]) A1 p0 ∧ Ext w w7 ∧ room_emptiest.j1 it5_0 it6_0 it12_0 y2 (room_emptiest.l0 p0 p1 k n1) bt29_2 = some r) ?_ ?_
    ·
     refine CW.lex [.W, .L, .W, .W, .W, .W, .W, .W, .W] rfl ?_
     refine RW.pure tabOk 1 rfl ?_
     have h10 := (h6.ext x3).ext x4
     refine RW.load tabOk [.int .i64 ((rd p0 it12_0).ID)] ((h10.at 0).take 1 rfl) ⟨rfl, rfl, rfl, rfl⟩ rfl rfl rfl rfl ?_
     refine RW.pure tabOk 3 rfl ?_
     by_cases c2 : (rd p0 it12_0).ID = p1
     ·
      rw [if_pos c2] at H
      refine RW.bool 25 (b' := false) (bne_f c2) rfl ?_
      refine RW.pure tabOk 4 rfl ?_
      refine RW.done ?_
      have h11 := (((gF1_0.ext x1).turnB x2 h4 ⟨.inr (by omega), trivial⟩).ext x3).ext x4
      have h12 := Ext.trans (Ext.trans (Ext.turnB (Ext.trans x0_0 x1) x2 (by omega)) x3) x4
      exact NW.J fun a ha => ⟨false, ha.sub ⟨rfl, rfl, rfl, rfl, rfl, rfl, rfl, rfl, rfl, trivial⟩, by omega, h11, h12, H⟩
     ·
      rw [if_neg c2] at H
      refine RW.bool 25 (b' := true) (bne_t c2) rfl ?_
      refine RW.pure tabOk 4 rfl ?_
      refine RW.done ?_
      have h13 := (((gF1_0.ext x1).turnB x2 h4 ⟨.inr (by omega), trivial⟩).ext x3).ext x4
      have h14 := Ext.trans (Ext.trans (Ext.turnB (Ext.trans x0_0 x1) x2 (by omega)) x3) x4
      exact NW.J fun a ha => ⟨(decide (it6_0 < y2)), ha.sub ⟨rfl, rfl, rfl, rfl, rfl, rfl, rfl, rfl, rfl, trivial⟩, by omega, h13, h14, H⟩
    intro a w7 hJ hp
    obtain ⟨bt29_2, hS, hle, gF1_2, x0_2, H⟩ := hJ
    unfold room_emptiest.j1 at H
    refine CW.go hp hS ?_
    by_cases c3 : bt29_2 = true
    ·
     rw [if_pos c3] at H
     refine CW.cond_t rfl (c3) ?_
     refine CW.lex [.W, .W, .W, .W] rfl ?_
     refine RW.pure tabOk 4 rfl ?_
     refine RW.done ?_
     refine NW.norm_block ?_
     exact NW.J fun a ha => ⟨it12_0, y2, ha.sub ⟨rfl, rfl, rfl, rfl, rfl, rfl, trivial⟩, by omega, gF1_2, x0_2, H⟩
    ·
     rw [if_neg c3] at H
     refine CW.cond_f rfl (bool_f c3) ?_
     refine CW.skip ?_
     refine NW.norm_block ?_
     exact NW.J fun a ha => ⟨it5_0, it6_0, ha.sub ⟨rfl, rfl, rfl, rfl, rfl, rfl, trivial⟩, by omega, gF1_2, x0_2, H⟩
   intro a w2 hJ hp
   obtain ⟨it5_1, it6_1, hS, hle, gF1_1, x0_1, H⟩ := hJ
   unfold room_emptiest.j0 at H
   refine CW.go hp hS ?_
   refine CW.lex [.W, .W] rfl ?_
   refine RW.pure tabOk 2 rfl ?_
   refine RW.done ?_
   exact NW.J fun a ha => ⟨n1, Nat.lt_succ_self n1, it5_1, it6_1, (w64 (it12_0 + 1)), ha.sub ⟨rfl, rfl, rfl, rfl, rfl, rfl, trivial⟩, by omega, gF1_1, x0_1, H⟩
  ·
   rw [if_neg c1] at H
   refine CW.cond_f rfl (decide_eq_false c1) ?_
   refine CW.exit ?_
   refine NW.exit_then (NW.exit_then (NW.exit_hit ?_))
   refine NW.next ?_
   refine CW.seq ?_
   refine CW.lex [.W, .W] rfl ?_
   refine RW.pure tabOk 2 rfl ?_
   refine RW.done ?_
   refine NW.next ?_
   refine CW.ret ?_
   obtain rfl := Option.some.inj H
   exact NW.ret1 rfl (by rfl) ⟨rfl, x0_0⟩

set_option maxHeartbeats 4000000 in
set_option maxRecDepth 100000 in
theorem room_Take.calls (k : Nat) (A1 : Option Addr) (c_1 : Nat) (p0 : List Device) (p1 : Int) (p2 : Int) (r : (List Ptr) × (List Device) × Int) (w : World) (hs1 : Sl kDeviceR w.heap okAll A1 p0) (hl1 : p0.length ≤ c_1) {gT : Nat} (hG : Box w.heap 0 gT (arrI .u8 64 tz)) (H : room_Take.f k p0 p1 p2 = some r) :
    Calls Tryd.prog 40 #[.slice A1 p0.length c_1, .int .i64 p1, .int .i64 p2] w fun e w' => ∃ (B1 : Option Addr) (d1 : Nat) (B2 : Option Addr) (d2 : Nat), e = .returned (.tuple #[.slice B1 r.1.length d1, .slice B2 r.2.1.length d2, .int .i64 r.2.2]) ∧ Ext w w' ∧ Ow kPtr 70 w'.heap (okL [(w.heap.size, none, some 70)]) (okL []) B1 d1 r.1 ∧ Ow kDeviceO 84 w'.heap (okL [(w.heap.size, none, some 84)]) (okL [(w.heap.size, none, some 93)]) B2 d2 r.2.1 := by
 have h1 : Sl kDeviceR w.heap (okL [(0, some w.heap.size, none)]) A1 p0 := hs1.old _ rfl
 have hG0 : 0 < w.heap.size := hG.lt
 have x0 : Ext w w := Upd.refl _ w
 unfold room_Take.f at H
 refine calls_start Tryd.func40 rfl 34 rfl [.slice A1 p0.length c_1, .int .i64 p1, .int .i64 p2] rfl ?_
 refine CW.seq ?_
 refine CW.lex [.W, .W, .W] rfl ?_
 refine RW.pure tabOk 3 rfl ?_
 refine RW.done ?_
 refine NW.next ?_
 refine CW.seq ?_
 refine CW.seqJ (fun a w1 => ∃ (bt20_0 : Bool), Sat 34 [(0, .slice A1 p0.length c_1), (1, .int .i64 p1), (2, .int .i64 p2), (20, .bool bt20_0)] a ∧ w.heap.size ≤ w1.heap.size ∧ Sl kDeviceR w1.heap (okL [(0, some w.heap.size, none)]) A1 p0 ∧ Ext w w1 ∧ Box w1.heap 0 gT (arrI .u8 64 tz) ∧ room_Take.j0 p0 p1 p2 k bt20_0 = some r) ?_ ?_
 ·
  refine CW.lex [.W, .X, .W, .W, .W, .W, .W, .W, .W, .W, .W] rfl ?_
  refine RW.pure tabOk 1 rfl ?_
  obtain ⟨y1, h2, H⟩ := bind_some H
  refine RW.callF (.inl rfl) ent66 ⟨rfl, rfl, rfl, rfl⟩ rfl rfl (room_May.calls k A1 c_1 p0 _ _ h1.all hl1 h2) ?_
  rintro _ w2 ⟨rfl, x1⟩
  refine ⟨_, rfl, x1, ?_⟩
  have sx1 := x1.size
  refine RW.pure tabOk 2 rfl ?_
  by_cases c1 : y1 = true
  ·
   rw [if_pos c1] at H
   refine RW.bool 13 (b' := false) (not_f (c1)) rfl ?_
   refine RW.pure tabOk 4 rfl ?_
   by_cases c2 : p1 < 0
   ·
    rw [if_pos c2] at H
    refine RW.bool 17 (b' := true) (decide_eq_true c2) rfl ?_
    refine RW.pure tabOk 3 rfl ?_
    refine RW.done ?_
    have h3 := h1.ext x1
    have h4 := Ext.trans x0 x1
    have h5 := hG.ext x1
    exact NW.J fun a ha => ⟨true, ha.sub ⟨rfl, rfl, rfl, rfl, trivial⟩, by omega, h3, h4, h5, H⟩
   ·
    rw [if_neg c2] at H
    refine RW.bool 17 (b' := false) (decide_eq_false c2) rfl ?_
    refine RW.pure tabOk 3 rfl ?_
    refine RW.done ?_
    have h6 := h1.ext x1
    have h7 := Ext.trans x0 x1
    have h8 := hG.ext x1
    exact NW.J fun a ha => ⟨(decide (384 < p1)), ha.sub ⟨rfl, rfl, rfl, rfl, trivial⟩, by omega, h6, h7, h8, H⟩
  ·
   rw [if_neg c1] at H
   refine RW.bool 13 (b' := true) (not_t (bool_f c1)) rfl ?_
   refine RW.pure tabOk 7 rfl ?_
   refine RW.done ?_
   have h9 := h1.ext x1
   have h10 := Ext.trans x0 x1
   have h11 := hG.ext x1
   exact NW.J fun a ha => ⟨true, ha.sub ⟨rfl, rfl, rfl, rfl, trivial⟩, by omega, h9, h10, h11, H⟩
 intro a w1 hJ hp
 obtain ⟨bt20_0, hS, hle, gF1_0, x0_0, g0_0, H⟩ := hJ
 unfold room_Take.j0 at H
 refine CW.go hp hS ?_
 by_cases c3 : bt20_0 = true
 ·
  rw [if_pos c3] at H
  refine CW.cond_t rfl (c3) ?_
  refine CW.seq ?_
  refine CW.lex [.W, .W, .W] rfl ?_
  refine RW.pure tabOk 3 rfl ?_
  refine RW.done ?_
  refine NW.next ?_
  refine CW.ret ?_
  refine NW.ret_then ?_
  obtain rfl := Option.some.inj H
  exact NW.ret3 rfl (by rfl) (by rfl) (by rfl) ⟨none, 0, none, 0, rfl, x0_0, Ow.nil, Ow.nil⟩
 ·
  rw [if_neg c3] at H
  refine CW.cond_f rfl (bool_f c3) ?_
  refine CW.skip ?_
  refine NW.next ?_
  refine CW.seq ?_
  refine CW.lex [.W, .X, .W] rfl ?_
  refine RW.pure tabOk 1 rfl ?_
  obtain ⟨y2, h12, H⟩ := bind_some H
  refine RW.callF (.inl rfl) ent67 ⟨rfl, rfl, rfl, rfl⟩ rfl rfl (room_Own.calls k A1 c_1 p0 _ _ gF1_0.all hl1 h12) ?_
  rintro _ w3 ⟨A2, c_2, rfl, x2, h13⟩
  refine ⟨_, rfl, x2, ?_⟩
  have sx2 := x2.size
  have h14 : Ow kDeviceO 84 w3.heap (okL [(w1.heap.size, some w3.heap.size, some 84)]) (okL [(w1.heap.size, some w3.heap.size, some 93)]) A2 c_2 y2 := h13.close
  refine RW.pure tabOk 1 rfl ?_
  refine RW.done ?_
  refine NW.next ?_
  refine CW.seq ?_
  refine CW.lex [.W, .W, .W, .M, .W, .W, .W, .W, .W] rfl ?_
  refine RW.pure tabOk 3 rfl ?_
  refine RW.callFM (R := fun e w4 => ∃ (lt7_1 : List Device) (lt27_0_1 : List Ptr) (At27_0_1 : Option Addr) (ct27_0_1 : Nat) (bt27_1_1 : Bool), e = .returned (.tuple #[.slice At27_0_1 lt27_0_1.length ct27_0_1, .bool bt27_1_1]) ∧ w3.heap.size ≤ w4.heap.size ∧ Ow kDeviceO 84 w4.heap (okL [(w1.heap.size, none, some 84)]) (okL [(w1.heap.size, none, some 93)]) A2 c_2 lt7_1 ∧ Ow kPtr 70 w4.heap (okL [(w3.heap.size, none, some 70)]) (okL []) At27_0_1 ct27_0_1 lt27_0_1 ∧ Ext w w4 ∧ lt7_1.length = y2.length ∧ Box w4.heap 0 gT (arrI .u8 64 tz) ∧ room_Take.j1 lt7_1 lt27_0_1 bt27_1_1 = some r) ent70 ⟨rfl, rfl, rfl, rfl⟩ rfl rfl rfl ?_ ?_
  ·
   refine calls_start Tryd.func70 rfl 30 rfl [.slice A2 y2.length c_2, .int .i64 p1, .int .i64 p2] rfl ?_
   refine CW.seq ?_
   refine CW.lex [.W, .W] rfl ?_
   refine RW.pure tabOk 2 rfl ?_
   refine RW.done ?_
   refine NW.next ?_
   refine CW.seq ?_
   refine CW.seq ?_
   refine CW.lex [.W, .W, .X, .W, .W] rfl ?_
   refine RW.pure tabOk 2 rfl ?_
   obtain ⟨y3, h15, H⟩ := bind_some H
   refine RW.callF (.inl rfl) ent69 ⟨rfl, rfl, rfl, rfl⟩ rfl rfl (room_Free.calls k A2 c_2 y2 p2 _ _ (h14.all.to kDevice_ro rfl) h14.len h15) ?_
   rintro _ w5 ⟨rfl, x3⟩
   refine ⟨_, rfl, x3, ?_⟩
   have sx3 := x3.size
   refine RW.pure tabOk 2 rfl ?_
   refine RW.done ?_
   refine NW.next ?_
   by_cases c4 : y3 < p1
   ·
    rw [if_pos c4] at H
    refine CW.cond_t rfl (decide_eq_true c4) ?_
    refine CW.seq ?_
    refine CW.lex [.W, .W] rfl ?_
    refine RW.pure tabOk 2 rfl ?_
    refine RW.done ?_
    refine NW.next ?_
    refine CW.ret ?_
    refine NW.ret_then ?_
    have h16 := h14.ext x3
    have h17 := Ext.trans (Ext.trans x0_0 x2) x3
    have h18 := (g0_0.ext x2).ext x3
    exact NW.ret2 rfl (by rfl) (by rfl) ⟨y2, ([] : List Ptr), none, 0, false, rfl, by omega, (h16.sub ⟨(.inl ⟨by omega, trivial, rfl⟩), trivial⟩ ⟨(.inl ⟨by omega, trivial, rfl⟩), trivial⟩), Ow.nil, h17, (by (try simp only [List.length_set]) <;> omega), h18, H⟩
   ·
    rw [if_neg c4] at H
    refine CW.cond_f rfl (decide_eq_false c4) ?_
    refine CW.skip ?_
    refine NW.next ?_
    refine CW.seq ?_
    refine CW.seq ?_
    refine CW.lex [.W, .W] rfl ?_
    refine RW.pure tabOk 2 rfl ?_
    refine RW.done ?_
    refine NW.next ?_
    refine CW.block ?_
    refine CW.loop (fun n1 a w6 => ∃ (ls0_7_2 : List Device) (lt6_2 : List Ptr) (At6_2 : Option Addr) (ct6_2 : Nat) (it16_2 : Int), Sat 30 [(0, .slice A2 ls0_7_2.length c_2), (2, .int .i64 p2), (6, .slice At6_2 lt6_2.length ct6_2), (15, .int .i64 p1), (16, .int .i64 it16_2)] a ∧ w5.heap.size ≤ w6.heap.size ∧ Ow kDeviceO 84 w6.heap (okL [(w1.heap.size, none, some 84)]) (okL [(w1.heap.size, none, some 93)]) A2 c_2 ls0_7_2 ∧ Ow kPtr 70 w6.heap (okL [(w5.heap.size, none, some 70)]) (okL []) At6_2 ct6_2 lt6_2 ∧ Ext w w6 ∧ ls0_7_2.length = y2.length ∧ Box w6.heap 0 gT (arrI .u8 64 tz) ∧ room_Take.l0 p1 p2 k n1 ls0_7_2 lt6_2 it16_2 = some r) k ?_ ?_
    have h19 := h14.ext x3
    have h20 := Ext.trans (Ext.trans x0_0 x2) x3
    have h21 := (g0_0.ext x2).ext x3
    · exact fun a ha => ⟨y2, ([] : List Ptr), none, 0, 0, ha.sub ⟨rfl, rfl, rfl, rfl, rfl, trivial⟩, by omega, (h19.sub ⟨(.inl ⟨by omega, trivial, rfl⟩), trivial⟩ ⟨(.inl ⟨by omega, trivial, rfl⟩), trivial⟩), Ow.nil, h20, (by (try simp only [List.length_set]) <;> omega), h21, H⟩
    intro n1 a w6 hI hp
    obtain ⟨ls0_7_2, lt6_2, At6_2, ct6_2, it16_2, hS, hle, fs0_7_2, ft6_2, x0_2, ln_ls0_7_2, g0_2, H⟩ := hI
    cases n1 with
    | zero => cases H
    | succ n1 =>
     rw [room_Take.l0] at H
     refine CW.go hp hS ?_
     have h22 : Ow kDeviceO 84 w6.heap (okL [(w1.heap.size, some w6.heap.size, some 84)]) (okL [(w1.heap.size, some w6.heap.size, some 93)]) A2 c_2 ls0_7_2 := fs0_7_2.close
     have h23 : Ow kPtr 70 w6.heap (okL [(w5.heap.size, some w6.heap.size, some 70)]) (okL []) At6_2 ct6_2 lt6_2 := ft6_2.close
     refine CW.seq ?_
     refine CW.lex [.W] rfl ?_
     refine RW.pure tabOk 1 rfl ?_
     refine RW.done ?_
     refine NW.next ?_
     refine CW.seq ?_
     by_cases c5 : it16_2 < p1
     ·
      rw [if_pos c5] at H
      refine CW.cond_t rfl (decide_eq_true c5) ?_
      refine CW.skip ?_
      refine NW.next ?_
      refine CW.seq ?_
      refine CW.block ?_
      refine CW.seq ?_
      refine CW.lex [.W, .W, .M, .W, .W, .W, .X, .M, .W] rfl ?_
      refine RW.pure tabOk 2 rfl ?_
      refine RW.callFM (R := fun e w7 => ∃ (ls0_7_3 : List Device) (it21_0_3 : Int) (it21_1_3 : Int) (bt21_2_3 : Bool), e = .returned (.tuple #[.agg #[.int .i64 it21_0_3, .int .i64 it21_1_3], .bool bt21_2_3]) ∧ w6.heap.size ≤ w7.heap.size ∧ Ow kDeviceO 84 w7.heap (okL [(w1.heap.size, some w6.heap.size, some 84)]) (okL [(w1.heap.size, none, some 93)]) A2 c_2 ls0_7_3 ∧ Ow kPtr 70 w7.heap (okL [(w5.heap.size, some w6.heap.size, some 70)]) (okL []) At6_2 ct6_2 lt6_2 ∧ Ext w w7 ∧ ls0_7_3.length = ls0_7_2.length ∧ Box w7.heap 0 gT (arrI .u8 64 tz) ∧ room_Take.j2 lt6_2 it16_2 (room_Take.l0 p1 p2 k n1) ls0_7_3 it21_0_3 it21_1_3 bt21_2_3 = some r) ent85 ⟨rfl, rfl, rfl, rfl⟩ rfl rfl rfl ?_ ?_
      ·
       refine calls_start Tryd.func85 rfl 39 rfl [.slice A2 ls0_7_2.length c_2, .int .i64 p2] rfl ?_
       refine CW.seq ?_
       refine CW.lex [.X, .W] rfl ?_
       refine RW.alloc tabOk (.inl rfl) ⟨rfl, rfl, rfl, rfl⟩ rfl rfl ?_
       intro b1 w8 x4 l1 h24
       have sx4 := x4.size
       have ltb1 := h24.lt
       refine RW.pure tabOk 1 rfl ?_
       refine RW.done ?_
       refine NW.next ?_
       refine CW.seq ?_
       refine CW.lex [.W, .W, .X, .W] rfl ?_
       refine RW.pure tabOk 2 rfl ?_
       have h25 := h22.ext x4
       obtain ⟨y4, h26, H⟩ := bind_some H
       refine RW.callF (.inl rfl) ent102 ⟨rfl, rfl, rfl, rfl⟩ rfl rfl (room_emptiest.calls k A2 c_2 ls0_7_2 p2 _ _ (h25.all.to kDevice_ro rfl) h25.len h26) ?_
       rintro _ w9 ⟨rfl, x5⟩
       refine ⟨_, rfl, x5, ?_⟩
       have sx5 := x5.size
       refine RW.pure tabOk 1 rfl ?_
       refine RW.done ?_
       refine NW.next ?_
       refine CW.seq ?_
       refine CW.seq ?_
       refine CW.lex [.W, .W] rfl ?_
       refine RW.pure tabOk 2 rfl ?_
       refine RW.done ?_
       refine NW.next ?_
       by_cases c6 : y4 < 0
       ·
        rw [if_pos c6] at H
        refine CW.cond_t rfl (decide_eq_true c6) ?_
        refine CW.seq ?_
        refine CW.lex [.L, .M, .W] rfl ?_
        have h27 := h24.ext x5
        refine RW.load tabOk [.int .i64 0, .int .i64 0] (h27.at 0) ⟨rfl, rfl, rfl, rfl⟩ rfl rfl rfl rfl ?_
        refine RW.storeBox tabOk h27 [.int .i64 0, .int .i64 0] ⟨rfl, rfl, rfl⟩ rfl rfl rfl rfl rfl rfl rfl rfl ?_
        intro w10 x6 h28
        have h29 : Box w10.heap b1 70 [.int .i64 0, .int .i64 0] := h28
        have sx6 := x6.size
        refine RW.pure tabOk 1 rfl ?_
        refine RW.done ?_
        refine NW.next ?_
        refine CW.ret ?_
        refine NW.ret_then ?_
        have h30 := (h25.ext x5).turnB x6 h27 ⟨.inl (show (84 : Nat) ≠ 70 by decide), trivial⟩ ⟨.inl (show (93 : Nat) ≠ 70 by decide), trivial⟩
        have h31 := ((h23.ext x4).ext x5).turnB x6 h27 ⟨.inr (by omega), trivial⟩ trivial
        have h32 := Ext.turnB (Ext.trans (Ext.trans x0_2 x4) x5) x6 (by omega)
        have h33 := ((g0_2.ext x4).ext x5).turnB x6 (by omega)
        exact NW.ret2 rfl (resOne_cell tabOk (h29.at 0) rfl rfl rfl) (by rfl) ⟨ls0_7_2, 0, 0, false, rfl, by omega, (h30.sub ⟨(.inl ⟨by omega, by omega, rfl⟩), trivial⟩ ⟨(.inl ⟨by omega, trivial, rfl⟩), trivial⟩), h31, h32, (by (try simp only [List.length_set]) <;> omega), h33, H⟩
       ·
        rw [if_neg c6] at H
        refine CW.cond_f rfl (decide_eq_false c6) ?_
        refine CW.skip ?_
        refine NW.next ?_
        refine CW.seq ?_
        refine CW.lex [.W, .W, .W, .W, .L, .X, .W] rfl ?_
        refine RW.pure tabOk 2 rfl ?_
        obtain ⟨g1, H⟩ := guard_some H
        have h34 := h25.ext x5
        obtain ⟨ad1, A3, c_3, A4, c_4, e1, a1, h35, h36⟩ := kDeviceO_ato h34 g1.1 g1.2
        refine RW.index tabOk g1.1 g1.2 e1 ⟨rfl, rfl, rfl, rfl⟩ rfl rfl rfl rfl rfl rfl ?_
        refine RW.pure tabOk 1 rfl ?_
        refine RW.load tabOk [.slice A3 ((rd ls0_7_2 y4).Free).length c_3] ((a1.fld 2).take 1 rfl) ⟨rfl, rfl, rfl, rfl⟩ rfl rfl rfl rfl ?_
        obtain ⟨y5, h37, H⟩ := bind_some H
        refine RW.callF (.inl rfl) ent52 ⟨rfl, rfl, rfl, rfl⟩ rfl rfl (seg_Make.calls k A3 c_3 ((rd ls0_7_2 y4).Free) _ _ h35.all h35.len h37) ?_
        rintro _ w11 ⟨rfl, x7⟩
        refine ⟨_, rfl, x7, ?_⟩
        have sx7 := x7.size
        refine RW.pure tabOk 1 rfl ?_
        refine RW.done ?_
        refine NW.next ?_
        refine CW.seq ?_
        refine CW.ord [0, 0, 3, 7, 15, 0, 32, 127, 255] (ofL [(0, .W), (1, .W), (2, .W), (3, .W), (5, .W), (4, .L), (6, .X), (7, .W), (8, .M)] .nil) mixed (by kernel_rfl) ?_
        intro w12 x8
        have sx8 := x8.size
        refine RW.pure tabOk 2 rfl ?_
        obtain ⟨g2, H⟩ := guard_some H
        have h38 := (h34.ext x7).ext x8
        obtain ⟨ad2, A5, c_5, A6, c_6, e2, a2, h39, h40⟩ := kDeviceO_ato h38 g2.1 g2.2
        refine RW.index tabOk g2.1 g2.2 e2 ⟨rfl, rfl, rfl, rfl⟩ rfl rfl rfl rfl rfl rfl ?_
        refine RW.pure tabOk 2 rfl ?_
        refine RW.load tabOk [.int .i64 ((rd ls0_7_2 y4).ID)] ((a2.fld 0).take 1 rfl) ⟨rfl, rfl, rfl, rfl⟩ rfl rfl rfl rfl ?_
        have h41 := (((g0_2.ext x4).ext x5).ext x7).ext x8
        obtain ⟨y6, h42, H⟩ := bind_some H
        refine RW.callF (.inl rfl) ent80 ⟨rfl, rfl, rfl, rfl⟩ rfl rfl (seg_Set_Least.calls y5 _ _ h41 h42) ?_
        rintro _ w13 ⟨rfl, x9⟩
        refine ⟨_, rfl, x9, ?_⟩
        have sx9 := x9.size
        refine RW.pure tabOk 1 rfl ?_
        have h43 := (((h24.ext x5).ext x7).ext x8).ext x9
        refine RW.storeBox tabOk h43 [.int .i64 ((rd ls0_7_2 y4).ID), .int .i64 y6] ⟨rfl, rfl, rfl⟩ rfl rfl rfl rfl rfl rfl rfl rfl ?_
        intro w14 x10 h44
        have h45 : Box w14.heap b1 70 [.int .i64 ((rd ls0_7_2 y4).ID), .int .i64 y6] := h44
        have sx10 := x10.size
        refine RW.done ?_
        refine NW.next ?_
        refine CW.seq ?_
        refine CW.lex [.W, .W, .W, .W, .L, .X, .W, .X, .W, .W, .M] rfl ?_
        refine RW.pure tabOk 4 rfl ?_
        refine RW.load tabOk [.int .i64 y6] (h45.at 1) ⟨rfl, rfl, rfl, rfl⟩ rfl rfl rfl rfl ?_
        obtain ⟨y7, h46, H⟩ := bind_some H
        refine RW.callF (.inl rfl) ent63 ⟨rfl, rfl, rfl, rfl⟩ rfl rfl (seg_One.calls y6 _ _ h46) ?_
        rintro _ w15 ⟨rfl, x11⟩
        refine ⟨_, rfl, x11, ?_⟩
        have sx11 := x11.size
        refine RW.pure tabOk 1 rfl ?_
        have h47 := ((h41.ext x9).turnB x10 (by omega)).ext x11
        obtain ⟨y8, h48, H⟩ := bind_some H
        refine RW.callF (.inl rfl) ent53 ⟨rfl, rfl, rfl, rfl⟩ rfl rfl (seg_Set_Segs.calls k (uandn y5 y7) _ _ h47 h48) ?_
        rintro _ w16 ⟨A7, c_7, rfl, x12, h49⟩
        refine ⟨_, rfl, x12, ?_⟩
        have sx12 := x12.size
        have h50 : Ow kSeg 93 w16.heap (okL [(w15.heap.size, some w16.heap.size, some 93)]) (okL []) A7 c_7 y8 := h49.close
        obtain ⟨g3, H⟩ := guard_some H
        have h51 := (((h38.ext x9).turnB x10 h43 ⟨.inl (show (84 : Nat) ≠ 70 by decide), trivial⟩ ⟨.inl (show (93 : Nat) ≠ 70 by decide), trivial⟩).ext x11).ext x12
        obtain ⟨ad3, A8, c_8, A9, c_9, e3, a3, h52, h53⟩ := kDeviceO_ato h51 g3.1 g3.2
        refine RW.index tabOk g3.1 g3.2 e3 ⟨rfl, rfl, rfl, rfl⟩ rfl rfl rfl rfl rfl rfl ?_
        refine RW.pure tabOk 1 rfl ?_
        refine RW.storeElL (y := (⟨(rd ls0_7_2 y4).ID, (rd ls0_7_2 y4).Size, y8, (rd ls0_7_2 y4).Late⟩ : Device)) (lv := [(w15.heap.size, some w16.heap.size, some 93)]) (k := 2) tabOk h51 (j := y4.toNat) (by have := g3; omega) default [.slice A7 y8.length c_7] (fun cs ok' hr => by obtain ⟨qa1, qc1, qa2, qc2, rfl, q1, q2⟩ := kDeviceO_open hr; exact ⟨by simp, kDeviceO_mk (⟨(rd ls0_7_2 y4).ID, (rd ls0_7_2 y4).Size, y8, (rd ls0_7_2 y4).Late⟩ : Device) (h50.mono (fun _ _ ho => Or.inr (okL_sub (l := [(w15.heap.size, some w16.heap.size, some 93)]) (l' := [(w15.heap.size, some w16.heap.size, some 93)]) ⟨(.inl ⟨by omega, by omega, rfl⟩), trivial⟩ ho)) (fun _ _ ho => Or.inr (okL_sub (l := []) (l' := [(w15.heap.size, some w16.heap.size, some 93)]) trivial ho))) (q2.mono (fun _ _ ho => Or.inl ho) (fun _ _ ho => Or.inl ho))⟩) ⟨⟨.inl (show (93 : Nat) ≠ 84 by decide), trivial⟩, trivial⟩ ⟨rfl, rfl, rfl⟩ rfl rfl e3 rfl rfl rfl rfl rfl ?_
        intro w17 x13 h54
        have sx13 := x13.size
        have h55 := h54.close.sub (l' := [(w1.heap.size, some w6.heap.size, some 84)]) (li' := [(w1.heap.size, some w16.heap.size, some 93)]) ⟨(.inl ⟨by omega, by omega, rfl⟩), trivial⟩ ⟨(.inl ⟨by omega, by omega, rfl⟩), ⟨(.inl ⟨by omega, by omega, rfl⟩), trivial⟩⟩
        refine RW.done ?_
        refine NW.next ?_
        refine CW.seq ?_
        refine CW.lex [.L, .M, .W] rfl ?_
        have h56 := ((h45.ext x11).ext x12).turnL x13 (.inl (by decide))
        refine RW.load tabOk [.int .i64 ((rd ls0_7_2 y4).ID), .int .i64 y6] (h56.at 0) ⟨rfl, rfl, rfl, rfl⟩ rfl rfl rfl rfl ?_
        refine RW.storeBox tabOk h56 [.int .i64 ((rd ls0_7_2 y4).ID), .int .i64 y6] ⟨rfl, rfl, rfl⟩ rfl rfl rfl rfl rfl rfl rfl rfl ?_
        intro w18 x14 h57
        have h58 : Box w18.heap b1 70 [.int .i64 ((rd ls0_7_2 y4).ID), .int .i64 y6] := h57
        have sx14 := x14.size
        refine RW.pure tabOk 1 rfl ?_
        refine RW.done ?_
        refine NW.next ?_
        refine CW.ret ?_
        have h59 := h55.turnB x14 h56 ⟨.inl (show (84 : Nat) ≠ 70 by decide), trivial⟩ ⟨.inl (show (93 : Nat) ≠ 70 by decide), trivial⟩
        have h60 := (((((((((h23.ext x4).ext x5).ext x7).ext x8).ext x9).turnB x10 h43 ⟨.inr (by omega), trivial⟩ trivial).ext x11).ext x12).turnL x13 ⟨⟨.inl (show (70 : Nat) ≠ 84 by decide), trivial⟩, trivial⟩ trivial).turnB x14 h56 ⟨.inr (by omega), trivial⟩ trivial
        have h61 := Ext.turnB (Ext.turn (Ext.trans (Ext.trans (Ext.turnB (Ext.trans (Ext.trans (Ext.trans (Ext.trans (Ext.trans x0_2 x4) x5) x7) x8) x9) x10 (by omega)) x11) x12) x13 ⟨by omega, trivial⟩) x14 (by omega)
        have h62 := ((h47.ext x12).turnL x13 (.inr ⟨⟨.inr (.inl (by omega)), trivial⟩, trivial⟩)).turnB x14 (by omega)
        exact NW.ret2 rfl (resOne_cell tabOk (h58.at 0) rfl rfl rfl) (by rfl) ⟨(ls0_7_2.set y4.toNat (⟨(rd ls0_7_2 y4).ID, (rd ls0_7_2 y4).Size, y8, (rd ls0_7_2 y4).Late⟩ : Device)), ((rd ls0_7_2 y4).ID), y6, true, rfl, by omega, (h59.sub ⟨(.inl ⟨by omega, by omega, rfl⟩), trivial⟩ ⟨(.inl ⟨by omega, trivial, rfl⟩), trivial⟩), h60, h61, (by (try simp only [List.length_set]) <;> omega), h62, H⟩
      rintro _ w7 ⟨ls0_7_3, it21_0_3, it21_1_3, bt21_2_3, rfl, hle, fs0_7_3, gL2_t6_3, x0_3, ln_ls0_7_3, g0_3, H⟩
      refine ⟨_, rfl, ?_⟩
      unfold room_Take.j2 at H
      have h63 : Ow kDeviceO 84 w7.heap (okL [(w1.heap.size, some w6.heap.size, some 84)]) (okL [(w1.heap.size, some w7.heap.size, some 93)]) A2 c_2 ls0_7_3 := fs0_7_3.close
      refine RW.tell 0 (v' := .slice A2 ls0_7_3.length c_2) (show Value.slice A2 ls0_7_2.length c_2 = Value.slice A2 ls0_7_3.length c_2 from congrArg (fun n => Value.slice A2 n c_2) (by (try simp only [List.length_set]) <;> omega)) rfl ?_
      refine RW.pure tabOk 3 rfl ?_
      refine RW.alloc tabOk (.inl rfl) ⟨rfl, rfl, rfl, rfl⟩ rfl rfl ?_
      intro b2 w19 x15 l8 h64
      have sx15 := x15.size
      have ltb2 := h64.lt
      refine RW.storeBox tabOk h64 [.int .i64 it21_0_3, .int .i64 it21_1_3] ⟨rfl, rfl, rfl⟩ rfl rfl rfl rfl rfl rfl rfl rfl ?_
      intro w20 x16 h65
      have h66 : Box w20.heap b2 70 [.int .i64 it21_0_3, .int .i64 it21_1_3] := h65
      have sx16 := x16.size
      refine RW.pure tabOk 1 rfl ?_
      refine RW.done ?_
      refine NW.next ?_
      refine CW.lex [.W, .L, .X, .M, .W] rfl ?_
      refine RW.pure tabOk 1 rfl ?_
      refine RW.load tabOk [.int .i64 it21_0_3, .int .i64 it21_1_3] (h66.at 0) ⟨rfl, rfl, rfl, rfl⟩ rfl rfl rfl rfl ?_
      refine RW.buildSlice (cs := [.int .i64 it21_0_3, .int .i64 it21_1_3]) tabOk (.inl rfl) ⟨rfl, rfl, rfl, rfl⟩ rfl rfl rfl rfl rfl rfl rfl ?_
      intro b3 w21 x17 l9 h67
      have sx17 := x17.size
      have ltb3 := h67.lt
      have h68 := ((gL2_t6_3.ext x15).turnB x16 h64 ⟨.inr (by omega), trivial⟩ trivial).ext x17
      obtain ⟨g4, H⟩ := guard_some H
      refine RW.append1L (d := kPtr) (v := (⟨it21_0_3, it21_1_3⟩ : Ptr)) (l := [(w5.heap.size, some w6.heap.size, some 70)]) (li := []) (ly := []) (xs := lt6_2) tabOk h68 h67 (kPtr_mk (⟨it21_0_3, it21_1_3⟩ : Ptr)) trivial (by simp only [maxLen]; omega) g4 ⟨rfl, rfl, rfl, rfl⟩ rfl rfl rfl rfl rfl rfl rfl ?_
      intro A10 c_10 w22 x18 h69
      have sx18 := x18.size
      have h70 := h69.close.sub (l' := [(w5.heap.size, some w22.heap.size, some 70)]) (li' := []) ⟨(.inl ⟨by omega, by omega, rfl⟩), ⟨(.inl ⟨by omega, by omega, rfl⟩), trivial⟩⟩ trivial
      refine RW.pure tabOk 1 rfl ?_
      refine RW.done ?_
      refine NW.norm_block (NW.next ?_)
      refine CW.lex [.W, .W] rfl ?_
      refine RW.pure tabOk 2 rfl ?_
      refine RW.done ?_
      have h71 := (((h63.ext x15).turnB x16 h64 ⟨.inl (show (84 : Nat) ≠ 70 by decide), trivial⟩ ⟨.inl (show (93 : Nat) ≠ 70 by decide), trivial⟩).ext x17).turnL x18 ⟨⟨.inl (show (84 : Nat) ≠ 70 by decide), trivial⟩, trivial⟩ ⟨⟨.inl (show (93 : Nat) ≠ 70 by decide), trivial⟩, trivial⟩
      have h72 := Ext.turn (Ext.trans (Ext.turnB (Ext.trans x0_3 x15) x16 (by omega)) x17) x18 ⟨by omega, trivial⟩
      have h73 := (((g0_3.ext x15).turnB x16 (by omega)).ext x17).turnL x18 (.inr ⟨⟨.inr (.inl (by omega)), trivial⟩, trivial⟩)
      exact NW.J fun a ha => ⟨n1, Nat.lt_succ_self n1, ls0_7_3, (lt6_2 ++ [(⟨it21_0_3, it21_1_3⟩ : Ptr)]), A10, c_10, (w64 (it16_2 + 1)), ha.sub ⟨rfl, rfl, rfl, rfl, rfl, trivial⟩, by omega, (h71.sub ⟨(.inl ⟨by omega, trivial, rfl⟩), trivial⟩ ⟨(.inl ⟨by omega, trivial, rfl⟩), trivial⟩), (h70.sub ⟨(.inl ⟨by omega, trivial, rfl⟩), trivial⟩ trivial), h72, (by (try simp only [List.length_set]) <;> omega), h73, H⟩
     ·
      rw [if_neg c5] at H
      refine CW.cond_f rfl (decide_eq_false c5) ?_
      refine CW.exit ?_
      refine NW.exit_then (NW.exit_then (NW.exit_hit ?_))
      refine NW.next ?_
      refine CW.seq ?_
      refine CW.lex [.W, .W, .W] rfl ?_
      refine RW.pure tabOk 3 rfl ?_
      refine RW.done ?_
      refine NW.next ?_
      refine CW.ret ?_
      exact NW.ret2 rfl (by rfl) (by rfl) ⟨ls0_7_2, lt6_2, At6_2, ct6_2, true, rfl, by omega, (h22.sub ⟨(.inl ⟨by omega, trivial, rfl⟩), trivial⟩ ⟨(.inl ⟨by omega, trivial, rfl⟩), trivial⟩), (h23.sub ⟨(.inl ⟨by omega, trivial, rfl⟩), trivial⟩ trivial), x0_2, (by (try simp only [List.length_set]) <;> omega), g0_2, H⟩
  rintro _ w4 ⟨lt7_1, lt27_0_1, At27_0_1, ct27_0_1, bt27_1_1, rfl, hle, ft7_1, ft27_0_1, x0_1, ln_lt7_1, g0_1, H⟩
  refine ⟨_, rfl, ?_⟩
  unfold room_Take.j1 at H
  have h74 : Ow kDeviceO 84 w4.heap (okL [(w1.heap.size, some w4.heap.size, some 84)]) (okL [(w1.heap.size, some w4.heap.size, some 93)]) A2 c_2 lt7_1 := ft7_1.close
  have h75 : Ow kPtr 70 w4.heap (okL [(w3.heap.size, some w4.heap.size, some 70)]) (okL []) At27_0_1 ct27_0_1 lt27_0_1 := ft27_0_1.close
  refine RW.tell 7 (v' := .slice A2 lt7_1.length c_2) (show Value.slice A2 y2.length c_2 = Value.slice A2 lt7_1.length c_2 from congrArg (fun n => Value.slice A2 n c_2) (by (try simp only [List.length_set]) <;> omega)) rfl ?_
  refine RW.pure tabOk 5 rfl ?_
  refine RW.done ?_
  refine NW.next ?_
  refine CW.seq ?_
  refine CW.seq ?_
  refine CW.lex [.W, .W] rfl ?_
  refine RW.pure tabOk 2 rfl ?_
  refine RW.done ?_
  refine NW.next ?_
  by_cases c7 : bt27_1_1 = true
  ·
   rw [if_pos c7] at H
   refine CW.cond_f rfl (not_f (c7)) ?_
   refine CW.skip ?_
   refine NW.next ?_
   refine CW.seq ?_
   refine CW.lex [.W, .W, .W, .W, .W] rfl ?_
   refine RW.pure tabOk 5 rfl ?_
   refine RW.done ?_
   refine NW.next ?_
   refine CW.ret ?_
   obtain rfl := Option.some.inj H
   exact NW.ret3 rfl (by rfl) (by rfl) (by rfl) ⟨At27_0_1, ct27_0_1, A2, c_2, rfl, x0_1, (h75.sub (l' := [(w.heap.size, none, some 70)]) (li' := []) ⟨(.inl ⟨by omega, trivial, rfl⟩), trivial⟩ trivial), (h74.sub (l' := [(w.heap.size, none, some 84)]) (li' := [(w.heap.size, none, some 93)]) ⟨(.inl ⟨by omega, trivial, rfl⟩), trivial⟩ ⟨(.inl ⟨by omega, trivial, rfl⟩), trivial⟩)⟩
  ·
   rw [if_neg c7] at H
   refine CW.cond_t rfl (not_t (bool_f c7)) ?_
   refine CW.seq ?_
   refine CW.lex [.W, .W, .W] rfl ?_
   refine RW.pure tabOk 3 rfl ?_
   refine RW.done ?_
   refine NW.next ?_
   refine CW.ret ?_
   refine NW.ret_then ?_
   obtain rfl := Option.some.inj H
   exact NW.ret3 rfl (by rfl) (by rfl) (by rfl) ⟨none, 0, none, 0, rfl, x0_1, Ow.nil, Ow.nil⟩

set_option maxHeartbeats 4000000 in
set_option maxRecDepth 100000 in
theorem hermitageref0_EqPtrs.calls (k : Nat) (A1 : Option Addr) (c_1 : Nat) (p0 : List Ptr) (A2 : Option Addr) (c_2 : Nat) (p1 : List Ptr) (r : Bool) (w : World) (hs1 : Sl kPtr w.heap okAll A1 p0) (hl1 : p0.length ≤ c_1) (hs2 : Sl kPtr w.heap okAll A2 p1) (hl2 : p1.length ≤ c_2) (H : hermitageref0_EqPtrs.f k p0 p1 = some r) :
    Calls Tryd.prog 73 #[.slice A1 p0.length c_1, .slice A2 p1.length c_2] w fun e w' => e = .returned (.bool r) ∧ Ext w w' := by
 have h1 : Sl kPtr w.heap (okL [(0, some w.heap.size, none)]) A1 p0 := hs1.old _ rfl
 have h2 : Sl kPtr w.heap (okL [(0, some w.heap.size, none)]) A2 p1 := hs2.old _ rfl
 have x0 : Ext w w := Upd.refl _ w
 unfold hermitageref0_EqPtrs.f at H
 refine calls_start Tryd.func73 rfl 26 rfl [.slice A1 p0.length c_1, .slice A2 p1.length c_2] rfl ?_
 refine CW.seq ?_
 refine CW.lex [.W] rfl ?_
 refine RW.pure tabOk 1 rfl ?_
 refine RW.done ?_
 refine NW.next ?_
 refine CW.seq ?_
 refine CW.seq ?_
 refine CW.lex [.W, .W, .W, .W, .W] rfl ?_
 refine RW.pure tabOk 5 rfl ?_
 refine RW.done ?_
 refine NW.next ?_
 by_cases c1 : (p0.length : Int) = (p1.length : Int)
 ·
  rw [if_pos c1] at H
  refine CW.cond_f rfl (bne_f c1) ?_
  refine CW.skip ?_
  refine NW.next ?_
  refine CW.seq ?_
  refine CW.seq ?_
  refine CW.lex [.W] rfl ?_
  refine RW.pure tabOk 1 rfl ?_
  refine RW.done ?_
  refine NW.next ?_
  refine CW.block ?_
  refine CW.loop (fun n1 a w1 => ∃ (it5_0 : Int), Sat 26 [(0, .slice A1 p0.length c_1), (1, .slice A2 p1.length c_2), (5, .int .i64 it5_0)] a ∧ w.heap.size ≤ w1.heap.size ∧ Sl kPtr w1.heap (okL [(0, some w.heap.size, none)]) A1 p0 ∧ Sl kPtr w1.heap (okL [(0, some w.heap.size, none)]) A2 p1 ∧ Ext w w1 ∧ hermitageref0_EqPtrs.l0 p0 p1 n1 it5_0 = some r) k ?_ ?_
  · exact fun a ha => ⟨0, ha.sub ⟨rfl, rfl, rfl, trivial⟩, by omega, h1, h2, x0, H⟩
  intro n1 a w1 hI hp
  obtain ⟨it5_0, hS, hle, gF1_0, gF2_0, x0_0, H⟩ := hI
  cases n1 with
  | zero => cases H
  | succ n1 =>
   rw [hermitageref0_EqPtrs.l0] at H
   refine CW.go hp hS ?_
   refine CW.seq ?_
   refine CW.seq ?_
   refine CW.lex [.W, .W, .W, .W] rfl ?_
   refine RW.pure tabOk 4 rfl ?_
   refine RW.done ?_
   refine NW.next ?_
   by_cases c2 : it5_0 < (p0.length : Int)
   ·
    rw [if_pos c2] at H
    refine CW.cond_t rfl (decide_eq_true c2) ?_
    refine CW.skip ?_
    refine NW.next ?_
    refine CW.seq ?_
    refine CW.block ?_
    refine CW.seq ?_
    refine CW.ord [0, 0, 3, 7, 0, 0, 48, 112, 255] (ofL [(0, .W), (1, .W), (2, .W), (4, .W), (5, .W), (6, .W), (3, .L), (7, .L), (8, .W)] .nil) mixed (by kernel_rfl) ?_
    intro w2 x1
    have sx1 := x1.size
    refine RW.pure tabOk 2 rfl ?_
    obtain ⟨g1, H⟩ := guard_some H
    have h3 := gF1_0.ext x1
    obtain ⟨ad1, e1, a1⟩ := kPtr_at h3 g1.1 g1.2
    refine RW.index tabOk g1.1 g1.2 e1 ⟨rfl, rfl, rfl, rfl⟩ rfl rfl rfl rfl rfl rfl ?_
    refine RW.pure tabOk 2 rfl ?_
    obtain ⟨g2, H⟩ := guard_some H
    have h4 := gF2_0.ext x1
    obtain ⟨ad2, e2, a2⟩ := kPtr_at h4 g2.1 g2.2
    refine RW.index tabOk g2.1 g2.2 e2 ⟨rfl, rfl, rfl, rfl⟩ rfl rfl rfl rfl rfl rfl ?_
    refine RW.load tabOk [.int .i64 ((rd p0 it5_0).Dev), .int .i64 ((rd p0 it5_0).At)] a1 ⟨rfl, rfl, rfl, rfl⟩ rfl rfl rfl rfl ?_
    refine RW.load tabOk [.int .i64 ((rd p1 it5_0).Dev), .int .i64 ((rd p1 it5_0).At)] a2 ⟨rfl, rfl, rfl, rfl⟩ rfl rfl rfl rfl ?_
    refine RW.eqAgg eqgPtr (eqPtr (rd p0 it5_0) (rd p1 it5_0)) ⟨rfl, rfl, rfl, rfl⟩ rfl rfl rfl rfl ?_
    refine RW.done ?_
    refine NW.next ?_
    by_cases c3 : (rd p0 it5_0) = (rd p1 it5_0)
    ·
     rw [if_pos c3] at H
     refine CW.cond_f rfl (not_f (decide_eq_true c3)) ?_
     refine CW.skip ?_
     refine NW.norm_block (NW.next ?_)
     refine CW.lex [.W, .W, .W] rfl ?_
     refine RW.pure tabOk 3 rfl ?_
     refine RW.done ?_
     have h5 := Ext.trans x0_0 x1
     exact NW.J fun a ha => ⟨n1, Nat.lt_succ_self n1, (w64 (it5_0 + 1)), ha.sub ⟨rfl, rfl, rfl, trivial⟩, by omega, h3, h4, h5, H⟩
    ·
     rw [if_neg c3] at H
     refine CW.cond_t rfl (not_t (decide_eq_false c3)) ?_
     refine CW.seq ?_
     refine CW.lex [.W] rfl ?_
     refine RW.pure tabOk 1 rfl ?_
     refine RW.done ?_
     refine NW.next ?_
     refine CW.ret ?_
     refine NW.ret_block (NW.ret_then (NW.ret_then (NW.ret_block (NW.ret_then ?_))))
     obtain rfl := Option.some.inj H
     have h6 := Ext.trans x0_0 x1
     exact NW.ret1 rfl (by rfl) ⟨rfl, h6⟩
   ·
    rw [if_neg c2] at H
    refine CW.cond_f rfl (decide_eq_false c2) ?_
    refine CW.exit ?_
    refine NW.exit_then (NW.exit_then (NW.exit_hit ?_))
    refine NW.next ?_
    refine CW.seq ?_
    refine CW.lex [.W] rfl ?_
    refine RW.pure tabOk 1 rfl ?_
    refine RW.done ?_
    refine NW.next ?_
    refine CW.ret ?_
    obtain rfl := Option.some.inj H
    exact NW.ret1 rfl (by rfl) ⟨rfl, x0_0⟩
 ·
  rw [if_neg c1] at H
  refine CW.cond_t rfl (bne_t c1) ?_
  refine CW.seq ?_
  refine CW.lex [.W] rfl ?_
  refine RW.pure tabOk 1 rfl ?_
  refine RW.done ?_
  refine NW.next ?_
  refine CW.ret ?_
  refine NW.ret_then ?_
  obtain rfl := Option.some.inj H
  exact NW.ret1 rfl (by rfl) ⟨rfl, x0⟩

set_option maxHeartbeats 4000000 in
set_option maxRecDepth 100000 in
theorem hermitagelaw7_wakes.calls (k : Nat)  (r : Bool) (w : World) {gT : Nat} (hG : Box w.heap 0 gT (arrI .u8 64 tz)) (H : hermitagelaw7_wakes.f k = some r) :
    Calls Tryd.prog 43 #[] w fun e w' => e = .returned (.bool r) ∧ Ext w w' := by
 have hG0 : 0 < w.heap.size := hG.lt
 have x0 : Ext w w := Upd.refl _ w
 unfold hermitagelaw7_wakes.f at H
 refine calls_start Tryd.func43 rfl 27 rfl [] rfl ?_
 refine CW.seq ?_
 refine CW.lex [.W] rfl ?_
 refine RW.pure tabOk 1 rfl ?_
 refine RW.done ?_
 refine NW.next ?_
 refine CW.seq ?_
 refine CW.lex [.W, .X, .W, .W, .X, .W, .X, .W] rfl ?_
 refine RW.pure tabOk 1 rfl ?_
 refine RW.buildSlice (cs := [.int .i64 0, .int .i64 2]) tabOk (.inl rfl) ⟨rfl, rfl, rfl, rfl⟩ rfl rfl rfl rfl rfl rfl rfl ?_
 intro b1 w1 x1 l1 h1
 have sx1 := x1.size
 have ltb1 := h1.lt
 refine RW.pure tabOk 2 rfl ?_
 refine RW.buildSlice (cs := [.int .i64 0, .int .i64 3]) tabOk (.inl rfl) ⟨rfl, rfl, rfl, rfl⟩ rfl rfl rfl rfl rfl rfl rfl ?_
 intro b2 w2 x2 l2 h2
 have sx2 := x2.size
 have ltb2 := h2.lt
 refine RW.pure tabOk 1 rfl ?_
 refine RW.buildSlice (cs := [.int .i64 1, .int .i64 2, .slice (some ⟨b1, 0, none⟩) 1 1, .slice none 0 0, .int .i64 2, .int .i64 3, .slice (some ⟨b2, 0, none⟩) 1 1, .slice none 0 0]) tabOk (.inl rfl) ⟨rfl, rfl, rfl, rfl⟩ rfl rfl rfl rfl rfl rfl rfl ?_
 intro b3 w3 x3 l3 h3
 have sx3 := x3.size
 have ltb3 := h3.lt
 refine RW.pure tabOk 1 rfl ?_
 refine RW.done ?_
 refine NW.next ?_
 refine CW.seq ?_
 refine CW.lex [.W, .X, .W, .W, .W, .W, .W, .W, .W] rfl ?_
 refine RW.pure tabOk 1 rfl ?_
 have h4 := (h1.ext x2).ext x3
 have h5 : Ow kSeg 93 w3.heap (okL [(w.heap.size, some w1.heap.size, some 93)]) (okL []) (some ⟨b1, 0, none⟩) 1 ([(⟨0, 2⟩ : Seg)] : List Seg) := Ow.of_box h4 (.inl ⟨l1, ltb1, rfl⟩) (Nat.le_of_ble_eq_true rfl) (Ch.cons (d := kSeg) (cs := [.int .i64 0, .int .i64 2]) (x := (⟨0, 2⟩ : Seg)) (kSeg_mk (⟨0, 2⟩ : Seg)) Ch.nil)
 have h6 := h2.ext x3
 have h7 : Ow kSeg 93 w3.heap (okL [(w1.heap.size, some w2.heap.size, some 93)]) (okL []) (some ⟨b2, 0, none⟩) 1 ([(⟨0, 3⟩ : Seg)] : List Seg) := Ow.of_box h6 (.inl ⟨l2, ltb2, rfl⟩) (Nat.le_of_ble_eq_true rfl) (Ch.cons (d := kSeg) (cs := [.int .i64 0, .int .i64 3]) (x := (⟨0, 3⟩ : Seg)) (kSeg_mk (⟨0, 3⟩ : Seg)) Ch.nil)
 have h8 : Ow kDeviceO 84 w3.heap (okL [(w2.heap.size, some w3.heap.size, some 84)]) (okL [(w.heap.size, some w1.heap.size, some 93), (w1.heap.size, some w2.heap.size, some 93)]) (some ⟨b3, 0, none⟩) 2 ([(⟨1, 2, ([(⟨0, 2⟩ : Seg)] : List Seg), ([] : List Seg)⟩ : Device), (⟨2, 3, ([(⟨0, 3⟩ : Seg)] : List Seg), ([] : List Seg)⟩ : Device)] : List Device) := Ow.of_box h3 (.inl ⟨l3, ltb3, rfl⟩) (Nat.le_of_ble_eq_true rfl) (Ch.cons (d := kDeviceO) (cs := [.int .i64 1, .int .i64 2, .slice (some ⟨b1, 0, none⟩) ([(⟨0, 2⟩ : Seg)] : List Seg).length 1, .slice none 0 0]) (x := (⟨1, 2, ([(⟨0, 2⟩ : Seg)] : List Seg), ([] : List Seg)⟩ : Device)) (kDeviceO_mk (⟨1, 2, ([(⟨0, 2⟩ : Seg)] : List Seg), ([] : List Seg)⟩ : Device) (h5.off (l' := [(w.heap.size, some w1.heap.size, some 93), (w1.heap.size, some w2.heap.size, some 93)]) h3 ⟨.inl (show (93 : Nat) ≠ 84 by decide), trivial⟩ trivial ⟨(.inl ⟨by omega, by omega, rfl⟩), trivial⟩ trivial) Ow.nil) (Ch.cons (d := kDeviceO) (cs := [.int .i64 2, .int .i64 3, .slice (some ⟨b2, 0, none⟩) ([(⟨0, 3⟩ : Seg)] : List Seg).length 1, .slice none 0 0]) (x := (⟨2, 3, ([(⟨0, 3⟩ : Seg)] : List Seg), ([] : List Seg)⟩ : Device)) (kDeviceO_mk (⟨2, 3, ([(⟨0, 3⟩ : Seg)] : List Seg), ([] : List Seg)⟩ : Device) (h7.off (l' := [(w.heap.size, some w1.heap.size, some 93), (w1.heap.size, some w2.heap.size, some 93)]) h3 ⟨.inl (show (93 : Nat) ≠ 84 by decide), trivial⟩ trivial ⟨(.inr (.inl ⟨by omega, by omega, rfl⟩)), trivial⟩ trivial) Ow.nil) Ch.nil))
 have h9 := ((hG.ext x1).ext x2).ext x3
 obtain ⟨y1, h10, H⟩ := bind_some H
 refine RW.callF (.inl rfl) ent40 ⟨rfl, rfl, rfl, rfl⟩ rfl rfl (room_Take.calls k (some ⟨b3, 0, none⟩) 2 ([(⟨1, 2, ([(⟨0, 2⟩ : Seg)] : List Seg), ([] : List Seg)⟩ : Device), (⟨2, 3, ([(⟨0, 3⟩ : Seg)] : List Seg), ([] : List Seg)⟩ : Device)] : List Device) 1 0 _ _ (h8.all.to kDevice_ro rfl) h8.len h9 h10) ?_
 rintro _ w4 ⟨A1, c_1, A2, c_2, rfl, x4, h11, h12⟩
 refine ⟨_, rfl, x4, ?_⟩
 have sx4 := x4.size
 have h13 : Ow kPtr 70 w4.heap (okL [(w3.heap.size, some w4.heap.size, some 70)]) (okL []) A1 c_1 y1.1 := h11.close
 have h14 : Ow kDeviceO 84 w4.heap (okL [(w3.heap.size, some w4.heap.size, some 84)]) (okL [(w3.heap.size, some w4.heap.size, some 93)]) A2 c_2 y1.2.1 := h12.close
 refine RW.pure tabOk 7 rfl ?_
 refine RW.done ?_
 refine NW.next ?_
 refine CW.seq ?_
 refine CW.lex [.W, .X, .W, .W, .W, .W, .X, .X, .W, .W] rfl ?_
 refine RW.pure tabOk 1 rfl ?_
 obtain ⟨y2, h15, H⟩ := bind_some H
 refine RW.callF (.inl rfl) ent38 ⟨rfl, rfl, rfl, rfl⟩ rfl rfl (hermitagelaw7_num.calls y1.2.2 _ _ h15) ?_
 rintro _ w5 ⟨rfl, x5⟩
 refine ⟨_, rfl, x5, ?_⟩
 have sx5 := x5.size
 refine RW.pure tabOk 2 rfl ?_
 by_cases c1 : y2 = 0
 ·
  rw [if_pos c1] at H
  refine RW.bool 21 (b' := true) (beq_t c1) rfl ?_
  refine RW.pure tabOk 2 rfl ?_
  refine RW.buildSlice (cs := [.int .i64 2, .int .i64 0]) tabOk (.inl rfl) ⟨rfl, rfl, rfl, rfl⟩ rfl rfl rfl rfl rfl rfl rfl ?_
  intro b4 w6 x6 l4 h16
  have sx6 := x6.size
  have ltb4 := h16.lt
  have h17 := (h13.ext x5).ext x6
  have h18 : Ow kPtr 70 w6.heap (okL [(w5.heap.size, some w6.heap.size, some 70)]) (okL []) (some ⟨b4, 0, none⟩) 1 ([(⟨2, 0⟩ : Ptr)] : List Ptr) := Ow.of_box h16 (.inl ⟨l4, ltb4, rfl⟩) (Nat.le_of_ble_eq_true rfl) (Ch.cons (d := kPtr) (cs := [.int .i64 2, .int .i64 0]) (x := (⟨2, 0⟩ : Ptr)) (kPtr_mk (⟨2, 0⟩ : Ptr)) Ch.nil)
  obtain ⟨y3, h19, H⟩ := bind_some H
  refine RW.callF (.inl rfl) ent73 ⟨rfl, rfl, rfl, rfl⟩ rfl rfl (hermitageref0_EqPtrs.calls k A1 c_1 y1.1 (some ⟨b4, 0, none⟩) 1 ([(⟨2, 0⟩ : Ptr)] : List Ptr) _ _ h17.all h17.len h18.all h18.len h19) ?_
  rintro _ w7 ⟨rfl, x7⟩
  refine ⟨_, rfl, x7, ?_⟩
  have sx7 := x7.size
  refine RW.pure tabOk 2 rfl ?_
  refine RW.done ?_
  refine NW.next ?_
  refine CW.ret ?_
  obtain rfl := Option.some.inj H
  have h20 := Ext.trans (Ext.trans (Ext.trans (Ext.trans (Ext.trans (Ext.trans (Ext.trans x0 x1) x2) x3) x4) x5) x6) x7
  exact NW.ret1 rfl (by rfl) ⟨rfl, h20⟩
 ·
  rw [if_neg c1] at H
  refine RW.bool 21 (b' := false) (beq_f c1) rfl ?_
  refine RW.pure tabOk 6 rfl ?_
  refine RW.done ?_
  refine NW.next ?_
  refine CW.ret ?_
  obtain rfl := Option.some.inj H
  have h21 := Ext.trans (Ext.trans (Ext.trans (Ext.trans (Ext.trans x0 x1) x2) x3) x4) x5
  exact NW.ret1 rfl (by rfl) ⟨rfl, h21⟩

set_option maxHeartbeats 4000000 in
set_option maxRecDepth 100000 in
theorem hermitageref0_CopySegs.calls (k : Nat) (A1 : Option Addr) (c_1 : Nat) (p0 : List Seg) (r : (List Seg)) (w : World) (hs1 : Sl kSeg w.heap okAll A1 p0) (hl1 : p0.length ≤ c_1) (H : hermitageref0_CopySegs.f k p0 = some r) :
    Calls Tryd.prog 17 #[.slice A1 p0.length c_1] w fun e w' => ∃ (B1 : Option Addr) (d1 : Nat), e = .returned (.slice B1 r.length d1) ∧ Ext w w' ∧ Ow kSeg 93 w'.heap (okL [(w.heap.size, none, some 93)]) (okL []) B1 d1 r := by
 have h1 : Sl kSeg w.heap (okL [(0, some w.heap.size, none)]) A1 p0 := hs1.old _ rfl
 have x0 : Ext w w := Upd.refl _ w
 unfold hermitageref0_CopySegs.f at H
 refine calls_start Tryd.func17 rfl 19 rfl [.slice A1 p0.length c_1] rfl ?_
 refine CW.seq ?_
 refine CW.lex [.W] rfl ?_
 refine RW.pure tabOk 1 rfl ?_
 refine RW.done ?_
 refine NW.next ?_
 refine CW.seq ?_
 refine CW.lex [.W] rfl ?_
 refine RW.pure tabOk 1 rfl ?_
 refine RW.done ?_
 refine NW.next ?_
 refine CW.seq ?_
 refine CW.seq ?_
 refine CW.lex [.W] rfl ?_
 refine RW.pure tabOk 1 rfl ?_
 refine RW.done ?_
 refine NW.next ?_
 refine CW.block ?_
 refine CW.loop (fun n1 a w1 => ∃ (lt3_0 : List Seg) (At3_0 : Option Addr) (ct3_0 : Nat) (it4_0 : Int), Sat 19 [(0, .slice A1 p0.length c_1), (3, .slice At3_0 lt3_0.length ct3_0), (4, .int .i64 it4_0)] a ∧ w.heap.size ≤ w1.heap.size ∧ Ow kSeg 93 w1.heap (okL [(w.heap.size, none, some 93)]) (okL []) At3_0 ct3_0 lt3_0 ∧ Sl kSeg w1.heap (okL [(0, some w.heap.size, none)]) A1 p0 ∧ Ext w w1 ∧ hermitageref0_CopySegs.l0 p0 n1 lt3_0 it4_0 = some r) k ?_ ?_
 · exact fun a ha => ⟨([] : List Seg), none, 0, 0, ha.sub ⟨rfl, rfl, rfl, trivial⟩, by omega, Ow.nil, h1, x0, H⟩
 intro n1 a w1 hI hp
 obtain ⟨lt3_0, At3_0, ct3_0, it4_0, hS, hle, ft3_0, gF1_0, x0_0, H⟩ := hI
 cases n1 with
 | zero => cases H
 | succ n1 =>
  rw [hermitageref0_CopySegs.l0] at H
  refine CW.go hp hS ?_
  have h2 : Ow kSeg 93 w1.heap (okL [(w.heap.size, some w1.heap.size, some 93)]) (okL []) At3_0 ct3_0 lt3_0 := ft3_0.close
  refine CW.seq ?_
  refine CW.seq ?_
  refine CW.lex [.W, .W, .W, .W] rfl ?_
  refine RW.pure tabOk 4 rfl ?_
  refine RW.done ?_
  refine NW.next ?_
  by_cases c1 : it4_0 < (p0.length : Int)
  ·
   rw [if_pos c1] at H
   refine CW.cond_t rfl (decide_eq_true c1) ?_
   refine CW.skip ?_
   refine NW.next ?_
   refine CW.seq ?_
   refine CW.block ?_
   refine CW.lex [.W, .W, .W, .W, .L, .X, .M, .W] rfl ?_
   refine RW.pure tabOk 3 rfl ?_
   obtain ⟨g1, H⟩ := guard_some H
   obtain ⟨ad1, e1, a1⟩ := kSeg_at gF1_0 g1.1 g1.2
   refine RW.index tabOk g1.1 g1.2 e1 ⟨rfl, rfl, rfl, rfl⟩ rfl rfl rfl rfl rfl rfl ?_
   refine RW.load tabOk [.int .i64 ((rd p0 it4_0).At), .int .i64 ((rd p0 it4_0).Len)] a1 ⟨rfl, rfl, rfl, rfl⟩ rfl rfl rfl rfl ?_
   refine RW.buildSlice (cs := [.int .i64 ((rd p0 it4_0).At), .int .i64 ((rd p0 it4_0).Len)]) tabOk (.inl rfl) ⟨rfl, rfl, rfl, rfl⟩ rfl rfl rfl rfl rfl rfl rfl ?_
   intro b1 w2 x1 l1 h3
   have sx1 := x1.size
   have ltb1 := h3.lt
   have h4 := h2.ext x1
   obtain ⟨g2, H⟩ := guard_some H
   refine RW.append1L (d := kSeg) (v := (rd p0 it4_0)) (l := [(w.heap.size, some w1.heap.size, some 93)]) (li := []) (ly := []) (xs := lt3_0) tabOk h4 h3 (kSeg_mk (rd p0 it4_0)) trivial (by simp only [maxLen]; omega) g2 ⟨rfl, rfl, rfl, rfl⟩ rfl rfl rfl rfl rfl rfl rfl ?_
   intro A2 c_2 w3 x2 h5
   have sx2 := x2.size
   have h6 := h5.close.sub (l' := [(w.heap.size, some w3.heap.size, some 93)]) (li' := []) ⟨(.inl ⟨by omega, by omega, rfl⟩), ⟨(.inl ⟨by omega, by omega, rfl⟩), trivial⟩⟩ trivial
   refine RW.pure tabOk 1 rfl ?_
   refine RW.done ?_
   refine NW.norm_block (NW.next ?_)
   refine CW.lex [.W, .W, .W] rfl ?_
   refine RW.pure tabOk 3 rfl ?_
   refine RW.done ?_
   have h7 := (gF1_0.ext x1).turnL x2 ⟨⟨.inr (.inl (by omega)), trivial⟩, trivial⟩
   have h8 := Ext.turn (Ext.trans x0_0 x1) x2 ⟨by omega, trivial⟩
   exact NW.J fun a ha => ⟨n1, Nat.lt_succ_self n1, (lt3_0 ++ [(rd p0 it4_0)]), A2, c_2, (w64 (it4_0 + 1)), ha.sub ⟨rfl, rfl, rfl, trivial⟩, by omega, (h6.sub ⟨(.inl ⟨by omega, trivial, rfl⟩), trivial⟩ trivial), h7, h8, H⟩
  ·
   rw [if_neg c1] at H
   refine CW.cond_f rfl (decide_eq_false c1) ?_
   refine CW.exit ?_
   refine NW.exit_then (NW.exit_then (NW.exit_hit ?_))
   refine NW.next ?_
   refine CW.seq ?_
   refine CW.lex [.W, .W] rfl ?_
   refine RW.pure tabOk 2 rfl ?_
   refine RW.done ?_
   refine NW.next ?_
   refine CW.ret ?_
   obtain rfl := Option.some.inj H
   exact NW.ret1 rfl (by rfl) ⟨At3_0, ct3_0, rfl, x0_0, (h2.sub (l' := [(w.heap.size, none, some 93)]) (li' := []) ⟨(.inl ⟨by omega, trivial, rfl⟩), trivial⟩ trivial)⟩

set_option maxHeartbeats 4000000 in
set_option maxRecDepth 100000 in
theorem hermitageref0_CopyDevice.calls (k : Nat) (p0 : Device) (A1 : Option Addr) (c_1 : Nat) (A2 : Option Addr) (c_2 : Nat) (r : Device) (w : World) (hs1 : Sl kSeg w.heap okAll A1 p0.Free) (hl1 : p0.Free.length ≤ c_1) (hs2 : Sl kSeg w.heap okAll A2 p0.Late) (hl2 : p0.Late.length ≤ c_2) (H : hermitageref0_CopyDevice.f k p0 = some r) :
    Calls Tryd.prog 105 #[.agg #[.int .i64 p0.ID, .int .i64 p0.Size, .slice A1 p0.Free.length c_1, .slice A2 p0.Late.length c_2]] w fun e w' => ∃ (B1 : Option Addr) (d1 : Nat) (B2 : Option Addr) (d2 : Nat), e = .returned (.agg #[.int .i64 r.ID, .int .i64 r.Size, .slice B1 r.Free.length d1, .slice B2 r.Late.length d2]) ∧ Ext w w' ∧ Ow kSeg 93 w'.heap (okL [(w.heap.size, none, some 93)]) (okL []) B1 d1 r.Free ∧ Ow kSeg 93 w'.heap (okL [(w.heap.size, none, some 93)]) (okL []) B2 d2 r.Late := by
 have h1 : Sl kSeg w.heap (okL [(0, some w.heap.size, none)]) A1 p0.Free := hs1.old _ rfl
 have h2 : Sl kSeg w.heap (okL [(0, some w.heap.size, none)]) A2 p0.Late := hs2.old _ rfl
 have x0 : Ext w w := Upd.refl _ w
 unfold hermitageref0_CopyDevice.f at H
 refine calls_start Tryd.func105 rfl 14 rfl [.agg #[.int .i64 p0.ID, .int .i64 p0.Size, .slice A1 p0.Free.length c_1, .slice A2 p0.Late.length c_2]] rfl ?_
 refine CW.seq ?_
 refine CW.lex [.X, .X] rfl ?_
 refine RW.box (cs := [.int .i64 p0.ID, .int .i64 p0.Size, .slice A1 p0.Free.length c_1, .slice A2 p0.Late.length c_2]) (.inl rfl) ⟨rfl, rfl, rfl, rfl⟩ rfl rfl rfl ?_
 intro b1 w1 x1 l1 h3
 have sx1 := x1.size
 have ltb1 := h3.lt
 refine RW.alloc tabOk (.inl rfl) ⟨rfl, rfl, rfl, rfl⟩ rfl rfl ?_
 intro b2 w2 x2 l2 h4
 have sx2 := x2.size
 have ltb2 := h4.lt
 refine RW.done ?_
 refine NW.next ?_
 refine CW.seq ?_
 refine CW.lex [.L, .X, .M] rfl ?_
 have h5 := h3.ext x2
 refine RW.load tabOk [.int .i64 p0.ID, .int .i64 p0.Size, .slice A1 p0.Free.length c_1, .slice A2 p0.Late.length c_2] (h5.at 0) ⟨rfl, rfl, rfl, rfl⟩ rfl rfl rfl rfl ?_
 refine RW.alloc tabOk (.inl rfl) ⟨rfl, rfl, rfl, rfl⟩ rfl rfl ?_
 intro b3 w3 x3 l3 h6
 have sx3 := x3.size
 have ltb3 := h6.lt
 refine RW.storeBox tabOk h6 [.int .i64 p0.ID, .int .i64 p0.Size, .slice A1 p0.Free.length c_1, .slice A2 p0.Late.length c_2] ⟨rfl, rfl, rfl⟩ rfl rfl rfl rfl rfl rfl rfl rfl ?_
 intro w4 x4 h7
 have h8 : Box w4.heap b3 84 [.int .i64 p0.ID, .int .i64 p0.Size, .slice A1 p0.Free.length c_1, .slice A2 p0.Late.length c_2] := h7
 have sx4 := x4.size
 refine RW.done ?_
 refine NW.next ?_
 refine CW.seq ?_
 refine CW.lex [.W, .L, .X, .W, .M] rfl ?_
 refine RW.pure tabOk 1 rfl ?_
 have h9 := (h5.ext x3).turnB x4 (by omega)
 refine RW.load tabOk [.slice A1 p0.Free.length c_1] ((h9.at 2).take 1 rfl) ⟨rfl, rfl, rfl, rfl⟩ rfl rfl rfl rfl ?_
 have h10 := (((h1.ext x1).ext x2).ext x3).turnB x4 h6 ⟨.inr (by omega), trivial⟩
 obtain ⟨y1, h11, H⟩ := bind_some H
 refine RW.callF (.inl rfl) ent17 ⟨rfl, rfl, rfl, rfl⟩ rfl rfl (hermitageref0_CopySegs.calls k A1 c_1 p0.Free _ _ h10.all hl1 h11) ?_
 rintro _ w5 ⟨A3, c_3, rfl, x5, h12⟩
 refine ⟨_, rfl, x5, ?_⟩
 have sx5 := x5.size
 have h13 : Ow kSeg 93 w5.heap (okL [(w4.heap.size, some w5.heap.size, some 93)]) (okL []) A3 c_3 y1 := h12.close
 refine RW.pure tabOk 1 rfl ?_
 have h14 := h8.ext x5
 refine RW.storeBox tabOk h14 [.slice A3 y1.length c_3] ⟨rfl, rfl, rfl⟩ rfl rfl rfl rfl rfl rfl rfl rfl ?_
 intro w6 x6 h15
 have h16 : Box w6.heap b3 84 [.int .i64 p0.ID, .int .i64 p0.Size, .slice A3 y1.length c_3, .slice A2 p0.Late.length c_2] := h15
 have sx6 := x6.size
 refine RW.done ?_
 refine NW.next ?_
 refine CW.seq ?_
 refine CW.lex [.W, .L, .X, .W, .M] rfl ?_
 refine RW.pure tabOk 1 rfl ?_
 have h17 := (h9.ext x5).turnB x6 (by omega)
 refine RW.load tabOk [.slice A2 p0.Late.length c_2] (h17.at 3) ⟨rfl, rfl, rfl, rfl⟩ rfl rfl rfl rfl ?_
 have h18 := (((((h2.ext x1).ext x2).ext x3).turnB x4 h6 ⟨.inr (by omega), trivial⟩).ext x5).turnB x6 h14 ⟨.inr (by omega), trivial⟩
 obtain ⟨y2, h19, H⟩ := bind_some H
 refine RW.callF (.inl rfl) ent17 ⟨rfl, rfl, rfl, rfl⟩ rfl rfl (hermitageref0_CopySegs.calls k A2 c_2 p0.Late _ _ h18.all hl2 h19) ?_
 rintro _ w7 ⟨A4, c_4, rfl, x7, h20⟩
 refine ⟨_, rfl, x7, ?_⟩
 have sx7 := x7.size
 have h21 : Ow kSeg 93 w7.heap (okL [(w6.heap.size, some w7.heap.size, some 93)]) (okL []) A4 c_4 y2 := h20.close
 refine RW.pure tabOk 1 rfl ?_
 have h22 := h16.ext x7
 refine RW.storeBox tabOk h22 [.slice A4 y2.length c_4] ⟨rfl, rfl, rfl⟩ rfl rfl rfl rfl rfl rfl rfl rfl ?_
 intro w8 x8 h23
 have h24 : Box w8.heap b3 84 [.int .i64 p0.ID, .int .i64 p0.Size, .slice A3 y1.length c_3, .slice A4 y2.length c_4] := h23
 have sx8 := x8.size
 refine RW.done ?_
 refine NW.next ?_
 refine CW.seq ?_
 refine CW.lex [.L, .M] rfl ?_
 refine RW.load tabOk [.int .i64 p0.ID, .int .i64 p0.Size, .slice A3 y1.length c_3, .slice A4 y2.length c_4] (h24.at 0) ⟨rfl, rfl, rfl, rfl⟩ rfl rfl rfl rfl ?_
 have h25 := (((((h4.ext x3).turnB x4 (by omega)).ext x5).turnB x6 (by omega)).ext x7).turnB x8 (by omega)
 refine RW.storeBox tabOk h25 [.int .i64 p0.ID, .int .i64 p0.Size, .slice A3 y1.length c_3, .slice A4 y2.length c_4] ⟨rfl, rfl, rfl⟩ rfl rfl rfl rfl rfl rfl rfl rfl ?_
 intro w9 x9 h26
 have h27 : Box w9.heap b2 84 [.int .i64 p0.ID, .int .i64 p0.Size, .slice A3 y1.length c_3, .slice A4 y2.length c_4] := h26
 have sx9 := x9.size
 refine RW.done ?_
 refine NW.next ?_
 refine CW.ret ?_
 have h28 := (((h13.turnB x6 h14 ⟨.inl (show (93 : Nat) ≠ 84 by decide), trivial⟩ trivial).ext x7).turnB x8 h22 ⟨.inl (show (93 : Nat) ≠ 84 by decide), trivial⟩ trivial).turnB x9 h25 ⟨.inl (show (93 : Nat) ≠ 84 by decide), trivial⟩ trivial
 have h29 := (h21.turnB x8 h22 ⟨.inl (show (93 : Nat) ≠ 84 by decide), trivial⟩ trivial).turnB x9 h25 ⟨.inl (show (93 : Nat) ≠ 84 by decide), trivial⟩ trivial
 obtain rfl := Option.some.inj H
 have h30 := Ext.turnB (Ext.turnB (Ext.trans (Ext.turnB (Ext.trans (Ext.turnB (Ext.trans (Ext.trans (Ext.trans x0 x1) x2) x3) x4 (by omega)) x5) x6 (by omega)) x7) x8 (by omega)) x9 (by omega)
 exact NW.ret1 rfl (resOne_cell tabOk (h27.at 0) rfl rfl rfl) ⟨A3, c_3, A4, c_4, rfl, h30, (h28.sub (l' := [(w.heap.size, none, some 93)]) (li' := []) ⟨(.inl ⟨by omega, trivial, rfl⟩), trivial⟩ trivial), (h29.sub (l' := [(w.heap.size, none, some 93)]) (li' := []) ⟨(.inl ⟨by omega, trivial, rfl⟩), trivial⟩ trivial)⟩

set_option maxHeartbeats 4000000 in
set_option maxRecDepth 100000 in
theorem hermitageref0_CopyDevices.calls (k : Nat) (A1 : Option Addr) (c_1 : Nat) (p0 : List Device) (r : (List Device)) (w : World) (hs1 : Sl kDeviceR w.heap okAll A1 p0) (hl1 : p0.length ≤ c_1) (H : hermitageref0_CopyDevices.f k p0 = some r) :
    Calls Tryd.prog 88 #[.slice A1 p0.length c_1] w fun e w' => ∃ (B1 : Option Addr) (d1 : Nat), e = .returned (.slice B1 r.length d1) ∧ Ext w w' ∧ Ow kDeviceO 84 w'.heap (okL [(w.heap.size, none, some 84)]) (okL [(w.heap.size, none, some 93)]) B1 d1 r := by
 have h1 : Sl kDeviceR w.heap (okL [(0, some w.heap.size, none)]) A1 p0 := hs1.old _ rfl
 have x0 : Ext w w := Upd.refl _ w
 unfold hermitageref0_CopyDevices.f at H
 refine calls_start Tryd.func88 rfl 20 rfl [.slice A1 p0.length c_1] rfl ?_
 refine CW.seq ?_
 refine CW.lex [.W] rfl ?_
 refine RW.pure tabOk 1 rfl ?_
 refine RW.done ?_
 refine NW.next ?_
 refine CW.seq ?_
 refine CW.lex [.W] rfl ?_
 refine RW.pure tabOk 1 rfl ?_
 refine RW.done ?_
 refine NW.next ?_
 refine CW.seq ?_
 refine CW.seq ?_
 refine CW.lex [.W] rfl ?_
 refine RW.pure tabOk 1 rfl ?_
 refine RW.done ?_
 refine NW.next ?_
 refine CW.block ?_
 refine CW.loop (fun n1 a w1 => ∃ (lt3_0 : List Device) (At3_0 : Option Addr) (ct3_0 : Nat) (it4_0 : Int), Sat 20 [(0, .slice A1 p0.length c_1), (3, .slice At3_0 lt3_0.length ct3_0), (4, .int .i64 it4_0)] a ∧ w.heap.size ≤ w1.heap.size ∧ Ow kDeviceO 84 w1.heap (okL [(w.heap.size, none, some 84)]) (okL [(w.heap.size, none, some 93)]) At3_0 ct3_0 lt3_0 ∧ Sl kDeviceR w1.heap (okL [(0, some w.heap.size, none)]) A1 p0 ∧ Ext w w1 ∧ hermitageref0_CopyDevices.l0 p0 k n1 lt3_0 it4_0 = some r) k ?_ ?_
 · exact fun a ha => ⟨([] : List Device), none, 0, 0, ha.sub ⟨rfl, rfl, rfl, trivial⟩, by omega, Ow.nil, h1, x0, H⟩
 intro n1 a w1 hI hp
 obtain ⟨lt3_0, At3_0, ct3_0, it4_0, hS, hle, ft3_0, gF1_0, x0_0, H⟩ := hI
 cases n1 with
 | zero => cases H
 | succ n1 =>
  rw [hermitageref0_CopyDevices.l0] at H
  refine CW.go hp hS ?_
  have h2 : Ow kDeviceO 84 w1.heap (okL [(w.heap.size, some w1.heap.size, some 84)]) (okL [(w.heap.size, some w1.heap.size, some 93)]) At3_0 ct3_0 lt3_0 := ft3_0.close
  refine CW.seq ?_
  refine CW.seq ?_
  refine CW.lex [.W, .W, .W, .W] rfl ?_
  refine RW.pure tabOk 4 rfl ?_
  refine RW.done ?_
  refine NW.next ?_
  by_cases c1 : it4_0 < (p0.length : Int)
  ·
   rw [if_pos c1] at H
   refine CW.cond_t rfl (decide_eq_true c1) ?_
   refine CW.skip ?_
   refine NW.next ?_
   refine CW.seq ?_
   refine CW.block ?_
   refine CW.lex [.W, .W, .W, .W, .L, .X, .X, .M, .W] rfl ?_
   refine RW.pure tabOk 3 rfl ?_
   obtain ⟨g1, H⟩ := guard_some H
   obtain ⟨ad1, A2, c_2, A3, c_3, e1, a1, l1, h3, l2, h4⟩ := kDeviceR_at gF1_0 g1.1 g1.2
   refine RW.index tabOk g1.1 g1.2 e1 ⟨rfl, rfl, rfl, rfl⟩ rfl rfl rfl rfl rfl rfl ?_
   refine RW.load tabOk [.int .i64 ((rd p0 it4_0).ID), .int .i64 ((rd p0 it4_0).Size), .slice A2 ((rd p0 it4_0).Free).length c_2, .slice A3 ((rd p0 it4_0).Late).length c_3] a1 ⟨rfl, rfl, rfl, rfl⟩ rfl rfl rfl rfl ?_
   obtain ⟨y1, h5, H⟩ := bind_some H
   refine RW.callF (.inl rfl) ent105 ⟨rfl, rfl, rfl, rfl⟩ rfl rfl (hermitageref0_CopyDevice.calls k (rd p0 it4_0) A2 c_2 A3 c_3 _ _ h3.all l1 h4.all l2 h5) ?_
   rintro _ w2 ⟨A4, c_4, A5, c_5, rfl, x1, h6, h7⟩
   refine ⟨_, rfl, x1, ?_⟩
   have sx1 := x1.size
   have h8 : Ow kSeg 93 w2.heap (okL [(w1.heap.size, some w2.heap.size, some 93)]) (okL []) A4 c_4 y1.Free := h6.close
   have h9 : Ow kSeg 93 w2.heap (okL [(w1.heap.size, some w2.heap.size, some 93)]) (okL []) A5 c_5 y1.Late := h7.close
   refine RW.buildSlice (cs := [.int .i64 y1.ID, .int .i64 y1.Size, .slice A4 y1.Free.length c_4, .slice A5 y1.Late.length c_5]) tabOk (.inl rfl) ⟨rfl, rfl, rfl, rfl⟩ rfl rfl rfl rfl rfl rfl rfl ?_
   intro b1 w3 x2 l3 h10
   have sx2 := x2.size
   have ltb1 := h10.lt
   have h11 := (h2.ext x1).ext x2
   have h12 := h8.ext x2
   have h13 := h9.ext x2
   obtain ⟨g2, H⟩ := guard_some H
   refine RW.append1L (d := kDeviceO) (v := y1) (l := [(w.heap.size, some w1.heap.size, some 84)]) (li := [(w.heap.size, some w1.heap.size, some 93)]) (ly := [(w1.heap.size, some w2.heap.size, some 93)]) (xs := lt3_0) tabOk h11 h10 (kDeviceO_mk y1 (h12.sub (l' := [(w1.heap.size, some w2.heap.size, some 93)]) (li' := [(w1.heap.size, some w2.heap.size, some 93)]) ⟨(.inl ⟨by omega, by omega, rfl⟩), trivial⟩ trivial) (h13.sub (l' := [(w1.heap.size, some w2.heap.size, some 93)]) (li' := [(w1.heap.size, some w2.heap.size, some 93)]) ⟨(.inl ⟨by omega, by omega, rfl⟩), trivial⟩ trivial)) ⟨⟨.inl (show (93 : Nat) ≠ 84 by decide), trivial⟩, trivial⟩ (by simp only [maxLen]; omega) g2 ⟨rfl, rfl, rfl, rfl⟩ rfl rfl rfl rfl rfl rfl rfl ?_
   intro A6 c_6 w4 x3 h14
   have sx3 := x3.size
   have h15 := h14.close.sub (l' := [(w.heap.size, some w4.heap.size, some 84)]) (li' := [(w.heap.size, some w2.heap.size, some 93)]) ⟨(.inl ⟨by omega, by omega, rfl⟩), ⟨(.inl ⟨by omega, by omega, rfl⟩), trivial⟩⟩ ⟨(.inl ⟨by omega, by omega, rfl⟩), ⟨(.inl ⟨by omega, by omega, rfl⟩), trivial⟩⟩
   refine RW.pure tabOk 1 rfl ?_
   refine RW.done ?_
   refine NW.norm_block (NW.next ?_)
   refine CW.lex [.W, .W, .W] rfl ?_
   refine RW.pure tabOk 3 rfl ?_
   refine RW.done ?_
   have h16 := ((gF1_0.ext x1).ext x2).turnL x3 ⟨⟨.inr (.inl (by omega)), trivial⟩, trivial⟩
   have h17 := Ext.turn (Ext.trans (Ext.trans x0_0 x1) x2) x3 ⟨by omega, trivial⟩
   exact NW.J fun a ha => ⟨n1, Nat.lt_succ_self n1, (lt3_0 ++ [y1]), A6, c_6, (w64 (it4_0 + 1)), ha.sub ⟨rfl, rfl, rfl, trivial⟩, by omega, (h15.sub ⟨(.inl ⟨by omega, trivial, rfl⟩), trivial⟩ ⟨(.inl ⟨by omega, trivial, rfl⟩), trivial⟩), h16, h17, H⟩
  ·
   rw [if_neg c1] at H
   refine CW.cond_f rfl (decide_eq_false c1) ?_
   refine CW.exit ?_
   refine NW.exit_then (NW.exit_then (NW.exit_hit ?_))
   refine NW.next ?_
   refine CW.seq ?_
   refine CW.lex [.W, .W] rfl ?_
   refine RW.pure tabOk 2 rfl ?_
   refine RW.done ?_
   refine NW.next ?_
   refine CW.ret ?_
   obtain rfl := Option.some.inj H
   exact NW.ret1 rfl (by rfl) ⟨At3_0, ct3_0, rfl, x0_0, (h2.sub (l' := [(w.heap.size, none, some 84)]) (li' := [(w.heap.size, none, some 93)]) ⟨(.inl ⟨by omega, trivial, rfl⟩), trivial⟩ ⟨(.inl ⟨by omega, trivial, rfl⟩), trivial⟩)⟩

set_option maxHeartbeats 4000000 in
set_option maxRecDepth 100000 in
theorem hermitageref0_Num.calls (p0 : Int) (p1 : Int) (r : Bool) (w : World) (H : hermitageref0_Num.f p0 p1 = some r) :
    Calls Tryd.prog 31 #[.int .i64 p0, .int .i64 p1] w fun e w' => e = .returned (.bool r) ∧ Ext w w' := by
 have x0 : Ext w w := Upd.refl _ w
 unfold hermitageref0_Num.f at H
 refine calls_start Tryd.func31 rfl 12 rfl [.int .i64 p0, .int .i64 p1] rfl ?_
 refine CW.seq ?_
 refine CW.lex [.W] rfl ?_
 refine RW.pure tabOk 1 rfl ?_
 refine RW.done ?_
 refine NW.next ?_
 refine CW.seq ?_
 refine CW.lex [.W, .W, .W, .W, .W, .W, .W, .W] rfl ?_
 refine RW.pure tabOk 3 rfl ?_
 by_cases c1 : 0 ≤ p0
 ·
  rw [if_pos c1] at H
  refine RW.bool 7 (b' := true) (decide_eq_true c1) rfl ?_
  refine RW.pure tabOk 5 rfl ?_
  refine RW.done ?_
  refine NW.next ?_
  refine CW.ret ?_
  obtain rfl := Option.some.inj H
  exact NW.ret1 rfl (by rfl) ⟨rfl, x0⟩
 ·
  rw [if_neg c1] at H
  refine RW.bool 7 (b' := false) (decide_eq_false c1) rfl ?_
  refine RW.pure tabOk 5 rfl ?_
  refine RW.done ?_
  refine NW.next ?_
  refine CW.ret ?_
  obtain rfl := Option.some.inj H
  exact NW.ret1 rfl (by rfl) ⟨rfl, x0⟩

set_option maxHeartbeats 4000000 in
set_option maxRecDepth 100000 in
theorem room_Commit.calls (k : Nat) (A1 : Option Addr) (c_1 : Nat) (p0 : List Device) (r : (List Device) × Int) (w : World) (hs1 : Sl kDeviceR w.heap okAll A1 p0) (hl1 : p0.length ≤ c_1) {gT : Nat} (hG : Box w.heap 0 gT (arrI .u8 64 tz)) (H : room_Commit.f k p0 = some r) :
    Calls Tryd.prog 37 #[.slice A1 p0.length c_1] w fun e w' => ∃ (B1 : Option Addr) (d1 : Nat), e = .returned (.tuple #[.slice B1 r.1.length d1, .int .i64 r.2]) ∧ Ext w w' ∧ Ow kDeviceO 84 w'.heap (okL [(w.heap.size, none, some 84)]) (okL [(w.heap.size, none, some 93)]) B1 d1 r.1 := by
 have h1 : Sl kDeviceR w.heap (okL [(0, some w.heap.size, none)]) A1 p0 := hs1.old _ rfl
 have hG0 : 0 < w.heap.size := hG.lt
 have x0 : Ext w w := Upd.refl _ w
 unfold room_Commit.f at H
 refine calls_start Tryd.func37 rfl 13 rfl [.slice A1 p0.length c_1] rfl ?_
 refine CW.seq ?_
 refine CW.lex [.W, .W] rfl ?_
 refine RW.pure tabOk 2 rfl ?_
 refine RW.done ?_
 refine NW.next ?_
 refine CW.seq ?_
 refine CW.seq ?_
 refine CW.lex [.W, .X, .W] rfl ?_
 refine RW.pure tabOk 1 rfl ?_
 obtain ⟨y1, h2, H⟩ := bind_some H
 refine RW.callF (.inl rfl) ent66 ⟨rfl, rfl, rfl, rfl⟩ rfl rfl (room_May.calls k A1 c_1 p0 _ _ h1.all hl1 h2) ?_
 rintro _ w1 ⟨rfl, x1⟩
 refine ⟨_, rfl, x1, ?_⟩
 have sx1 := x1.size
 refine RW.pure tabOk 1 rfl ?_
 refine RW.done ?_
 refine NW.next ?_
 by_cases c1 : y1 = true
 ·
  rw [if_pos c1] at H
  refine CW.cond_f rfl (not_f (c1)) ?_
  refine CW.skip ?_
  refine NW.next ?_
  refine CW.seq ?_
  refine CW.lex [.W, .X, .W] rfl ?_
  refine RW.pure tabOk 1 rfl ?_
  have h3 := h1.ext x1
  obtain ⟨y2, h4, H⟩ := bind_some H
  refine RW.callF (.inl rfl) ent67 ⟨rfl, rfl, rfl, rfl⟩ rfl rfl (room_Own.calls k A1 c_1 p0 _ _ h3.all hl1 h4) ?_
  rintro _ w2 ⟨A2, c_2, rfl, x2, h5⟩
  refine ⟨_, rfl, x2, ?_⟩
  have sx2 := x2.size
  have h6 : Ow kDeviceO 84 w2.heap (okL [(w1.heap.size, some w2.heap.size, some 84)]) (okL [(w1.heap.size, some w2.heap.size, some 93)]) A2 c_2 y2 := h5.close
  refine RW.pure tabOk 1 rfl ?_
  refine RW.done ?_
  refine NW.next ?_
  refine CW.seq ?_
  refine CW.lex [.W, .M] rfl ?_
  refine RW.pure tabOk 1 rfl ?_
  refine RW.callFM (R := fun e w3 => ∃ (lt4_0 : List Device), e = .returned (.tuple #[]) ∧ w2.heap.size ≤ w3.heap.size ∧ Ow kDeviceO 84 w3.heap (okL [(w1.heap.size, none, some 84)]) (okL [(w1.heap.size, none, some 93)]) A2 c_2 lt4_0 ∧ Ext w w3 ∧ lt4_0.length = y2.length ∧ Box w3.heap 0 gT (arrI .u8 64 tz) ∧ room_Commit.j0 lt4_0 = some r) ent68 ⟨rfl, rfl, rfl, rfl⟩ rfl rfl rfl ?_ ?_
  ·
   refine calls_start Tryd.func68 rfl 28 rfl [.slice A2 y2.length c_2] rfl ?_
   refine CW.seq ?_
   refine CW.lex [.W, .W, .W] rfl ?_
   refine RW.pure tabOk 3 rfl ?_
   refine RW.done ?_
   refine NW.next ?_
   refine CW.block ?_
   refine CW.loop (fun n1 a w4 => ∃ (ls0_4_1 : List Device) (it6_1 : Int), Sat 28 [(0, .slice A2 ls0_4_1.length c_2), (4, .slice A2 ls0_4_1.length c_2), (5, .int .i64 (y2.length : Int)), (6, .int .i64 it6_1)] a ∧ w2.heap.size ≤ w4.heap.size ∧ Ow kDeviceO 84 w4.heap (okL [(w1.heap.size, none, some 84)]) (okL [(w1.heap.size, none, some 93)]) A2 c_2 ls0_4_1 ∧ Ext w w4 ∧ ls0_4_1.length = y2.length ∧ Box w4.heap 0 gT (arrI .u8 64 tz) ∧ room_Commit.l0 k y2 n1 ls0_4_1 it6_1 = some r) k ?_ ?_
   have h7 := Ext.trans (Ext.trans x0 x1) x2
   have h8 := (hG.ext x1).ext x2
   · exact fun a ha => ⟨y2, 0, ha.sub ⟨rfl, rfl, rfl, rfl, trivial⟩, by omega, (h6.sub ⟨(.inl ⟨by omega, trivial, rfl⟩), trivial⟩ ⟨(.inl ⟨by omega, trivial, rfl⟩), trivial⟩), h7, (by (try simp only [List.length_set]) <;> omega), h8, H⟩
   intro n1 a w4 hI hp
   obtain ⟨ls0_4_1, it6_1, hS, hle, fs0_4_1, x0_1, ln_ls0_4_1, g0_1, H⟩ := hI
   cases n1 with
   | zero => cases H
   | succ n1 =>
    rw [room_Commit.l0] at H
    refine CW.go hp hS ?_
    have h9 : Ow kDeviceO 84 w4.heap (okL [(w1.heap.size, some w4.heap.size, some 84)]) (okL [(w1.heap.size, some w4.heap.size, some 93)]) A2 c_2 ls0_4_1 := fs0_4_1.close
    refine CW.seq ?_
    refine CW.lex [.W] rfl ?_
    refine RW.pure tabOk 1 rfl ?_
    refine RW.done ?_
    refine NW.next ?_
    refine CW.seq ?_
    by_cases c2 : it6_1 < (y2.length : Int)
    ·
     rw [if_pos c2] at H
     refine CW.cond_t rfl (decide_eq_true c2) ?_
     refine CW.skip ?_
     refine NW.next ?_
     refine CW.seq ?_
     refine CW.block ?_
     refine CW.seq ?_
     refine CW.lex [.W, .W, .L, .X, .W, .M] rfl ?_
     refine RW.pure tabOk 1 rfl ?_
     obtain ⟨g1, H⟩ := guard_some H
     obtain ⟨ad1, A3, c_3, A4, c_4, e1, a1, h10, h11⟩ := kDeviceO_ato h9 g1.1 g1.2
     refine RW.index tabOk g1.1 g1.2 e1 ⟨rfl, rfl, rfl, rfl⟩ rfl rfl rfl rfl rfl rfl ?_
     refine RW.load tabOk [.int .i64 ((rd ls0_4_1 it6_1).ID), .int .i64 ((rd ls0_4_1 it6_1).Size), .slice A3 ((rd ls0_4_1 it6_1).Free).length c_3, .slice A4 ((rd ls0_4_1 it6_1).Late).length c_4] a1 ⟨rfl, rfl, rfl, rfl⟩ rfl rfl rfl rfl ?_
     refine RW.alloc tabOk (.inl rfl) ⟨rfl, rfl, rfl, rfl⟩ rfl rfl ?_
     intro b1 w5 x3 l3 h12
     have sx3 := x3.size
     have ltb1 := h12.lt
     refine RW.pure tabOk 1 rfl ?_
     refine RW.storeBox tabOk h12 [.int .i64 ((rd ls0_4_1 it6_1).ID), .int .i64 ((rd ls0_4_1 it6_1).Size), .slice A3 ((rd ls0_4_1 it6_1).Free).length c_3, .slice A4 ((rd ls0_4_1 it6_1).Late).length c_4] ⟨rfl, rfl, rfl⟩ rfl rfl rfl rfl rfl rfl rfl rfl ?_
     intro w6 x4 h13
     have h14 : Box w6.heap b1 84 [.int .i64 ((rd ls0_4_1 it6_1).ID), .int .i64 ((rd ls0_4_1 it6_1).Size), .slice A3 ((rd ls0_4_1 it6_1).Free).length c_3, .slice A4 ((rd ls0_4_1 it6_1).Late).length c_4] := h13
     have sx4 := x4.size
     refine RW.done ?_
     refine NW.next ?_
     refine CW.ord [0, 0, 0, 0, 0, 16, 48, 0, 128, 496, 1008, 2032, 4083, 8179, 16371, 32767, 65535, 131071] (ofL [(0, .W), (1, .W), (2, .W), (3, .W), (4, .W), (7, .W), (5, .L), (8, .L), (6, .X), (9, .X), (10, .W), (11, .X), (12, .W), (13, .W), (14, .M), (15, .W), (16, .W), (17, .M)] .nil) mixed (by kernel_rfl) ?_
     intro w7 x5
     have sx5 := x5.size
     refine RW.pure tabOk 6 rfl ?_
     have h15 := h14.ext x5
     refine RW.load tabOk [.slice A3 ((rd ls0_4_1 it6_1).Free).length c_3] ((h15.at 2).take 1 rfl) ⟨rfl, rfl, rfl, rfl⟩ rfl rfl rfl rfl ?_
     refine RW.load tabOk [.slice A4 ((rd ls0_4_1 it6_1).Late).length c_4] (h15.at 3) ⟨rfl, rfl, rfl, rfl⟩ rfl rfl rfl rfl ?_
     have h16 := ((h10.ext x3).turnB x4 h12 ⟨.inl (show (93 : Nat) ≠ 84 by decide), trivial⟩ ⟨.inl (show (93 : Nat) ≠ 84 by decide), trivial⟩).ext x5
     obtain ⟨y3, h17, H⟩ := bind_some H
     refine RW.callF (.inl rfl) ent52 ⟨rfl, rfl, rfl, rfl⟩ rfl rfl (seg_Make.calls k A3 c_3 ((rd ls0_4_1 it6_1).Free) _ _ h16.all h16.len h17) ?_
     rintro _ w8 ⟨rfl, x6⟩
     refine ⟨_, rfl, x6, ?_⟩
     have sx6 := x6.size
     have h18 := (((h11.ext x3).turnB x4 h12 ⟨.inl (show (93 : Nat) ≠ 84 by decide), trivial⟩ ⟨.inl (show (93 : Nat) ≠ 84 by decide), trivial⟩).ext x5).ext x6
     obtain ⟨y4, h19, H⟩ := bind_some H
     refine RW.callF (.inl rfl) ent52 ⟨rfl, rfl, rfl, rfl⟩ rfl rfl (seg_Make.calls k A4 c_4 ((rd ls0_4_1 it6_1).Late) _ _ h18.all h18.len h19) ?_
     rintro _ w9 ⟨rfl, x7⟩
     refine ⟨_, rfl, x7, ?_⟩
     have sx7 := x7.size
     refine RW.pure tabOk 1 rfl ?_
     have h20 := ((((g0_1.ext x3).turnB x4 (by omega)).ext x5).ext x6).ext x7
     obtain ⟨y5, h21, H⟩ := bind_some H
     refine RW.callF (.inl rfl) ent53 ⟨rfl, rfl, rfl, rfl⟩ rfl rfl (seg_Set_Segs.calls k (uor y3 y4) _ _ h20 h21) ?_
     rintro _ w10 ⟨A5, c_5, rfl, x8, h22⟩
     refine ⟨_, rfl, x8, ?_⟩
     have sx8 := x8.size
     have h23 : Ow kSeg 93 w10.heap (okL [(w9.heap.size, some w10.heap.size, some 93)]) (okL []) A5 c_5 y5 := h22.close
     obtain ⟨g2, H⟩ := guard_some H
     have h24 := (((((h9.ext x3).turnB x4 h12 ⟨.inr (by omega), trivial⟩ ⟨.inl (show (93 : Nat) ≠ 84 by decide), trivial⟩).ext x5).ext x6).ext x7).ext x8
     obtain ⟨ad2, A6, c_6, A7, c_7, e2, a2, h25, h26⟩ := kDeviceO_ato h24 g2.1 g2.2
     refine RW.index tabOk g2.1 g2.2 e2 ⟨rfl, rfl, rfl, rfl⟩ rfl rfl rfl rfl rfl rfl ?_
     refine RW.pure tabOk 1 rfl ?_
     refine RW.storeElL (y := (⟨(rd ls0_4_1 it6_1).ID, (rd ls0_4_1 it6_1).Size, y5, (rd ls0_4_1 it6_1).Late⟩ : Device)) (lv := [(w9.heap.size, some w10.heap.size, some 93)]) (k := 2) tabOk h24 (j := it6_1.toNat) (by have := g2; omega) default [.slice A5 y5.length c_5] (fun cs ok' hr => by obtain ⟨qa1, qc1, qa2, qc2, rfl, q1, q2⟩ := kDeviceO_open hr; exact ⟨by simp, kDeviceO_mk (⟨(rd ls0_4_1 it6_1).ID, (rd ls0_4_1 it6_1).Size, y5, (rd ls0_4_1 it6_1).Late⟩ : Device) (h23.mono (fun _ _ ho => Or.inr (okL_sub (l := [(w9.heap.size, some w10.heap.size, some 93)]) (l' := [(w9.heap.size, some w10.heap.size, some 93)]) ⟨(.inl ⟨by omega, by omega, rfl⟩), trivial⟩ ho)) (fun _ _ ho => Or.inr (okL_sub (l := []) (l' := [(w9.heap.size, some w10.heap.size, some 93)]) trivial ho))) (q2.mono (fun _ _ ho => Or.inl ho) (fun _ _ ho => Or.inl ho))⟩) ⟨⟨.inl (show (93 : Nat) ≠ 84 by decide), trivial⟩, trivial⟩ ⟨rfl, rfl, rfl⟩ rfl rfl e2 rfl rfl rfl rfl rfl ?_
     intro w11 x9 h27
     have sx9 := x9.size
     have h28 := h27.close.sub (l' := [(w1.heap.size, some w4.heap.size, some 84)]) (li' := [(w1.heap.size, some w10.heap.size, some 93)]) ⟨(.inl ⟨by omega, by omega, rfl⟩), trivial⟩ ⟨(.inl ⟨by omega, by omega, rfl⟩), ⟨(.inl ⟨by omega, by omega, rfl⟩), trivial⟩⟩
     refine RW.tell 0 (v' := .slice A2 (ls0_4_1.set it6_1.toNat (⟨(rd ls0_4_1 it6_1).ID, (rd ls0_4_1 it6_1).Size, y5, (rd ls0_4_1 it6_1).Late⟩ : Device)).length c_2) (by simp only [List.length_set]) rfl ?_
     refine RW.tell 4 (v' := .slice A2 (ls0_4_1.set it6_1.toNat (⟨(rd ls0_4_1 it6_1).ID, (rd ls0_4_1 it6_1).Size, y5, (rd ls0_4_1 it6_1).Late⟩ : Device)).length c_2) (by simp only [List.length_set]) rfl ?_
     refine RW.tell 13 (v' := .slice A2 (ls0_4_1.set it6_1.toNat (⟨(rd ls0_4_1 it6_1).ID, (rd ls0_4_1 it6_1).Size, y5, (rd ls0_4_1 it6_1).Late⟩ : Device)).length c_2) (by simp only [List.length_set]) rfl ?_
     obtain ⟨g3, H⟩ := guard_some H
     obtain ⟨ad3, A8, c_8, A9, c_9, e3, a3, h29, h30⟩ := kDeviceO_ato h28 g3.1 g3.2
     refine RW.index tabOk g3.1 g3.2 e3 ⟨rfl, rfl, rfl, rfl⟩ rfl rfl rfl rfl rfl rfl ?_
     refine RW.pure tabOk 1 rfl ?_
     refine RW.storeElL (y := (⟨(rd (ls0_4_1.set it6_1.toNat (⟨(rd ls0_4_1 it6_1).ID, (rd ls0_4_1 it6_1).Size, y5, (rd ls0_4_1 it6_1).Late⟩ : Device)) it6_1).ID, (rd (ls0_4_1.set it6_1.toNat (⟨(rd ls0_4_1 it6_1).ID, (rd ls0_4_1 it6_1).Size, y5, (rd ls0_4_1 it6_1).Late⟩ : Device)) it6_1).Size, (rd (ls0_4_1.set it6_1.toNat (⟨(rd ls0_4_1 it6_1).ID, (rd ls0_4_1 it6_1).Size, y5, (rd ls0_4_1 it6_1).Late⟩ : Device)) it6_1).Free, ([] : List Seg)⟩ : Device)) (lv := []) (k := 3) tabOk h28 (j := it6_1.toNat) (by have := g3; omega) default [.slice none 0 0] (fun cs ok' hr => by obtain ⟨qa1, qc1, qa2, qc2, rfl, q1, q2⟩ := kDeviceO_open hr; exact ⟨by simp, kDeviceO_mk (⟨(rd (ls0_4_1.set it6_1.toNat (⟨(rd ls0_4_1 it6_1).ID, (rd ls0_4_1 it6_1).Size, y5, (rd ls0_4_1 it6_1).Late⟩ : Device)) it6_1).ID, (rd (ls0_4_1.set it6_1.toNat (⟨(rd ls0_4_1 it6_1).ID, (rd ls0_4_1 it6_1).Size, y5, (rd ls0_4_1 it6_1).Late⟩ : Device)) it6_1).Size, (rd (ls0_4_1.set it6_1.toNat (⟨(rd ls0_4_1 it6_1).ID, (rd ls0_4_1 it6_1).Size, y5, (rd ls0_4_1 it6_1).Late⟩ : Device)) it6_1).Free, ([] : List Seg)⟩ : Device) (q1.mono (fun _ _ ho => Or.inl ho) (fun _ _ ho => Or.inl ho)) Ow.nil⟩) trivial ⟨rfl, rfl, rfl⟩ rfl rfl e3 rfl rfl rfl rfl rfl ?_
     intro w12 x10 h31
     have sx10 := x10.size
     have h32 := h31.sub (l' := [(w1.heap.size, some w4.heap.size, some 84)]) (li' := [(w1.heap.size, some w10.heap.size, some 93)]) ⟨(.inl ⟨by omega, by omega, rfl⟩), trivial⟩ ⟨(.inl ⟨by omega, by omega, rfl⟩), trivial⟩
     refine RW.tell 0 (v' := .slice A2 ((ls0_4_1.set it6_1.toNat (⟨(rd ls0_4_1 it6_1).ID, (rd ls0_4_1 it6_1).Size, y5, (rd ls0_4_1 it6_1).Late⟩ : Device)).set it6_1.toNat (⟨(rd (ls0_4_1.set it6_1.toNat (⟨(rd ls0_4_1 it6_1).ID, (rd ls0_4_1 it6_1).Size, y5, (rd ls0_4_1 it6_1).Late⟩ : Device)) it6_1).ID, (rd (ls0_4_1.set it6_1.toNat (⟨(rd ls0_4_1 it6_1).ID, (rd ls0_4_1 it6_1).Size, y5, (rd ls0_4_1 it6_1).Late⟩ : Device)) it6_1).Size, (rd (ls0_4_1.set it6_1.toNat (⟨(rd ls0_4_1 it6_1).ID, (rd ls0_4_1 it6_1).Size, y5, (rd ls0_4_1 it6_1).Late⟩ : Device)) it6_1).Free, ([] : List Seg)⟩ : Device)).length c_2) (by simp only [List.length_set]) rfl ?_
     refine RW.tell 4 (v' := .slice A2 ((ls0_4_1.set it6_1.toNat (⟨(rd ls0_4_1 it6_1).ID, (rd ls0_4_1 it6_1).Size, y5, (rd ls0_4_1 it6_1).Late⟩ : Device)).set it6_1.toNat (⟨(rd (ls0_4_1.set it6_1.toNat (⟨(rd ls0_4_1 it6_1).ID, (rd ls0_4_1 it6_1).Size, y5, (rd ls0_4_1 it6_1).Late⟩ : Device)) it6_1).ID, (rd (ls0_4_1.set it6_1.toNat (⟨(rd ls0_4_1 it6_1).ID, (rd ls0_4_1 it6_1).Size, y5, (rd ls0_4_1 it6_1).Late⟩ : Device)) it6_1).Size, (rd (ls0_4_1.set it6_1.toNat (⟨(rd ls0_4_1 it6_1).ID, (rd ls0_4_1 it6_1).Size, y5, (rd ls0_4_1 it6_1).Late⟩ : Device)) it6_1).Free, ([] : List Seg)⟩ : Device)).length c_2) (by simp only [List.length_set]) rfl ?_
     refine RW.done ?_
     refine NW.norm_block (NW.next ?_)
     refine CW.lex [.W, .W] rfl ?_
     refine RW.pure tabOk 2 rfl ?_
     refine RW.done ?_
     have h33 := Ext.turn (Ext.turn (Ext.trans (Ext.trans (Ext.trans (Ext.trans (Ext.turnB (Ext.trans x0_1 x3) x4 (by omega)) x5) x6) x7) x8) x9 ⟨by omega, trivial⟩) x10 ⟨by omega, trivial⟩
     have h34 := ((h20.ext x8).turnL x9 (.inr ⟨⟨.inr (.inl (by omega)), trivial⟩, trivial⟩)).turnL x10 (.inr ⟨⟨.inr (.inl (by omega)), trivial⟩, trivial⟩)
     exact NW.J fun a ha => ⟨n1, Nat.lt_succ_self n1, ((ls0_4_1.set it6_1.toNat (⟨(rd ls0_4_1 it6_1).ID, (rd ls0_4_1 it6_1).Size, y5, (rd ls0_4_1 it6_1).Late⟩ : Device)).set it6_1.toNat (⟨(rd (ls0_4_1.set it6_1.toNat (⟨(rd ls0_4_1 it6_1).ID, (rd ls0_4_1 it6_1).Size, y5, (rd ls0_4_1 it6_1).Late⟩ : Device)) it6_1).ID, (rd (ls0_4_1.set it6_1.toNat (⟨(rd ls0_4_1 it6_1).ID, (rd ls0_4_1 it6_1).Size, y5, (rd ls0_4_1 it6_1).Late⟩ : Device)) it6_1).Size, (rd (ls0_4_1.set it6_1.toNat (⟨(rd ls0_4_1 it6_1).ID, (rd ls0_4_1 it6_1).Size, y5, (rd ls0_4_1 it6_1).Late⟩ : Device)) it6_1).Free, ([] : List Seg)⟩ : Device)), (w64 (it6_1 + 1)), ha.sub ⟨rfl, rfl, rfl, rfl, trivial⟩, by omega, (h32.sub ⟨(.inl ⟨by omega, trivial, rfl⟩), trivial⟩ ⟨(.inl ⟨by omega, trivial, rfl⟩), trivial⟩), h33, (by (try simp only [List.length_set]) <;> omega), h34, H⟩
    ·
     rw [if_neg c2] at H
     refine CW.cond_f rfl (decide_eq_false c2) ?_
     refine CW.exit ?_
     refine NW.exit_then (NW.exit_then (NW.exit_hit ?_))
     refine NW.end_ ?_
     exact NW.ret0 rfl ⟨ls0_4_1, rfl, by omega, (h9.sub ⟨(.inl ⟨by omega, trivial, rfl⟩), trivial⟩ ⟨(.inl ⟨by omega, trivial, rfl⟩), trivial⟩), x0_1, (by (try simp only [List.length_set]) <;> omega), g0_1, H⟩
  rintro _ w3 ⟨lt4_0, rfl, hle, ft4_0, x0_0, ln_lt4_0, g0_0, H⟩
  refine ⟨_, rfl, ?_⟩
  unfold room_Commit.j0 at H
  have h35 : Ow kDeviceO 84 w3.heap (okL [(w1.heap.size, some w3.heap.size, some 84)]) (okL [(w1.heap.size, some w3.heap.size, some 93)]) A2 c_2 lt4_0 := ft4_0.close
  refine RW.tell 4 (v' := .slice A2 lt4_0.length c_2) (show Value.slice A2 y2.length c_2 = Value.slice A2 lt4_0.length c_2 from congrArg (fun n => Value.slice A2 n c_2) (by (try simp only [List.length_set]) <;> omega)) rfl ?_
  refine RW.done ?_
  refine NW.next ?_
  refine CW.seq ?_
  refine CW.lex [.W, .W, .W] rfl ?_
  refine RW.pure tabOk 3 rfl ?_
  refine RW.done ?_
  refine NW.next ?_
  refine CW.ret ?_
  obtain rfl := Option.some.inj H
  exact NW.ret2 rfl (by rfl) (by rfl) ⟨A2, c_2, rfl, x0_0, (h35.sub (l' := [(w.heap.size, none, some 84)]) (li' := [(w.heap.size, none, some 93)]) ⟨(.inl ⟨by omega, trivial, rfl⟩), trivial⟩ ⟨(.inl ⟨by omega, trivial, rfl⟩), trivial⟩)⟩
 ·
  rw [if_neg c1] at H
  refine CW.cond_t rfl (not_t (bool_f c1)) ?_
  refine CW.seq ?_
  refine CW.lex [.W, .W] rfl ?_
  refine RW.pure tabOk 2 rfl ?_
  refine RW.done ?_
  refine NW.next ?_
  refine CW.ret ?_
  refine NW.ret_then ?_
  obtain rfl := Option.some.inj H
  have h36 := Ext.trans x0 x1
  exact NW.ret2 rfl (by rfl) (by rfl) ⟨none, 0, rfl, h36, Ow.nil⟩

set_option maxHeartbeats 4000000 in
set_option maxRecDepth 100000 in
theorem room_Count.calls (k : Nat) (A1 : Option Addr) (c_1 : Nat) (p0 : List Device) (p1 : Int) (r : Int × Int) (w : World) (hs1 : Sl kDeviceR w.heap okAll A1 p0) (hl1 : p0.length ≤ c_1) (H : room_Count.f k p0 p1 = some r) :
    Calls Tryd.prog 39 #[.slice A1 p0.length c_1, .int .i64 p1] w fun e w' => e = .returned (.tuple #[.int .i64 r.1, .int .i64 r.2]) ∧ Ext w w' := by
 have h1 : Sl kDeviceR w.heap (okL [(0, some w.heap.size, none)]) A1 p0 := hs1.old _ rfl
 have x0 : Ext w w := Upd.refl _ w
 unfold room_Count.f at H
 refine calls_start Tryd.func39 rfl 12 rfl [.slice A1 p0.length c_1, .int .i64 p1] rfl ?_
 refine CW.seq ?_
 refine CW.lex [.W, .W] rfl ?_
 refine RW.pure tabOk 2 rfl ?_
 refine RW.done ?_
 refine NW.next ?_
 refine CW.seq ?_
 refine CW.seq ?_
 refine CW.lex [.W, .X, .W] rfl ?_
 refine RW.pure tabOk 1 rfl ?_
 obtain ⟨y1, h2, H⟩ := bind_some H
 refine RW.callF (.inl rfl) ent66 ⟨rfl, rfl, rfl, rfl⟩ rfl rfl (room_May.calls k A1 c_1 p0 _ _ h1.all hl1 h2) ?_
 rintro _ w1 ⟨rfl, x1⟩
 refine ⟨_, rfl, x1, ?_⟩
 have sx1 := x1.size
 refine RW.pure tabOk 1 rfl ?_
 refine RW.done ?_
 refine NW.next ?_
 by_cases c1 : y1 = true
 ·
  rw [if_pos c1] at H
  refine CW.cond_f rfl (not_f (c1)) ?_
  refine CW.skip ?_
  refine NW.next ?_
  refine CW.seq ?_
  refine CW.lex [.W, .W, .X, .W, .W] rfl ?_
  refine RW.pure tabOk 2 rfl ?_
  have h3 := h1.ext x1
  obtain ⟨y2, h4, H⟩ := bind_some H
  refine RW.callF (.inl rfl) ent69 ⟨rfl, rfl, rfl, rfl⟩ rfl rfl (room_Free.calls k A1 c_1 p0 p1 _ _ h3.all hl1 h4) ?_
  rintro _ w2 ⟨rfl, x2⟩
  refine ⟨_, rfl, x2, ?_⟩
  have sx2 := x2.size
  refine RW.pure tabOk 2 rfl ?_
  refine RW.done ?_
  refine NW.next ?_
  refine CW.ret ?_
  obtain rfl := Option.some.inj H
  have h5 := Ext.trans (Ext.trans x0 x1) x2
  exact NW.ret2 rfl (by rfl) (by rfl) ⟨rfl, h5⟩
 ·
  rw [if_neg c1] at H
  refine CW.cond_t rfl (not_t (bool_f c1)) ?_
  refine CW.seq ?_
  refine CW.lex [.W, .W] rfl ?_
  refine RW.pure tabOk 2 rfl ?_
  refine RW.done ?_
  refine NW.next ?_
  refine CW.ret ?_
  refine NW.ret_then ?_
  obtain rfl := Option.some.inj H
  have h6 := Ext.trans x0 x1
  exact NW.ret2 rfl (by rfl) (by rfl) ⟨rfl, h6⟩

set_option maxHeartbeats 4000000 in
set_option maxRecDepth 100000 in
theorem seg_Set_Has.calls (p0 : Int) (p1 : Int) (r : Bool) (w : World) (H : seg_Set_Has.f p0 p1 = some r) :
    Calls Tryd.prog 64 #[.int .u64 p0, .int .i64 p1] w fun e w' => e = .returned (.bool r) ∧ Ext w w' := by
 have x0 : Ext w w := Upd.refl _ w
 unfold seg_Set_Has.f at H
 refine calls_start Tryd.func64 rfl 18 rfl [.int .u64 p0, .int .i64 p1] rfl ?_
 refine CW.seq ?_
 refine CW.lex [.W] rfl ?_
 refine RW.pure tabOk 1 rfl ?_
 refine RW.done ?_
 refine NW.next ?_
 refine CW.seq ?_
 refine CW.lex [.W, .W, .W, .W, .W, .W, .W, .W, .W, .X, .W, .W, .W, .W] rfl ?_
 refine RW.pure tabOk 3 rfl ?_
 by_cases c1 : 0 ≤ p1
 ·
  rw [if_pos c1] at H
  refine RW.bool 7 (b' := true) (decide_eq_true c1) rfl ?_
  refine RW.pure tabOk 4 rfl ?_
  by_cases c2 : p1 < 64
  ·
   rw [if_pos c2] at H
   refine RW.bool 11 (b' := true) (decide_eq_true c2) rfl ?_
   refine RW.pure tabOk 2 rfl ?_
   obtain ⟨y1, h1, H⟩ := bind_some H
   refine RW.callF (.inl rfl) ent63 ⟨rfl, rfl, rfl, rfl⟩ rfl rfl (seg_One.calls p1 _ _ h1) ?_
   rintro _ w1 ⟨rfl, x1⟩
   refine ⟨_, rfl, x1, ?_⟩
   have sx1 := x1.size
   refine RW.pure tabOk 4 rfl ?_
   refine RW.done ?_
   refine NW.next ?_
   refine CW.ret ?_
   obtain rfl := Option.some.inj H
   have h2 := Ext.trans x0 x1
   exact NW.ret1 rfl (by rfl) ⟨rfl, h2⟩
  ·
   rw [if_neg c2] at H
   refine RW.bool 11 (b' := false) (decide_eq_false c2) rfl ?_
   refine RW.pure tabOk 7 rfl ?_
   refine RW.done ?_
   refine NW.next ?_
   refine CW.ret ?_
   obtain rfl := Option.some.inj H
   exact NW.ret1 rfl (by rfl) ⟨rfl, x0⟩
 ·
  rw [if_neg c1] at H
  refine RW.bool 7 (b' := false) (decide_eq_false c1) rfl ?_
  refine RW.pure tabOk 11 rfl ?_
  refine RW.done ?_
  refine NW.next ?_
  refine CW.ret ?_
  obtain rfl := Option.some.inj H
  exact NW.ret1 rfl (by rfl) ⟨rfl, x0⟩

set_option maxHeartbeats 4000000 in
set_option maxRecDepth 100000 in
theorem room_Find_1.calls (p0 : Device) (A1 : Option Addr) (c_1 : Nat) (A2 : Option Addr) (c_2 : Nat) (p1 : Int) (r : Int) (w : World) (hs1 : Sl kSeg w.heap okAll A1 p0.Free) (hl1 : p0.Free.length ≤ c_1) (hs2 : Sl kSeg w.heap okAll A2 p0.Late) (hl2 : p0.Late.length ≤ c_2) (H : room_Find_1.f p0 p1 = some r) :
    Calls Tryd.prog 104 #[.agg #[.int .i64 p0.ID, .int .i64 p0.Size, .slice A1 p0.Free.length c_1, .slice A2 p0.Late.length c_2], .int .i64 p1] w fun e w' => e = .returned (.int .i64 r) ∧ Ext w w' := by
 have h1 : Sl kSeg w.heap (okL [(0, some w.heap.size, none)]) A1 p0.Free := hs1.old _ rfl
 have h2 : Sl kSeg w.heap (okL [(0, some w.heap.size, none)]) A2 p0.Late := hs2.old _ rfl
 have x0 : Ext w w := Upd.refl _ w
 unfold room_Find_1.f at H
 refine calls_start Tryd.func104 rfl 9 rfl [.agg #[.int .i64 p0.ID, .int .i64 p0.Size, .slice A1 p0.Free.length c_1, .slice A2 p0.Late.length c_2], .int .i64 p1] rfl ?_
 refine CW.seq ?_
 refine CW.lex [.X, .W] rfl ?_
 refine RW.box (cs := [.int .i64 p0.ID, .int .i64 p0.Size, .slice A1 p0.Free.length c_1, .slice A2 p0.Late.length c_2]) (.inl rfl) ⟨rfl, rfl, rfl, rfl⟩ rfl rfl rfl ?_
 intro b1 w1 x1 l1 h3
 have sx1 := x1.size
 have ltb1 := h3.lt
 refine RW.pure tabOk 1 rfl ?_
 refine RW.done ?_
 refine NW.next ?_
 refine CW.seq ?_
 refine CW.lex [.W, .L, .W, .W, .W] rfl ?_
 refine RW.pure tabOk 1 rfl ?_
 refine RW.load tabOk [.int .i64 p0.ID] ((h3.at 0).take 1 rfl) ⟨rfl, rfl, rfl, rfl⟩ rfl rfl rfl rfl ?_
 refine RW.pure tabOk 3 rfl ?_
 refine RW.done ?_
 refine NW.next ?_
 refine CW.ret ?_
 obtain rfl := Option.some.inj H
 have h4 := Ext.trans x0 x1
 exact NW.ret1 rfl (by rfl) ⟨rfl, h4⟩

set_option maxHeartbeats 4000000 in
set_option maxRecDepth 100000 in
theorem room_Find.calls (k : Nat) (A1 : Option Addr) (c_1 : Nat) (p0 : List Device) (p1 : Int) (r : Int × Bool) (w : World) (hs1 : Sl kDeviceR w.heap okAll A1 p0) (hl1 : p0.length ≤ c_1) (H : room_Find.f k p0 p1 = some r) :
    Calls Tryd.prog 86 #[.slice A1 p0.length c_1, .int .i64 p1] w fun e w' => e = .returned (.tuple #[.int .i64 r.1, .bool r.2]) ∧ Ext w w' := by
 have h1 : Sl kDeviceR w.heap (okL [(0, some w.heap.size, none)]) A1 p0 := hs1.old _ rfl
 have x0 : Ext w w := Upd.refl _ w
 unfold room_Find.f at H
 refine calls_start Tryd.func86 rfl 11 rfl [.slice A1 p0.length c_1, .int .i64 p1] rfl ?_
 refine CW.seq ?_
 refine CW.lex [.W, .W] rfl ?_
 refine RW.pure tabOk 2 rfl ?_
 refine RW.done ?_
 refine NW.next ?_
 refine CW.seq ?_
 refine CW.lex [.W, .W, .X, .W, .W, .W, .W] rfl ?_
 refine RW.pure tabOk 2 rfl ?_
 have xc1 : Ext w w := Upd.refl _ _
 refine RW.callV (R := fun e w1 => ∃ (it8_0_0 : Int) (bt8_1_0 : Bool), e = .returned (.tuple #[.int .i64 it8_0_0, .bool bt8_1_0]) ∧ w.heap.size ≤ w1.heap.size ∧ Ext w w1 ∧ Ext w w1 ∧ room_Find.j0 it8_0_0 bt8_1_0 = some r) (.inl rfl) ent103 ⟨rfl, rfl, rfl, rfl⟩ rfl rfl rfl ?_ ?_
 ·
  refine calls_start Tryd.func103 rfl 49 rfl [.slice A1 p0.length c_1, .int .i64 p1, .func (.func 104) #[] #[]] rfl ?_
  refine CW.seq ?_
  refine CW.lex [.W, .W] rfl ?_
  refine RW.pure tabOk 2 rfl ?_
  refine RW.done ?_
  refine NW.next ?_
  refine CW.seq ?_
  refine CW.lex [.W, .W, .W] rfl ?_
  refine RW.pure tabOk 3 rfl ?_
  refine RW.done ?_
  refine NW.next ?_
  refine CW.seq ?_
  refine CW.lex [.W, .W, .W] rfl ?_
  refine RW.pure tabOk 3 rfl ?_
  refine RW.done ?_
  refine NW.next ?_
  refine CW.seq ?_
  refine CW.block ?_
  refine CW.loop (fun n1 a w2 => ∃ (it9_1 : Int) (it10_1 : Int), Sat 49 [(0, .slice A1 p0.length c_1), (1, .int .i64 p1), (2, .func (.func 104) #[] #[]), (8, .int .i64 (p0.length : Int)), (9, .int .i64 it9_1), (10, .int .i64 it10_1)] a ∧ w.heap.size ≤ w2.heap.size ∧ Sl kDeviceR w2.heap (okL [(0, some w.heap.size, none)]) A1 p0 ∧ Ext w w2 ∧ Ext w w2 ∧ room_Find.l0 p0 p1 n1 it9_1 it10_1 = some r) k ?_ ?_
  · exact fun a ha => ⟨0, (p0.length : Int), ha.sub ⟨rfl, rfl, rfl, rfl, rfl, rfl, trivial⟩, by omega, h1, x0, xc1, H⟩
  intro n1 a w2 hI hp
  obtain ⟨it9_1, it10_1, hS, hle, gF1_1, x0_1, x_xc1_1, H⟩ := hI
  cases n1 with
  | zero => cases H
  | succ n1 =>
   rw [room_Find.l0] at H
   refine CW.go hp hS ?_
   refine CW.seq ?_
   refine CW.seq ?_
   refine CW.lex [.W, .W, .W] rfl ?_
   refine RW.pure tabOk 3 rfl ?_
   refine RW.done ?_
   refine NW.next ?_
   by_cases c1 : it9_1 < it10_1
   ·
    rw [if_pos c1] at H
    refine CW.cond_t rfl (decide_eq_true c1) ?_
    refine CW.skip ?_
    refine NW.next ?_
    refine CW.block ?_
    refine CW.seq ?_
    refine CW.lex [.W, .W, .W, .W, .W, .W, .W] rfl ?_
    refine RW.pure tabOk 4 rfl ?_
    refine RW.shift (by omega) ⟨rfl, rfl, rfl, rfl⟩ rfl rfl rfl rfl ?_
    refine RW.pure tabOk 2 rfl ?_
    refine RW.done ?_
    refine NW.next ?_
    refine CW.seq ?_
    refine CW.lex [.W, .W, .W, .W, .L, .W, .M, .W] rfl ?_
    refine RW.pure tabOk 3 rfl ?_
    obtain ⟨g1, H⟩ := guard_some H
    obtain ⟨ad1, A2, c_2, A3, c_3, e1, a1, l1, h2, l2, h3⟩ := kDeviceR_at gF1_1 g1.1 g1.2
    refine RW.index tabOk g1.1 g1.2 e1 ⟨rfl, rfl, rfl, rfl⟩ rfl rfl rfl rfl rfl rfl ?_
    refine RW.load tabOk [.int .i64 ((rd p0 (w64 ((wu64 (w64 (it9_1 + it10_1))).fdiv (2 ^ min (1 : Int).toNat 64)))).ID), .int .i64 ((rd p0 (w64 ((wu64 (w64 (it9_1 + it10_1))).fdiv (2 ^ min (1 : Int).toNat 64)))).Size), .slice A2 ((rd p0 (w64 ((wu64 (w64 (it9_1 + it10_1))).fdiv (2 ^ min (1 : Int).toNat 64)))).Free).length c_2, .slice A3 ((rd p0 (w64 ((wu64 (w64 (it9_1 + it10_1))).fdiv (2 ^ min (1 : Int).toNat 64)))).Late).length c_3] a1 ⟨rfl, rfl, rfl, rfl⟩ rfl rfl rfl rfl ?_
    refine RW.pure tabOk 1 rfl ?_
    obtain ⟨y1, h4, H⟩ := bind_some H
    refine RW.callV (cap := []) (.inr rfl) ent104 ⟨rfl, rfl, rfl, rfl⟩ rfl rfl rfl (room_Find_1.calls (rd p0 (w64 ((wu64 (w64 (it9_1 + it10_1))).fdiv (2 ^ min (1 : Int).toNat 64)))) A2 c_2 A3 c_3 p1 _ _ h2.all l1 h3.all l2 h4) ?_
    rintro _ w3 ⟨rfl, x1⟩
    refine ⟨_, rfl, x1, ?_⟩
    have sx1 := x1.size
    refine RW.pure tabOk 1 rfl ?_
    refine RW.done ?_
    refine NW.next ?_
    by_cases c2 : y1 < 0
    ·
     rw [if_pos c2] at H
     refine CW.cond_t rfl (decide_eq_true c2) ?_
     refine CW.lex [.W, .W, .W] rfl ?_
     refine RW.pure tabOk 3 rfl ?_
     refine RW.done ?_
     refine NW.norm_block ?_
     have h5 := gF1_1.ext x1
     have h6 := Ext.trans x0_1 x1
     have h7 := Ext.trans x_xc1_1 x1
     exact NW.J fun a ha => ⟨n1, Nat.lt_succ_self n1, (w64 ((w64 ((wu64 (w64 (it9_1 + it10_1))).fdiv (2 ^ min (1 : Int).toNat 64))) + 1)), it10_1, ha.sub ⟨rfl, rfl, rfl, rfl, rfl, rfl, trivial⟩, by omega, h5, h6, h7, H⟩
    ·
     rw [if_neg c2] at H
     refine CW.cond_f rfl (decide_eq_false c2) ?_
     refine CW.lex [.W, .W] rfl ?_
     refine RW.pure tabOk 2 rfl ?_
     refine RW.done ?_
     refine NW.norm_block ?_
     have h8 := gF1_1.ext x1
     have h9 := Ext.trans x0_1 x1
     have h10 := Ext.trans x_xc1_1 x1
     exact NW.J fun a ha => ⟨n1, Nat.lt_succ_self n1, it9_1, (w64 ((wu64 (w64 (it9_1 + it10_1))).fdiv (2 ^ min (1 : Int).toNat 64))), ha.sub ⟨rfl, rfl, rfl, rfl, rfl, rfl, trivial⟩, by omega, h8, h9, h10, H⟩
   ·
    rw [if_neg c1] at H
    refine CW.cond_f rfl (decide_eq_false c1) ?_
    refine CW.exit ?_
    refine NW.exit_then (NW.exit_then (NW.exit_hit ?_))
    refine NW.next ?_
    refine CW.seq ?_
    refine CW.lex [.W, .W, .W, .W, .W, .W, .W, .W, .W, .L, .W, .M, .W, .W, .W, .W] rfl ?_
    refine RW.pure tabOk 5 rfl ?_
    by_cases c3 : it9_1 < (p0.length : Int)
    ·
     rw [if_pos c3] at H
     refine RW.bool 39 (b' := true) (decide_eq_true c3) rfl ?_
     refine RW.pure tabOk 3 rfl ?_
     obtain ⟨g2, H⟩ := guard_some H
     obtain ⟨ad2, A4, c_4, A5, c_5, e2, a2, l3, h11, l4, h12⟩ := kDeviceR_at gF1_1 g2.1 g2.2
     refine RW.index tabOk g2.1 g2.2 e2 ⟨rfl, rfl, rfl, rfl⟩ rfl rfl rfl rfl rfl rfl ?_
     refine RW.load tabOk [.int .i64 ((rd p0 it9_1).ID), .int .i64 ((rd p0 it9_1).Size), .slice A4 ((rd p0 it9_1).Free).length c_4, .slice A5 ((rd p0 it9_1).Late).length c_5] a2 ⟨rfl, rfl, rfl, rfl⟩ rfl rfl rfl rfl ?_
     refine RW.pure tabOk 1 rfl ?_
     obtain ⟨y2, h13, H⟩ := bind_some H
     refine RW.callV (cap := []) (.inr rfl) ent104 ⟨rfl, rfl, rfl, rfl⟩ rfl rfl rfl (room_Find_1.calls (rd p0 it9_1) A4 c_4 A5 c_5 p1 _ _ h11.all l3 h12.all l4 h13) ?_
     rintro _ w4 ⟨rfl, x2⟩
     refine ⟨_, rfl, x2, ?_⟩
     have sx2 := x2.size
     refine RW.pure tabOk 4 rfl ?_
     refine RW.done ?_
     refine NW.next ?_
     refine CW.ret ?_
     have h14 := Ext.trans x0_1 x2
     have h15 := Ext.trans x_xc1_1 x2
     exact NW.ret2 rfl (by rfl) (by rfl) ⟨it9_1, (y2 == 0), rfl, by omega, h14, h15, H⟩
    ·
     rw [if_neg c3] at H
     refine RW.bool 39 (b' := false) (decide_eq_false c3) rfl ?_
     refine RW.pure tabOk 11 rfl ?_
     refine RW.done ?_
     refine NW.next ?_
     refine CW.ret ?_
     exact NW.ret2 rfl (by rfl) (by rfl) ⟨it9_1, false, rfl, by omega, x0_1, x_xc1_1, H⟩
 rintro _ w1 ⟨it8_0_0, bt8_1_0, rfl, hle, x0_0, x_xc1_0, H⟩
 refine ⟨_, rfl, x_xc1_0, ?_⟩
 unfold room_Find.j0 at H
 refine RW.pure tabOk 4 rfl ?_
 refine RW.done ?_
 refine NW.next ?_
 refine CW.ret ?_
 obtain rfl := Option.some.inj H
 exact NW.ret2 rfl (by rfl) (by rfl) ⟨rfl, x0_0⟩

set_option maxHeartbeats 4000000 in
set_option maxRecDepth 100000 in
theorem room_Busy.calls (k : Nat) (p0 : Device) (A1 : Option Addr) (c_1 : Nat) (A2 : Option Addr) (c_2 : Nat) (r : Int) (w : World) (hs1 : Sl kSeg w.heap okAll A1 p0.Free) (hl1 : p0.Free.length ≤ c_1) (hs2 : Sl kSeg w.heap okAll A2 p0.Late) (hl2 : p0.Late.length ≤ c_2) (H : room_Busy.f k p0 = some r) :
    Calls Tryd.prog 87 #[.agg #[.int .i64 p0.ID, .int .i64 p0.Size, .slice A1 p0.Free.length c_1, .slice A2 p0.Late.length c_2]] w fun e w' => e = .returned (.int .u64 r) ∧ Ext w w' := by
 have h1 : Sl kSeg w.heap (okL [(0, some w.heap.size, none)]) A1 p0.Free := hs1.old _ rfl
 have h2 : Sl kSeg w.heap (okL [(0, some w.heap.size, none)]) A2 p0.Late := hs2.old _ rfl
 have x0 : Ext w w := Upd.refl _ w
 unfold room_Busy.f at H
 refine calls_start Tryd.func87 rfl 14 rfl [.agg #[.int .i64 p0.ID, .int .i64 p0.Size, .slice A1 p0.Free.length c_1, .slice A2 p0.Late.length c_2]] rfl ?_
 refine CW.seq ?_
 refine CW.lex [.X, .W] rfl ?_
 refine RW.box (cs := [.int .i64 p0.ID, .int .i64 p0.Size, .slice A1 p0.Free.length c_1, .slice A2 p0.Late.length c_2]) (.inl rfl) ⟨rfl, rfl, rfl, rfl⟩ rfl rfl rfl ?_
 intro b1 w1 x1 l1 h3
 have sx1 := x1.size
 have ltb1 := h3.lt
 refine RW.pure tabOk 1 rfl ?_
 refine RW.done ?_
 refine NW.next ?_
 refine CW.seq ?_
 refine CW.ord [0, 1, 3, 0, 8, 31, 0, 64, 255, 511, 1023, 2047] (ofL [(0, .W), (3, .W), (6, .W), (1, .L), (4, .L), (7, .L), (2, .X), (5, .X), (8, .X), (9, .W), (10, .W), (11, .W)] .nil) mixed (by kernel_rfl) ?_
 intro w2 x2
 have sx2 := x2.size
 refine RW.pure tabOk 3 rfl ?_
 have h4 := h3.ext x2
 refine RW.load tabOk [.int .i64 p0.Size] ((h4.at 1).take 1 rfl) ⟨rfl, rfl, rfl, rfl⟩ rfl rfl rfl rfl ?_
 refine RW.load tabOk [.slice A1 p0.Free.length c_1] ((h4.at 2).take 1 rfl) ⟨rfl, rfl, rfl, rfl⟩ rfl rfl rfl rfl ?_
 refine RW.load tabOk [.slice A2 p0.Late.length c_2] (h4.at 3) ⟨rfl, rfl, rfl, rfl⟩ rfl rfl rfl rfl ?_
 obtain ⟨y1, h5, H⟩ := bind_some H
 refine RW.callF (.inl rfl) ent58 ⟨rfl, rfl, rfl, rfl⟩ rfl rfl (seg_To.calls p0.Size _ _ h5) ?_
 rintro _ w3 ⟨rfl, x3⟩
 refine ⟨_, rfl, x3, ?_⟩
 have sx3 := x3.size
 have h6 := ((h1.ext x1).ext x2).ext x3
 obtain ⟨y2, h7, H⟩ := bind_some H
 refine RW.callF (.inl rfl) ent52 ⟨rfl, rfl, rfl, rfl⟩ rfl rfl (seg_Make.calls k A1 c_1 p0.Free _ _ h6.all hl1 h7) ?_
 rintro _ w4 ⟨rfl, x4⟩
 refine ⟨_, rfl, x4, ?_⟩
 have sx4 := x4.size
 have h8 := (((h2.ext x1).ext x2).ext x3).ext x4
 obtain ⟨y3, h9, H⟩ := bind_some H
 refine RW.callF (.inl rfl) ent52 ⟨rfl, rfl, rfl, rfl⟩ rfl rfl (seg_Make.calls k A2 c_2 p0.Late _ _ h8.all hl2 h9) ?_
 rintro _ w5 ⟨rfl, x5⟩
 refine ⟨_, rfl, x5, ?_⟩
 have sx5 := x5.size
 refine RW.pure tabOk 3 rfl ?_
 refine RW.done ?_
 refine NW.next ?_
 refine CW.ret ?_
 obtain rfl := Option.some.inj H
 have h10 := Ext.trans (Ext.trans (Ext.trans (Ext.trans (Ext.trans x0 x1) x2) x3) x4) x5
 exact NW.ret1 rfl (by rfl) ⟨rfl, h10⟩

set_option maxHeartbeats 4000000 in
set_option maxRecDepth 100000 in
theorem room_Give.calls (k : Nat) (A1 : Option Addr) (c_1 : Nat) (p0 : List Device) (A2 : Option Addr) (c_2 : Nat) (p1 : List Ptr) (r : (List Device) × Int) (w : World) (hs1 : Sl kDeviceR w.heap okAll A1 p0) (hl1 : p0.length ≤ c_1) (hs2 : Sl kPtr w.heap okAll A2 p1) (hl2 : p1.length ≤ c_2) {gT : Nat} (hG : Box w.heap 0 gT (arrI .u8 64 tz)) (H : room_Give.f k p0 p1 = some r) :
    Calls Tryd.prog 41 #[.slice A1 p0.length c_1, .slice A2 p1.length c_2] w fun e w' => ∃ (B1 : Option Addr) (d1 : Nat), e = .returned (.tuple #[.slice B1 r.1.length d1, .int .i64 r.2]) ∧ Ext w w' ∧ Ow kDeviceO 84 w'.heap (okL [(w.heap.size, none, some 84)]) (okL [(w.heap.size, none, some 93)]) B1 d1 r.1 := by
 have h1 : Sl kDeviceR w.heap (okL [(0, some w.heap.size, none)]) A1 p0 := hs1.old _ rfl
 have h2 : Sl kPtr w.heap (okL [(0, some w.heap.size, none)]) A2 p1 := hs2.old _ rfl
 have hG0 : 0 < w.heap.size := hG.lt
 have x0 : Ext w w := Upd.refl _ w
 unfold room_Give.f at H
 refine calls_start Tryd.func41 rfl 29 rfl [.slice A1 p0.length c_1, .slice A2 p1.length c_2] rfl ?_
 refine CW.seq ?_
 refine CW.lex [.W, .W] rfl ?_
 refine RW.pure tabOk 2 rfl ?_
 refine RW.done ?_
 refine NW.next ?_
 refine CW.seq ?_
 refine CW.seq ?_
 refine CW.lex [.W, .X, .W] rfl ?_
 refine RW.pure tabOk 1 rfl ?_
 obtain ⟨y1, h3, H⟩ := bind_some H
 refine RW.callF (.inl rfl) ent66 ⟨rfl, rfl, rfl, rfl⟩ rfl rfl (room_May.calls k A1 c_1 p0 _ _ h1.all hl1 h3) ?_
 rintro _ w1 ⟨rfl, x1⟩
 refine ⟨_, rfl, x1, ?_⟩
 have sx1 := x1.size
 refine RW.pure tabOk 1 rfl ?_
 refine RW.done ?_
 refine NW.next ?_
 by_cases c1 : y1 = true
 ·
  rw [if_pos c1] at H
  refine CW.cond_f rfl (not_f (c1)) ?_
  refine CW.skip ?_
  refine NW.next ?_
  refine CW.seq ?_
  refine CW.lex [.W, .X, .W] rfl ?_
  refine RW.pure tabOk 1 rfl ?_
  have h4 := h1.ext x1
  obtain ⟨y2, h5, H⟩ := bind_some H
  refine RW.callF (.inl rfl) ent67 ⟨rfl, rfl, rfl, rfl⟩ rfl rfl (room_Own.calls k A1 c_1 p0 _ _ h4.all hl1 h5) ?_
  rintro _ w2 ⟨A3, c_3, rfl, x2, h6⟩
  refine ⟨_, rfl, x2, ?_⟩
  have sx2 := x2.size
  have h7 : Ow kDeviceO 84 w2.heap (okL [(w1.heap.size, some w2.heap.size, some 84)]) (okL [(w1.heap.size, some w2.heap.size, some 93)]) A3 c_3 y2 := h6.close
  refine RW.pure tabOk 1 rfl ?_
  refine RW.done ?_
  refine NW.next ?_
  refine CW.seq ?_
  refine CW.seq ?_
  refine CW.lex [.W, .W, .W] rfl ?_
  refine RW.pure tabOk 3 rfl ?_
  refine RW.done ?_
  refine NW.next ?_
  refine CW.block ?_
  refine CW.loop (fun n1 a w3 => ∃ (lt6_0 : List Device) (it17_0 : Int), Sat 29 [(6, .slice A3 lt6_0.length c_3), (15, .slice A2 p1.length c_2), (16, .int .i64 (p1.length : Int)), (17, .int .i64 it17_0)] a ∧ w2.heap.size ≤ w3.heap.size ∧ Ow kDeviceO 84 w3.heap (okL [(w1.heap.size, none, some 84)]) (okL [(w1.heap.size, none, some 93)]) A3 c_3 lt6_0 ∧ Sl kPtr w3.heap (okL [(0, some w.heap.size, none)]) A2 p1 ∧ Ext w w3 ∧ lt6_0.length = y2.length ∧ Box w3.heap 0 gT (arrI .u8 64 tz) ∧ room_Give.l0 p1 k n1 lt6_0 it17_0 = some r) k ?_ ?_
  have h8 := (h2.ext x1).ext x2
  have h9 := Ext.trans (Ext.trans x0 x1) x2
  have h10 := (hG.ext x1).ext x2
  · exact fun a ha => ⟨y2, 0, ha.sub ⟨rfl, rfl, rfl, rfl, trivial⟩, by omega, (h7.sub ⟨(.inl ⟨by omega, trivial, rfl⟩), trivial⟩ ⟨(.inl ⟨by omega, trivial, rfl⟩), trivial⟩), h8, h9, (by (try simp only [List.length_set]) <;> omega), h10, H⟩
  intro n1 a w3 hI hp
  obtain ⟨lt6_0, it17_0, hS, hle, ft6_0, gF2_0, x0_0, ln_lt6_0, g0_0, H⟩ := hI
  cases n1 with
  | zero => cases H
  | succ n1 =>
   rw [room_Give.l0] at H
   refine CW.go hp hS ?_
   have h11 : Ow kDeviceO 84 w3.heap (okL [(w1.heap.size, some w3.heap.size, some 84)]) (okL [(w1.heap.size, some w3.heap.size, some 93)]) A3 c_3 lt6_0 := ft6_0.close
   refine CW.seq ?_
   refine CW.lex [.W] rfl ?_
   refine RW.pure tabOk 1 rfl ?_
   refine RW.done ?_
   refine NW.next ?_
   refine CW.seq ?_
   by_cases c2 : it17_0 < (p1.length : Int)
   ·
    rw [if_pos c2] at H
    refine CW.cond_t rfl (decide_eq_true c2) ?_
    refine CW.skip ?_
    refine NW.next ?_
    refine CW.seq ?_
    refine CW.block ?_
    refine CW.seq ?_
    refine CW.lex [.W, .L, .X, .M] rfl ?_
    obtain ⟨g1, H⟩ := guard_some H
    obtain ⟨ad1, e1, a1⟩ := kPtr_at gF2_0 g1.1 g1.2
    refine RW.index tabOk g1.1 g1.2 e1 ⟨rfl, rfl, rfl, rfl⟩ rfl rfl rfl rfl rfl rfl ?_
    refine RW.load tabOk [.int .i64 ((rd p1 it17_0).Dev), .int .i64 ((rd p1 it17_0).At)] a1 ⟨rfl, rfl, rfl, rfl⟩ rfl rfl rfl rfl ?_
    refine RW.alloc tabOk (.inl rfl) ⟨rfl, rfl, rfl, rfl⟩ rfl rfl ?_
    intro b1 w4 x3 l1 h12
    have sx3 := x3.size
    have ltb1 := h12.lt
    refine RW.storeBox tabOk h12 [.int .i64 ((rd p1 it17_0).Dev), .int .i64 ((rd p1 it17_0).At)] ⟨rfl, rfl, rfl⟩ rfl rfl rfl rfl rfl rfl rfl rfl ?_
    intro w5 x4 h13
    have h14 : Box w5.heap b1 70 [.int .i64 ((rd p1 it17_0).Dev), .int .i64 ((rd p1 it17_0).At)] := h13
    have sx4 := x4.size
    refine RW.done ?_
    refine NW.next ?_
    refine CW.seq ?_
    refine CW.lex [.W, .L, .M, .W] rfl ?_
    refine RW.pure tabOk 1 rfl ?_
    refine RW.load tabOk [.int .i64 ((rd p1 it17_0).Dev), .int .i64 ((rd p1 it17_0).At)] (h14.at 0) ⟨rfl, rfl, rfl, rfl⟩ rfl rfl rfl rfl ?_
    refine RW.callFM (R := fun e w6 => ∃ (lt6_1 : List Device) (it23_1 : Int), e = .returned (.int .i64 it23_1) ∧ w5.heap.size ≤ w6.heap.size ∧ Ow kDeviceO 84 w6.heap (okL [(w1.heap.size, some w3.heap.size, some 84)]) (okL [(w1.heap.size, none, some 93)]) A3 c_3 lt6_1 ∧ Sl kPtr w6.heap (okL [(0, some w.heap.size, none)]) A2 p1 ∧ Ext w w6 ∧ lt6_1.length = lt6_0.length ∧ Box w6.heap 0 gT (arrI .u8 64 tz) ∧ room_Give.j0 it17_0 (room_Give.l0 p1 k n1) lt6_1 it23_1 = some r) ent71 ⟨rfl, rfl, rfl, rfl⟩ rfl rfl rfl ?_ ?_
    ·
     refine calls_start Tryd.func71 rfl 56 rfl [.slice A3 lt6_0.length c_3, .agg #[.int .i64 ((rd p1 it17_0).Dev), .int .i64 ((rd p1 it17_0).At)]] rfl ?_
     refine CW.seq ?_
     refine CW.lex [.X, .W] rfl ?_
     refine RW.box (cs := [.int .i64 ((rd p1 it17_0).Dev), .int .i64 ((rd p1 it17_0).At)]) (.inl rfl) ⟨rfl, rfl, rfl, rfl⟩ rfl rfl rfl ?_
     intro b2 w7 x5 l2 h15
     have sx5 := x5.size
     have ltb2 := h15.lt
     refine RW.pure tabOk 1 rfl ?_
     refine RW.done ?_
     refine NW.next ?_
     refine CW.seq ?_
     refine CW.lex [.W, .W, .L, .X, .W, .W, .W, .W, .W] rfl ?_
     refine RW.pure tabOk 2 rfl ?_
     refine RW.load tabOk [.int .i64 ((rd p1 it17_0).Dev)] ((h15.at 0).take 1 rfl) ⟨rfl, rfl, rfl, rfl⟩ rfl rfl rfl rfl ?_
     have h16 := ((h11.ext x3).turnB x4 h12 ⟨.inl (show (84 : Nat) ≠ 70 by decide), trivial⟩ ⟨.inl (show (93 : Nat) ≠ 70 by decide), trivial⟩).ext x5
     obtain ⟨y3, h17, H⟩ := bind_some H
     refine RW.callF (.inl rfl) ent86 ⟨rfl, rfl, rfl, rfl⟩ rfl rfl (room_Find.calls k A3 c_3 lt6_0 ((rd p1 it17_0).Dev) _ _ (h16.all.to kDevice_ro rfl) h16.len h17) ?_
     rintro _ w8 ⟨rfl, x6⟩
     refine ⟨_, rfl, x6, ?_⟩
     have sx6 := x6.size
     refine RW.pure tabOk 5 rfl ?_
     refine RW.done ?_
     refine NW.next ?_
     refine CW.seq ?_
     refine CW.block ?_
     refine CW.seq ?_
     refine CW.lex [.W, .W, .W] rfl ?_
     refine RW.pure tabOk 3 rfl ?_
     refine RW.done ?_
     refine NW.next ?_
     by_cases c3 : y3.2 = true
     ·
      rw [if_pos c3] at H
      refine CW.cond_f rfl (not_f (c3)) ?_
      refine CW.seqJ (fun a w9 => ∃ (bt17_2 : Bool), Sat 56 [(0, .slice A3 lt6_0.length c_3), (3, .pointer (some ⟨b2, 0, none⟩)), (5, .int .i64 y3.1), (17, .bool bt17_2)] a ∧ w8.heap.size ≤ w9.heap.size ∧ Ow kDeviceO 84 w9.heap (okL [(w1.heap.size, some w3.heap.size, some 84)]) (okL [(w1.heap.size, some w3.heap.size, some 93)]) A3 c_3 lt6_0 ∧ Sl kPtr w9.heap (okL [(0, some w.heap.size, none)]) A2 p1 ∧ Ext w w9 ∧ Box w9.heap b2 70 [.int .i64 ((rd p1 it17_0).Dev), .int .i64 ((rd p1 it17_0).At)] ∧ Box w9.heap 0 gT (arrI .u8 64 tz) ∧ room_Give.j1 p1 k it17_0 lt6_0 y3 (room_Give.l0 p1 k n1) bt17_2 = some r) ?_ ?_
      ·
       refine CW.ord [0, 1, 3, 7, 15, 31, 15, 15, 207, 463, 975, 2047, 4095, 8191] (ofL [(0, .W), (1, .L), (2, .W), (3, .W), (4, .W), (6, .W), (7, .W), (8, .W), (9, .W), (5, .L), (10, .L), (11, .W), (12, .W), (13, .W)] .nil) mixed (by kernel_rfl) ?_
       intro w10 x7
       have sx7 := x7.size
       refine RW.pure tabOk 1 rfl ?_
       have h18 := (h15.ext x6).ext x7
       refine RW.load tabOk [.int .i64 ((rd p1 it17_0).At)] (h18.at 1) ⟨rfl, rfl, rfl, rfl⟩ rfl rfl rfl rfl ?_
       refine RW.pure tabOk 2 rfl ?_
       by_cases c4 : ((rd p1 it17_0).At) < 0
       ·
        rw [if_pos c4] at H
        refine RW.bool 21 (b' := true) (decide_eq_true c4) rfl ?_
        refine RW.pure tabOk 10 rfl ?_
        refine RW.done ?_
        have h19 := (h16.ext x6).ext x7
        have h20 := ((((gF2_0.ext x3).turnB x4 h12 ⟨.inr (by omega), trivial⟩).ext x5).ext x6).ext x7
        have h21 := Ext.trans (Ext.trans (Ext.trans (Ext.turnB (Ext.trans x0_0 x3) x4 (by omega)) x5) x6) x7
        have h22 := ((((g0_0.ext x3).turnB x4 (by omega)).ext x5).ext x6).ext x7
        exact NW.J fun a ha => ⟨true, ha.sub ⟨rfl, rfl, rfl, rfl, trivial⟩, by omega, h19, h20, h21, h18, h22, H⟩
       ·
        rw [if_neg c4] at H
        refine RW.bool 21 (b' := false) (decide_eq_false c4) rfl ?_
        refine RW.pure tabOk 3 rfl ?_
        obtain ⟨g2, H⟩ := guard_some H
        have h23 := (h16.ext x6).ext x7
        obtain ⟨ad2, A4, c_4, A5, c_5, e2, a2, h24, h25⟩ := kDeviceO_ato h23 g2.1 g2.2
        refine RW.index tabOk g2.1 g2.2 e2 ⟨rfl, rfl, rfl, rfl⟩ rfl rfl rfl rfl rfl rfl ?_
        refine RW.pure tabOk 1 rfl ?_
        refine RW.load tabOk [.int .i64 ((rd p1 it17_0).At)] (h18.at 1) ⟨rfl, rfl, rfl, rfl⟩ rfl rfl rfl rfl ?_
        refine RW.load tabOk [.int .i64 ((rd lt6_0 y3.1).Size)] ((a2.fld 1).take 1 rfl) ⟨rfl, rfl, rfl, rfl⟩ rfl rfl rfl rfl ?_
        refine RW.pure tabOk 3 rfl ?_
        refine RW.done ?_
        have h26 := ((((gF2_0.ext x3).turnB x4 h12 ⟨.inr (by omega), trivial⟩).ext x5).ext x6).ext x7
        have h27 := Ext.trans (Ext.trans (Ext.trans (Ext.turnB (Ext.trans x0_0 x3) x4 (by omega)) x5) x6) x7
        have h28 := ((((g0_0.ext x3).turnB x4 (by omega)).ext x5).ext x6).ext x7
        exact NW.J fun a ha => ⟨(decide (((rd lt6_0 y3.1).Size) ≤ ((rd p1 it17_0).At))), ha.sub ⟨rfl, rfl, rfl, rfl, trivial⟩, by omega, h23, h26, h27, h18, h28, H⟩
      intro a w9 hJ hp
      obtain ⟨bt17_2, hS, hle, gL0_t6_2, gF2_2, x0_2, gb2_2, g0_2, H⟩ := hJ
      unfold room_Give.j1 at H
      refine CW.go hp hS ?_
      by_cases c5 : bt17_2 = true
      ·
       rw [if_pos c5] at H
       refine CW.cond_t rfl (c5) ?_
       refine CW.seq ?_
       refine CW.lex [.W] rfl ?_
       refine RW.pure tabOk 1 rfl ?_
       refine RW.done ?_
       refine NW.next ?_
       refine CW.ret ?_
       refine NW.ret_block (NW.ret_then ?_)
       exact NW.ret1 rfl (by rfl) ⟨lt6_0, 1, rfl, by omega, (gL0_t6_2.sub ⟨(.inl ⟨by omega, by omega, rfl⟩), trivial⟩ ⟨(.inl ⟨by omega, trivial, rfl⟩), trivial⟩), gF2_2, x0_2, (by (try simp only [List.length_set]) <;> omega), g0_2, H⟩
      ·
       rw [if_neg c5] at H
       refine CW.cond_f rfl (bool_f c5) ?_
       refine CW.seq ?_
       refine CW.ord [0, 0, 3, 7, 15, 0, 32, 127, 255, 511] (ofL [(0, .W), (1, .W), (2, .W), (5, .W), (3, .L), (6, .L), (4, .X), (7, .X), (8, .W), (9, .W)] .nil) mixed (by kernel_rfl) ?_
       intro w11 x8
       have sx8 := x8.size
       refine RW.pure tabOk 2 rfl ?_
       obtain ⟨g3, H⟩ := guard_some H
       have h29 := gL0_t6_2.ext x8
       obtain ⟨ad3, A6, c_6, A7, c_7, e3, a3, h30, h31⟩ := kDeviceO_ato h29 g3.1 g3.2
       refine RW.index tabOk g3.1 g3.2 e3 ⟨rfl, rfl, rfl, rfl⟩ rfl rfl rfl rfl rfl rfl ?_
       refine RW.pure tabOk 1 rfl ?_
       refine RW.load tabOk [.int .i64 ((rd lt6_0 y3.1).ID), .int .i64 ((rd lt6_0 y3.1).Size), .slice A6 ((rd lt6_0 y3.1).Free).length c_6, .slice A7 ((rd lt6_0 y3.1).Late).length c_7] a3 ⟨rfl, rfl, rfl, rfl⟩ rfl rfl rfl rfl ?_
       have h32 := gb2_2.ext x8
       refine RW.load tabOk [.int .i64 ((rd p1 it17_0).At)] (h32.at 1) ⟨rfl, rfl, rfl, rfl⟩ rfl rfl rfl rfl ?_
       obtain ⟨y4, h33, H⟩ := bind_some H
       refine RW.callF (.inl rfl) ent87 ⟨rfl, rfl, rfl, rfl⟩ rfl rfl (room_Busy.calls k (rd lt6_0 y3.1) A6 c_6 A7 c_7 _ _ h30.all h30.len h31.all h31.len h33) ?_
       rintro _ w12 ⟨rfl, x9⟩
       refine ⟨_, rfl, x9, ?_⟩
       have sx9 := x9.size
       obtain ⟨y5, h34, H⟩ := bind_some H
       refine RW.callF (.inl rfl) ent64 ⟨rfl, rfl, rfl, rfl⟩ rfl rfl (seg_Set_Has.calls y4 ((rd p1 it17_0).At) _ _ h34) ?_
       rintro _ w13 ⟨rfl, x10⟩
       refine ⟨_, rfl, x10, ?_⟩
       have sx10 := x10.size
       refine RW.pure tabOk 2 rfl ?_
       refine RW.done ?_
       refine NW.next ?_
       by_cases c6 : y5 = true
       ·
        rw [if_pos c6] at H
        refine CW.cond_f rfl (not_f (c6)) ?_
        refine CW.skip ?_
        refine NW.norm_block (NW.next ?_)
        refine CW.seq ?_
        refine CW.ord [0, 0, 0, 0, 12, 28, 60, 124, 0, 256, 1020, 2044, 4092, 8191, 16383, 32767] (ofL [(0, .W), (1, .W), (2, .W), (3, .W), (4, .W), (5, .W), (8, .W), (6, .L), (9, .L), (7, .X), (10, .X), (11, .W), (12, .X), (13, .W), (14, .W), (15, .M)] .nil) mixed (by kernel_rfl) ?_
        intro w14 x11
        have sx11 := x11.size
        refine RW.pure tabOk 4 rfl ?_
        obtain ⟨g4, H⟩ := guard_some H
        have h35 := ((h29.ext x9).ext x10).ext x11
        obtain ⟨ad4, A8, c_8, A9, c_9, e4, a4, h36, h37⟩ := kDeviceO_ato h35 g4.1 g4.2
        refine RW.index tabOk g4.1 g4.2 e4 ⟨rfl, rfl, rfl, rfl⟩ rfl rfl rfl rfl rfl rfl ?_
        refine RW.pure tabOk 2 rfl ?_
        refine RW.load tabOk [.slice A9 ((rd lt6_0 y3.1).Late).length c_9] (a4.fld 3) ⟨rfl, rfl, rfl, rfl⟩ rfl rfl rfl rfl ?_
        have h38 := ((h32.ext x9).ext x10).ext x11
        refine RW.load tabOk [.int .i64 ((rd p1 it17_0).At)] (h38.at 1) ⟨rfl, rfl, rfl, rfl⟩ rfl rfl rfl rfl ?_
        obtain ⟨y6, h39, H⟩ := bind_some H
        refine RW.callF (.inl rfl) ent52 ⟨rfl, rfl, rfl, rfl⟩ rfl rfl (seg_Make.calls k A9 c_9 ((rd lt6_0 y3.1).Late) _ _ h37.all h37.len h39) ?_
        rintro _ w15 ⟨rfl, x12⟩
        refine ⟨_, rfl, x12, ?_⟩
        have sx12 := x12.size
        obtain ⟨y7, h40, H⟩ := bind_some H
        refine RW.callF (.inl rfl) ent63 ⟨rfl, rfl, rfl, rfl⟩ rfl rfl (seg_One.calls ((rd p1 it17_0).At) _ _ h40) ?_
        rintro _ w16 ⟨rfl, x13⟩
        refine ⟨_, rfl, x13, ?_⟩
        have sx13 := x13.size
        refine RW.pure tabOk 1 rfl ?_
        have h41 := (((((g0_2.ext x8).ext x9).ext x10).ext x11).ext x12).ext x13
        obtain ⟨y8, h42, H⟩ := bind_some H
        refine RW.callF (.inl rfl) ent53 ⟨rfl, rfl, rfl, rfl⟩ rfl rfl (seg_Set_Segs.calls k (uor y6 y7) _ _ h41 h42) ?_
        rintro _ w17 ⟨A10, c_10, rfl, x14, h43⟩
        refine ⟨_, rfl, x14, ?_⟩
        have sx14 := x14.size
        have h44 : Ow kSeg 93 w17.heap (okL [(w16.heap.size, some w17.heap.size, some 93)]) (okL []) A10 c_10 y8 := h43.close
        obtain ⟨g5, H⟩ := guard_some H
        have h45 := ((h35.ext x12).ext x13).ext x14
        obtain ⟨ad5, A11, c_11, A12, c_12, e5, a5, h46, h47⟩ := kDeviceO_ato h45 g5.1 g5.2
        refine RW.index tabOk g5.1 g5.2 e5 ⟨rfl, rfl, rfl, rfl⟩ rfl rfl rfl rfl rfl rfl ?_
        refine RW.pure tabOk 1 rfl ?_
        refine RW.storeElL (y := (⟨(rd lt6_0 y3.1).ID, (rd lt6_0 y3.1).Size, (rd lt6_0 y3.1).Free, y8⟩ : Device)) (lv := [(w16.heap.size, some w17.heap.size, some 93)]) (k := 3) tabOk h45 (j := y3.1.toNat) (by have := g5; omega) default [.slice A10 y8.length c_10] (fun cs ok' hr => by obtain ⟨qa1, qc1, qa2, qc2, rfl, q1, q2⟩ := kDeviceO_open hr; exact ⟨by simp, kDeviceO_mk (⟨(rd lt6_0 y3.1).ID, (rd lt6_0 y3.1).Size, (rd lt6_0 y3.1).Free, y8⟩ : Device) (q1.mono (fun _ _ ho => Or.inl ho) (fun _ _ ho => Or.inl ho)) (h44.mono (fun _ _ ho => Or.inr (okL_sub (l := [(w16.heap.size, some w17.heap.size, some 93)]) (l' := [(w16.heap.size, some w17.heap.size, some 93)]) ⟨(.inl ⟨by omega, by omega, rfl⟩), trivial⟩ ho)) (fun _ _ ho => Or.inr (okL_sub (l := []) (l' := [(w16.heap.size, some w17.heap.size, some 93)]) trivial ho)))⟩) ⟨⟨.inl (show (93 : Nat) ≠ 84 by decide), trivial⟩, trivial⟩ ⟨rfl, rfl, rfl⟩ rfl rfl e5 rfl rfl rfl rfl rfl ?_
        intro w18 x15 h48
        have sx15 := x15.size
        have h49 := h48.close.sub (l' := [(w1.heap.size, some w3.heap.size, some 84)]) (li' := [(w1.heap.size, some w17.heap.size, some 93)]) ⟨(.inl ⟨by omega, by omega, rfl⟩), trivial⟩ ⟨(.inl ⟨by omega, by omega, rfl⟩), ⟨(.inl ⟨by omega, by omega, rfl⟩), trivial⟩⟩
        refine RW.done ?_
        refine NW.next ?_
        refine CW.seq ?_
        refine CW.lex [.W] rfl ?_
        refine RW.pure tabOk 1 rfl ?_
        refine RW.done ?_
        refine NW.next ?_
        refine CW.ret ?_
        have h50 := (((((((gF2_2.ext x8).ext x9).ext x10).ext x11).ext x12).ext x13).ext x14).turnL x15 ⟨⟨.inr (.inl (by omega)), trivial⟩, trivial⟩
        have h51 := Ext.turn (Ext.trans (Ext.trans (Ext.trans (Ext.trans (Ext.trans (Ext.trans (Ext.trans x0_2 x8) x9) x10) x11) x12) x13) x14) x15 ⟨by omega, trivial⟩
        have h52 := (h41.ext x14).turnL x15 (.inr ⟨⟨.inr (.inl (by omega)), trivial⟩, trivial⟩)
        exact NW.ret1 rfl (by rfl) ⟨(lt6_0.set y3.1.toNat (⟨(rd lt6_0 y3.1).ID, (rd lt6_0 y3.1).Size, (rd lt6_0 y3.1).Free, y8⟩ : Device)), 0, rfl, by omega, (h49.sub ⟨(.inl ⟨by omega, by omega, rfl⟩), trivial⟩ ⟨(.inl ⟨by omega, trivial, rfl⟩), trivial⟩), h50, h51, (by (try simp only [List.length_set]) <;> omega), h52, H⟩
       ·
        rw [if_neg c6] at H
        refine CW.cond_t rfl (not_t (bool_f c6)) ?_
        refine CW.seq ?_
        refine CW.lex [.W] rfl ?_
        refine RW.pure tabOk 1 rfl ?_
        refine RW.done ?_
        refine NW.next ?_
        refine CW.ret ?_
        refine NW.ret_block (NW.ret_then ?_)
        have h53 := (h29.ext x9).ext x10
        have h54 := ((gF2_2.ext x8).ext x9).ext x10
        have h55 := Ext.trans (Ext.trans (Ext.trans x0_2 x8) x9) x10
        have h56 := ((g0_2.ext x8).ext x9).ext x10
        exact NW.ret1 rfl (by rfl) ⟨lt6_0, 4, rfl, by omega, (h53.sub ⟨(.inl ⟨by omega, by omega, rfl⟩), trivial⟩ ⟨(.inl ⟨by omega, trivial, rfl⟩), trivial⟩), h54, h55, (by (try simp only [List.length_set]) <;> omega), h56, H⟩
     ·
      rw [if_neg c3] at H
      refine CW.cond_t rfl (not_t (bool_f c3)) ?_
      refine CW.seq ?_
      refine CW.lex [.W] rfl ?_
      refine RW.pure tabOk 1 rfl ?_
      refine RW.done ?_
      refine NW.next ?_
      refine CW.ret ?_
      refine NW.ret_block (NW.ret_then ?_)
      have h57 := h16.ext x6
      have h58 := (((gF2_0.ext x3).turnB x4 h12 ⟨.inr (by omega), trivial⟩).ext x5).ext x6
      have h59 := Ext.trans (Ext.trans (Ext.turnB (Ext.trans x0_0 x3) x4 (by omega)) x5) x6
      have h60 := (((g0_0.ext x3).turnB x4 (by omega)).ext x5).ext x6
      exact NW.ret1 rfl (by rfl) ⟨lt6_0, 3, rfl, by omega, (h57.sub ⟨(.inl ⟨by omega, by omega, rfl⟩), trivial⟩ ⟨(.inl ⟨by omega, trivial, rfl⟩), trivial⟩), h58, h59, (by (try simp only [List.length_set]) <;> omega), h60, H⟩
    rintro _ w6 ⟨lt6_1, it23_1, rfl, hle, ft6_1, gF2_1, x0_1, ln_lt6_1, g0_1, H⟩
    refine ⟨_, rfl, ?_⟩
    unfold room_Give.j0 at H
    have h61 : Ow kDeviceO 84 w6.heap (okL [(w1.heap.size, some w3.heap.size, some 84)]) (okL [(w1.heap.size, some w6.heap.size, some 93)]) A3 c_3 lt6_1 := ft6_1.close
    refine RW.tell 6 (v' := .slice A3 lt6_1.length c_3) (show Value.slice A3 lt6_0.length c_3 = Value.slice A3 lt6_1.length c_3 from congrArg (fun n => Value.slice A3 n c_3) (by (try simp only [List.length_set]) <;> omega)) rfl ?_
    refine RW.pure tabOk 1 rfl ?_
    refine RW.done ?_
    refine NW.next ?_
    refine CW.seq ?_
    refine CW.lex [.W, .W] rfl ?_
    refine RW.pure tabOk 2 rfl ?_
    refine RW.done ?_
    refine NW.next ?_
    by_cases c7 : it23_1 = 0
    ·
     rw [if_pos c7] at H
     refine CW.cond_f rfl (bne_f c7) ?_
     refine CW.skip ?_
     refine NW.norm_block (NW.next ?_)
     refine CW.lex [.W, .W] rfl ?_
     refine RW.pure tabOk 2 rfl ?_
     refine RW.done ?_
     exact NW.J fun a ha => ⟨n1, Nat.lt_succ_self n1, lt6_1, (w64 (it17_0 + 1)), ha.sub ⟨rfl, rfl, rfl, rfl, trivial⟩, by omega, (h61.sub ⟨(.inl ⟨by omega, trivial, rfl⟩), trivial⟩ ⟨(.inl ⟨by omega, trivial, rfl⟩), trivial⟩), gF2_1, x0_1, (by (try simp only [List.length_set]) <;> omega), g0_1, H⟩
    ·
     rw [if_neg c7] at H
     refine CW.cond_t rfl (bne_t c7) ?_
     refine CW.seq ?_
     refine CW.lex [.W, .W, .W] rfl ?_
     refine RW.pure tabOk 3 rfl ?_
     refine RW.done ?_
     refine NW.next ?_
     refine CW.ret ?_
     refine NW.ret_block (NW.ret_then (NW.ret_then (NW.ret_block (NW.ret_then ?_))))
     obtain rfl := Option.some.inj H
     exact NW.ret2 rfl (by rfl) (by rfl) ⟨none, 0, rfl, x0_1, Ow.nil⟩
   ·
    rw [if_neg c2] at H
    refine CW.cond_f rfl (decide_eq_false c2) ?_
    refine CW.exit ?_
    refine NW.exit_then (NW.exit_then (NW.exit_hit ?_))
    refine NW.next ?_
    refine CW.seq ?_
    refine CW.lex [.W, .W, .W] rfl ?_
    refine RW.pure tabOk 3 rfl ?_
    refine RW.done ?_
    refine NW.next ?_
    refine CW.ret ?_
    obtain rfl := Option.some.inj H
    exact NW.ret2 rfl (by rfl) (by rfl) ⟨A3, c_3, rfl, x0_0, (h11.sub (l' := [(w.heap.size, none, some 84)]) (li' := [(w.heap.size, none, some 93)]) ⟨(.inl ⟨by omega, trivial, rfl⟩), trivial⟩ ⟨(.inl ⟨by omega, trivial, rfl⟩), trivial⟩)⟩
 ·
  rw [if_neg c1] at H
  refine CW.cond_t rfl (not_t (bool_f c1)) ?_
  refine CW.seq ?_
  refine CW.lex [.W, .W] rfl ?_
  refine RW.pure tabOk 2 rfl ?_
  refine RW.done ?_
  refine NW.next ?_
  refine CW.ret ?_
  refine NW.ret_then ?_
  obtain rfl := Option.some.inj H
  have h62 := Ext.trans x0 x1
  exact NW.ret2 rfl (by rfl) (by rfl) ⟨none, 0, rfl, h62, Ow.nil⟩

set_option maxHeartbeats 4000000 in
set_option maxRecDepth 100000 in
theorem hermitageref0_EqSegs.calls (k : Nat) (A1 : Option Addr) (c_1 : Nat) (p0 : List Seg) (A2 : Option Addr) (c_2 : Nat) (p1 : List Seg) (r : Bool) (w : World) (hs1 : Sl kSeg w.heap okAll A1 p0) (hl1 : p0.length ≤ c_1) (hs2 : Sl kSeg w.heap okAll A2 p1) (hl2 : p1.length ≤ c_2) (H : hermitageref0_EqSegs.f k p0 p1 = some r) :
    Calls Tryd.prog 15 #[.slice A1 p0.length c_1, .slice A2 p1.length c_2] w fun e w' => e = .returned (.bool r) ∧ Ext w w' := by
 have h1 : Sl kSeg w.heap (okL [(0, some w.heap.size, none)]) A1 p0 := hs1.old _ rfl
 have h2 : Sl kSeg w.heap (okL [(0, some w.heap.size, none)]) A2 p1 := hs2.old _ rfl
 have x0 : Ext w w := Upd.refl _ w
 unfold hermitageref0_EqSegs.f at H
 refine calls_start Tryd.func15 rfl 26 rfl [.slice A1 p0.length c_1, .slice A2 p1.length c_2] rfl ?_
 refine CW.seq ?_
 refine CW.lex [.W] rfl ?_
 refine RW.pure tabOk 1 rfl ?_
 refine RW.done ?_
 refine NW.next ?_
 refine CW.seq ?_
 refine CW.seq ?_
 refine CW.lex [.W, .W, .W, .W, .W] rfl ?_
 refine RW.pure tabOk 5 rfl ?_
 refine RW.done ?_
 refine NW.next ?_
 by_cases c1 : (p0.length : Int) = (p1.length : Int)
 ·
  rw [if_pos c1] at H
  refine CW.cond_f rfl (bne_f c1) ?_
  refine CW.skip ?_
  refine NW.next ?_
  refine CW.seq ?_
  refine CW.seq ?_
  refine CW.lex [.W] rfl ?_
  refine RW.pure tabOk 1 rfl ?_
  refine RW.done ?_
  refine NW.next ?_
  refine CW.block ?_
  refine CW.loop (fun n1 a w1 => ∃ (it5_0 : Int), Sat 26 [(0, .slice A1 p0.length c_1), (1, .slice A2 p1.length c_2), (5, .int .i64 it5_0)] a ∧ w.heap.size ≤ w1.heap.size ∧ Sl kSeg w1.heap (okL [(0, some w.heap.size, none)]) A1 p0 ∧ Sl kSeg w1.heap (okL [(0, some w.heap.size, none)]) A2 p1 ∧ Ext w w1 ∧ hermitageref0_EqSegs.l0 p0 p1 n1 it5_0 = some r) k ?_ ?_
  · exact fun a ha => ⟨0, ha.sub ⟨rfl, rfl, rfl, trivial⟩, by omega, h1, h2, x0, H⟩
  intro n1 a w1 hI hp
  obtain ⟨it5_0, hS, hle, gF1_0, gF2_0, x0_0, H⟩ := hI
  cases n1 with
  | zero => cases H
  | succ n1 =>
   rw [hermitageref0_EqSegs.l0] at H
   refine CW.go hp hS ?_
   refine CW.seq ?_
   refine CW.seq ?_
   refine CW.lex [.W, .W, .W, .W] rfl ?_
   refine RW.pure tabOk 4 rfl ?_
   refine RW.done ?_
   refine NW.next ?_
   by_cases c2 : it5_0 < (p0.length : Int)
   ·
    rw [if_pos c2] at H
    refine CW.cond_t rfl (decide_eq_true c2) ?_
    refine CW.skip ?_
    refine NW.next ?_
    refine CW.seq ?_
    refine CW.block ?_
    refine CW.seq ?_
    refine CW.ord [0, 0, 3, 7, 0, 0, 48, 112, 255] (ofL [(0, .W), (1, .W), (2, .W), (4, .W), (5, .W), (6, .W), (3, .L), (7, .L), (8, .W)] .nil) mixed (by kernel_rfl) ?_
    intro w2 x1
    have sx1 := x1.size
    refine RW.pure tabOk 2 rfl ?_
    obtain ⟨g1, H⟩ := guard_some H
    have h3 := gF1_0.ext x1
    obtain ⟨ad1, e1, a1⟩ := kSeg_at h3 g1.1 g1.2
    refine RW.index tabOk g1.1 g1.2 e1 ⟨rfl, rfl, rfl, rfl⟩ rfl rfl rfl rfl rfl rfl ?_
    refine RW.pure tabOk 2 rfl ?_
    obtain ⟨g2, H⟩ := guard_some H
    have h4 := gF2_0.ext x1
    obtain ⟨ad2, e2, a2⟩ := kSeg_at h4 g2.1 g2.2
    refine RW.index tabOk g2.1 g2.2 e2 ⟨rfl, rfl, rfl, rfl⟩ rfl rfl rfl rfl rfl rfl ?_
    refine RW.load tabOk [.int .i64 ((rd p0 it5_0).At), .int .i64 ((rd p0 it5_0).Len)] a1 ⟨rfl, rfl, rfl, rfl⟩ rfl rfl rfl rfl ?_
    refine RW.load tabOk [.int .i64 ((rd p1 it5_0).At), .int .i64 ((rd p1 it5_0).Len)] a2 ⟨rfl, rfl, rfl, rfl⟩ rfl rfl rfl rfl ?_
    refine RW.eqAgg eqgSeg (eqSeg (rd p0 it5_0) (rd p1 it5_0)) ⟨rfl, rfl, rfl, rfl⟩ rfl rfl rfl rfl ?_
    refine RW.done ?_
    refine NW.next ?_
    by_cases c3 : (rd p0 it5_0) = (rd p1 it5_0)
    ·
     rw [if_pos c3] at H
     refine CW.cond_f rfl (not_f (decide_eq_true c3)) ?_
     refine CW.skip ?_
     refine NW.norm_block (NW.next ?_)
     refine CW.lex [.W, .W, .W] rfl ?_
     refine RW.pure tabOk 3 rfl ?_
     refine RW.done ?_
     have h5 := Ext.trans x0_0 x1
     exact NW.J fun a ha => ⟨n1, Nat.lt_succ_self n1, (w64 (it5_0 + 1)), ha.sub ⟨rfl, rfl, rfl, trivial⟩, by omega, h3, h4, h5, H⟩
    ·
     rw [if_neg c3] at H
     refine CW.cond_t rfl (not_t (decide_eq_false c3)) ?_
     refine CW.seq ?_
     refine CW.lex [.W] rfl ?_
     refine RW.pure tabOk 1 rfl ?_
     refine RW.done ?_
     refine NW.next ?_
     refine CW.ret ?_
     refine NW.ret_block (NW.ret_then (NW.ret_then (NW.ret_block (NW.ret_then ?_))))
     obtain rfl := Option.some.inj H
     have h6 := Ext.trans x0_0 x1
     exact NW.ret1 rfl (by rfl) ⟨rfl, h6⟩
   ·
    rw [if_neg c2] at H
    refine CW.cond_f rfl (decide_eq_false c2) ?_
    refine CW.exit ?_
    refine NW.exit_then (NW.exit_then (NW.exit_hit ?_))
    refine NW.next ?_
    refine CW.seq ?_
    refine CW.lex [.W] rfl ?_
    refine RW.pure tabOk 1 rfl ?_
    refine RW.done ?_
    refine NW.next ?_
    refine CW.ret ?_
    obtain rfl := Option.some.inj H
    exact NW.ret1 rfl (by rfl) ⟨rfl, x0_0⟩
 ·
  rw [if_neg c1] at H
  refine CW.cond_t rfl (bne_t c1) ?_
  refine CW.seq ?_
  refine CW.lex [.W] rfl ?_
  refine RW.pure tabOk 1 rfl ?_
  refine RW.done ?_
  refine NW.next ?_
  refine CW.ret ?_
  refine NW.ret_then ?_
  obtain rfl := Option.some.inj H
  exact NW.ret1 rfl (by rfl) ⟨rfl, x0⟩

set_option maxHeartbeats 4000000 in
set_option maxRecDepth 100000 in
theorem hermitageref0_EqDevice.calls (k : Nat) (p0 : Device) (A1 : Option Addr) (c_1 : Nat) (A2 : Option Addr) (c_2 : Nat) (p1 : Device) (A3 : Option Addr) (c_3 : Nat) (A4 : Option Addr) (c_4 : Nat) (r : Bool) (w : World) (hs1 : Sl kSeg w.heap okAll A1 p0.Free) (hl1 : p0.Free.length ≤ c_1) (hs2 : Sl kSeg w.heap okAll A2 p0.Late) (hl2 : p0.Late.length ≤ c_2) (hs3 : Sl kSeg w.heap okAll A3 p1.Free) (hl3 : p1.Free.length ≤ c_3) (hs4 : Sl kSeg w.heap okAll A4 p1.Late) (hl4 : p1.Late.length ≤ c_4) (H : hermitageref0_EqDevice.f k p0 p1 = some r) :
    Calls Tryd.prog 72 #[.agg #[.int .i64 p0.ID, .int .i64 p0.Size, .slice A1 p0.Free.length c_1, .slice A2 p0.Late.length c_2], .agg #[.int .i64 p1.ID, .int .i64 p1.Size, .slice A3 p1.Free.length c_3, .slice A4 p1.Late.length c_4]] w fun e w' => e = .returned (.bool r) ∧ Ext w w' := by
 have h1 : Sl kSeg w.heap (okL [(0, some w.heap.size, none)]) A1 p0.Free := hs1.old _ rfl
 have h2 : Sl kSeg w.heap (okL [(0, some w.heap.size, none)]) A2 p0.Late := hs2.old _ rfl
 have h3 : Sl kSeg w.heap (okL [(0, some w.heap.size, none)]) A3 p1.Free := hs3.old _ rfl
 have h4 : Sl kSeg w.heap (okL [(0, some w.heap.size, none)]) A4 p1.Late := hs4.old _ rfl
 have x0 : Ext w w := Upd.refl _ w
 unfold hermitageref0_EqDevice.f at H
 refine calls_start Tryd.func72 rfl 31 rfl [.agg #[.int .i64 p0.ID, .int .i64 p0.Size, .slice A1 p0.Free.length c_1, .slice A2 p0.Late.length c_2], .agg #[.int .i64 p1.ID, .int .i64 p1.Size, .slice A3 p1.Free.length c_3, .slice A4 p1.Late.length c_4]] rfl ?_
 refine CW.seq ?_
 refine CW.lex [.X, .X, .W] rfl ?_
 refine RW.box (cs := [.int .i64 p0.ID, .int .i64 p0.Size, .slice A1 p0.Free.length c_1, .slice A2 p0.Late.length c_2]) (.inl rfl) ⟨rfl, rfl, rfl, rfl⟩ rfl rfl rfl ?_
 intro b1 w1 x1 l1 h5
 have sx1 := x1.size
 have ltb1 := h5.lt
 refine RW.box (cs := [.int .i64 p1.ID, .int .i64 p1.Size, .slice A3 p1.Free.length c_3, .slice A4 p1.Late.length c_4]) (.inl rfl) ⟨rfl, rfl, rfl, rfl⟩ rfl rfl rfl ?_
 intro b2 w2 x2 l2 h6
 have sx2 := x2.size
 have ltb2 := h6.lt
 refine RW.pure tabOk 1 rfl ?_
 refine RW.done ?_
 refine NW.next ?_
 refine CW.seq ?_
 refine CW.lex [.W, .L, .W, .L, .W, .W, .W, .L, .W, .L, .W, .W, .W, .W, .L, .W, .L, .X, .W, .W, .W, .L, .W, .L, .X, .W, .W] rfl ?_
 refine RW.pure tabOk 1 rfl ?_
 have h7 := h5.ext x2
 refine RW.load tabOk [.int .i64 p0.ID] ((h7.at 0).take 1 rfl) ⟨rfl, rfl, rfl, rfl⟩ rfl rfl rfl rfl ?_
 refine RW.pure tabOk 1 rfl ?_
 refine RW.load tabOk [.int .i64 p1.ID] ((h6.at 0).take 1 rfl) ⟨rfl, rfl, rfl, rfl⟩ rfl rfl rfl rfl ?_
 refine RW.pure tabOk 2 rfl ?_
 by_cases c1 : p0.ID = p1.ID
 ·
  rw [if_pos c1] at H
  refine RW.bool 10 (b' := true) (beq_t c1) rfl ?_
  refine RW.pure tabOk 1 rfl ?_
  refine RW.load tabOk [.int .i64 p0.Size] ((h7.at 1).take 1 rfl) ⟨rfl, rfl, rfl, rfl⟩ rfl rfl rfl rfl ?_
  refine RW.pure tabOk 1 rfl ?_
  refine RW.load tabOk [.int .i64 p1.Size] ((h6.at 1).take 1 rfl) ⟨rfl, rfl, rfl, rfl⟩ rfl rfl rfl rfl ?_
  refine RW.pure tabOk 3 rfl ?_
  by_cases c2 : p0.Size = p1.Size
  ·
   rw [if_pos c2] at H
   refine RW.bool 17 (b' := true) (beq_t c2) rfl ?_
   refine RW.pure tabOk 1 rfl ?_
   refine RW.load tabOk [.slice A1 p0.Free.length c_1] ((h7.at 2).take 1 rfl) ⟨rfl, rfl, rfl, rfl⟩ rfl rfl rfl rfl ?_
   refine RW.pure tabOk 1 rfl ?_
   refine RW.load tabOk [.slice A3 p1.Free.length c_3] ((h6.at 2).take 1 rfl) ⟨rfl, rfl, rfl, rfl⟩ rfl rfl rfl rfl ?_
   have h8 := (h1.ext x1).ext x2
   have h9 := (h3.ext x1).ext x2
   obtain ⟨y1, h10, H⟩ := bind_some H
   refine RW.callF (.inl rfl) ent15 ⟨rfl, rfl, rfl, rfl⟩ rfl rfl (hermitageref0_EqSegs.calls k A1 c_1 p0.Free A3 c_3 p1.Free _ _ h8.all hl1 h9.all hl3 h10) ?_
   rintro _ w3 ⟨rfl, x3⟩
   refine ⟨_, rfl, x3, ?_⟩
   have sx3 := x3.size
   refine RW.pure tabOk 2 rfl ?_
   by_cases c3 : y1 = true
   ·
    rw [if_pos c3] at H
    refine RW.bool 24 (b' := true) (c3) rfl ?_
    refine RW.pure tabOk 1 rfl ?_
    have h11 := h7.ext x3
    refine RW.load tabOk [.slice A2 p0.Late.length c_2] (h11.at 3) ⟨rfl, rfl, rfl, rfl⟩ rfl rfl rfl rfl ?_
    refine RW.pure tabOk 1 rfl ?_
    have h12 := h6.ext x3
    refine RW.load tabOk [.slice A4 p1.Late.length c_4] (h12.at 3) ⟨rfl, rfl, rfl, rfl⟩ rfl rfl rfl rfl ?_
    have h13 := ((h2.ext x1).ext x2).ext x3
    have h14 := ((h4.ext x1).ext x2).ext x3
    obtain ⟨y2, h15, H⟩ := bind_some H
    refine RW.callF (.inl rfl) ent15 ⟨rfl, rfl, rfl, rfl⟩ rfl rfl (hermitageref0_EqSegs.calls k A2 c_2 p0.Late A4 c_4 p1.Late _ _ h13.all hl2 h14.all hl4 h15) ?_
    rintro _ w4 ⟨rfl, x4⟩
    refine ⟨_, rfl, x4, ?_⟩
    have sx4 := x4.size
    refine RW.pure tabOk 2 rfl ?_
    refine RW.done ?_
    refine NW.next ?_
    refine CW.ret ?_
    obtain rfl := Option.some.inj H
    have h16 := Ext.trans (Ext.trans (Ext.trans (Ext.trans x0 x1) x2) x3) x4
    exact NW.ret1 rfl (by rfl) ⟨rfl, h16⟩
   ·
    rw [if_neg c3] at H
    refine RW.bool 24 (b' := false) (bool_f c3) rfl ?_
    refine RW.pure tabOk 7 rfl ?_
    refine RW.done ?_
    refine NW.next ?_
    refine CW.ret ?_
    obtain rfl := Option.some.inj H
    have h17 := Ext.trans (Ext.trans (Ext.trans x0 x1) x2) x3
    exact NW.ret1 rfl (by rfl) ⟨rfl, h17⟩
  ·
   rw [if_neg c2] at H
   refine RW.bool 17 (b' := false) (beq_f c2) rfl ?_
   refine RW.pure tabOk 14 rfl ?_
   refine RW.done ?_
   refine NW.next ?_
   refine CW.ret ?_
   obtain rfl := Option.some.inj H
   have h18 := Ext.trans (Ext.trans x0 x1) x2
   exact NW.ret1 rfl (by rfl) ⟨rfl, h18⟩
 ·
  rw [if_neg c1] at H
  refine RW.bool 10 (b' := false) (beq_f c1) rfl ?_
  refine RW.pure tabOk 21 rfl ?_
  refine RW.done ?_
  refine NW.next ?_
  refine CW.ret ?_
  obtain rfl := Option.some.inj H
  have h19 := Ext.trans (Ext.trans x0 x1) x2
  exact NW.ret1 rfl (by rfl) ⟨rfl, h19⟩

set_option maxHeartbeats 4000000 in
set_option maxRecDepth 100000 in
theorem hermitageref0_EqDevices.calls (k : Nat) (A1 : Option Addr) (c_1 : Nat) (p0 : List Device) (A2 : Option Addr) (c_2 : Nat) (p1 : List Device) (r : Bool) (w : World) (hs1 : Sl kDeviceR w.heap okAll A1 p0) (hl1 : p0.length ≤ c_1) (hs2 : Sl kDeviceR w.heap okAll A2 p1) (hl2 : p1.length ≤ c_2) (H : hermitageref0_EqDevices.f k p0 p1 = some r) :
    Calls Tryd.prog 42 #[.slice A1 p0.length c_1, .slice A2 p1.length c_2] w fun e w' => e = .returned (.bool r) ∧ Ext w w' := by
 have h1 : Sl kDeviceR w.heap (okL [(0, some w.heap.size, none)]) A1 p0 := hs1.old _ rfl
 have h2 : Sl kDeviceR w.heap (okL [(0, some w.heap.size, none)]) A2 p1 := hs2.old _ rfl
 have x0 : Ext w w := Upd.refl _ w
 unfold hermitageref0_EqDevices.f at H
 refine calls_start Tryd.func42 rfl 27 rfl [.slice A1 p0.length c_1, .slice A2 p1.length c_2] rfl ?_
 refine CW.seq ?_
 refine CW.lex [.W] rfl ?_
 refine RW.pure tabOk 1 rfl ?_
 refine RW.done ?_
 refine NW.next ?_
 refine CW.seq ?_
 refine CW.seq ?_
 refine CW.lex [.W, .W, .W, .W, .W] rfl ?_
 refine RW.pure tabOk 5 rfl ?_
 refine RW.done ?_
 refine NW.next ?_
 by_cases c1 : (p0.length : Int) = (p1.length : Int)
 ·
  rw [if_pos c1] at H
  refine CW.cond_f rfl (bne_f c1) ?_
  refine CW.skip ?_
  refine NW.next ?_
  refine CW.seq ?_
  refine CW.seq ?_
  refine CW.lex [.W] rfl ?_
  refine RW.pure tabOk 1 rfl ?_
  refine RW.done ?_
  refine NW.next ?_
  refine CW.block ?_
  refine CW.loop (fun n1 a w1 => ∃ (it5_0 : Int), Sat 27 [(0, .slice A1 p0.length c_1), (1, .slice A2 p1.length c_2), (5, .int .i64 it5_0)] a ∧ w.heap.size ≤ w1.heap.size ∧ Sl kDeviceR w1.heap (okL [(0, some w.heap.size, none)]) A1 p0 ∧ Sl kDeviceR w1.heap (okL [(0, some w.heap.size, none)]) A2 p1 ∧ Ext w w1 ∧ hermitageref0_EqDevices.l0 p0 p1 k n1 it5_0 = some r) k ?_ ?_
  · exact fun a ha => ⟨0, ha.sub ⟨rfl, rfl, rfl, trivial⟩, by omega, h1, h2, x0, H⟩
  intro n1 a w1 hI hp
  obtain ⟨it5_0, hS, hle, gF1_0, gF2_0, x0_0, H⟩ := hI
  cases n1 with
  | zero => cases H
  | succ n1 =>
   rw [hermitageref0_EqDevices.l0] at H
   refine CW.go hp hS ?_
   refine CW.seq ?_
   refine CW.seq ?_
   refine CW.lex [.W, .W, .W, .W] rfl ?_
   refine RW.pure tabOk 4 rfl ?_
   refine RW.done ?_
   refine NW.next ?_
   by_cases c2 : it5_0 < (p0.length : Int)
   ·
    rw [if_pos c2] at H
    refine CW.cond_t rfl (decide_eq_true c2) ?_
    refine CW.skip ?_
    refine NW.next ?_
    refine CW.seq ?_
    refine CW.block ?_
    refine CW.seq ?_
    refine CW.ord [0, 0, 3, 7, 0, 0, 48, 112, 255, 511] (ofL [(0, .W), (1, .W), (2, .W), (4, .W), (5, .W), (6, .W), (3, .L), (7, .L), (8, .X), (9, .W)] .nil) mixed (by kernel_rfl) ?_
    intro w2 x1
    have sx1 := x1.size
    refine RW.pure tabOk 2 rfl ?_
    obtain ⟨g1, H⟩ := guard_some H
    have h3 := gF1_0.ext x1
    obtain ⟨ad1, A3, c_3, A4, c_4, e1, a1, l1, h4, l2, h5⟩ := kDeviceR_at h3 g1.1 g1.2
    refine RW.index tabOk g1.1 g1.2 e1 ⟨rfl, rfl, rfl, rfl⟩ rfl rfl rfl rfl rfl rfl ?_
    refine RW.pure tabOk 2 rfl ?_
    obtain ⟨g2, H⟩ := guard_some H
    have h6 := gF2_0.ext x1
    obtain ⟨ad2, A5, c_5, A6, c_6, e2, a2, l3, h7, l4, h8⟩ := kDeviceR_at h6 g2.1 g2.2
    refine RW.index tabOk g2.1 g2.2 e2 ⟨rfl, rfl, rfl, rfl⟩ rfl rfl rfl rfl rfl rfl ?_
    refine RW.load tabOk [.int .i64 ((rd p0 it5_0).ID), .int .i64 ((rd p0 it5_0).Size), .slice A3 ((rd p0 it5_0).Free).length c_3, .slice A4 ((rd p0 it5_0).Late).length c_4] a1 ⟨rfl, rfl, rfl, rfl⟩ rfl rfl rfl rfl ?_
    refine RW.load tabOk [.int .i64 ((rd p1 it5_0).ID), .int .i64 ((rd p1 it5_0).Size), .slice A5 ((rd p1 it5_0).Free).length c_5, .slice A6 ((rd p1 it5_0).Late).length c_6] a2 ⟨rfl, rfl, rfl, rfl⟩ rfl rfl rfl rfl ?_
    obtain ⟨y1, h9, H⟩ := bind_some H
    refine RW.callF (.inl rfl) ent72 ⟨rfl, rfl, rfl, rfl⟩ rfl rfl (hermitageref0_EqDevice.calls k (rd p0 it5_0) A3 c_3 A4 c_4 (rd p1 it5_0) A5 c_5 A6 c_6 _ _ h4.all l1 h5.all l2 h7.all l3 h8.all l4 h9) ?_
    rintro _ w3 ⟨rfl, x2⟩
    refine ⟨_, rfl, x2, ?_⟩
    have sx2 := x2.size
    refine RW.pure tabOk 1 rfl ?_
    refine RW.done ?_
    refine NW.next ?_
    by_cases c3 : y1 = true
    ·
     rw [if_pos c3] at H
     refine CW.cond_f rfl (not_f (c3)) ?_
     refine CW.skip ?_
     refine NW.norm_block (NW.next ?_)
     refine CW.lex [.W, .W, .W] rfl ?_
     refine RW.pure tabOk 3 rfl ?_
     refine RW.done ?_
     have h10 := h3.ext x2
     have h11 := h6.ext x2
     have h12 := Ext.trans (Ext.trans x0_0 x1) x2
     exact NW.J fun a ha => ⟨n1, Nat.lt_succ_self n1, (w64 (it5_0 + 1)), ha.sub ⟨rfl, rfl, rfl, trivial⟩, by omega, h10, h11, h12, H⟩
    ·
     rw [if_neg c3] at H
     refine CW.cond_t rfl (not_t (bool_f c3)) ?_
     refine CW.seq ?_
     refine CW.lex [.W] rfl ?_
     refine RW.pure tabOk 1 rfl ?_
     refine RW.done ?_
     refine NW.next ?_
     refine CW.ret ?_
     refine NW.ret_block (NW.ret_then (NW.ret_then (NW.ret_block (NW.ret_then ?_))))
     obtain rfl := Option.some.inj H
     have h13 := Ext.trans (Ext.trans x0_0 x1) x2
     exact NW.ret1 rfl (by rfl) ⟨rfl, h13⟩
   ·
    rw [if_neg c2] at H
    refine CW.cond_f rfl (decide_eq_false c2) ?_
    refine CW.exit ?_
    refine NW.exit_then (NW.exit_then (NW.exit_hit ?_))
    refine NW.next ?_
    refine CW.seq ?_
    refine CW.lex [.W] rfl ?_
    refine RW.pure tabOk 1 rfl ?_
    refine RW.done ?_
    refine NW.next ?_
    refine CW.ret ?_
    obtain rfl := Option.some.inj H
    exact NW.ret1 rfl (by rfl) ⟨rfl, x0_0⟩
 ·
  rw [if_neg c1] at H
  refine CW.cond_t rfl (bne_t c1) ?_
  refine CW.seq ?_
  refine CW.lex [.W] rfl ?_
  refine RW.pure tabOk 1 rfl ?_
  refine RW.done ?_
  refine NW.next ?_
  refine CW.ret ?_
  refine NW.ret_then ?_
  obtain rfl := Option.some.inj H
  exact NW.ret1 rfl (by rfl) ⟨rfl, x0⟩

set_option maxHeartbeats 4000000 in
set_option maxRecDepth 100000 in
theorem hermitagelaw0_Within.calls (p0 : Int) (p1 : Int) (r : Int) (w : World) (H : hermitagelaw0_Within.f p0 p1 = some r) :
    Calls Tryd.prog 45 #[.int .i64 p0, .int .i64 p1] w fun e w' => e = .returned (.int .i64 r) ∧ Ext w w' := by
 have x0 : Ext w w := Upd.refl _ w
 unfold hermitagelaw0_Within.f at H
 refine calls_start Tryd.func45 rfl 11 rfl [.int .i64 p0, .int .i64 p1] rfl ?_
 refine CW.seq ?_
 refine CW.lex [.W] rfl ?_
 refine RW.pure tabOk 1 rfl ?_
 refine RW.done ?_
 refine NW.next ?_
 refine CW.seq ?_
 refine CW.lex [.W, .W, .W, .W, .W, .W, .W] rfl ?_
 refine RW.pure tabOk 4 rfl ?_
 obtain ⟨g1, H⟩ := guard_some H
 refine RW.div g1 ⟨rfl, rfl, rfl, rfl⟩ rfl rfl rfl rfl ?_
 refine RW.pure tabOk 2 rfl ?_
 refine RW.done ?_
 refine NW.next ?_
 refine CW.ret ?_
 obtain rfl := Option.some.inj H
 exact NW.ret1 rfl (by rfl) ⟨rfl, x0⟩

end Go.Proofs.YtnaajldlloglkaaDoor.W
