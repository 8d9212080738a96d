/- Walks; printed by a program of the claim. -/
import Derived.Test.YtnaajldlloglkaaDoorChainW
set_option linter.unusedVariables false
set_option linter.unusedSimpArgs false
namespace Go.Proofs.YtnaajldlloglkaaDoor.W
open Go.H Go.Proofs
set_option maxHeartbeats 20000000 in
set_option maxRecDepth 100000 in
theorem hermitageref0_EqSegs.calls (k : Nat) (A1 : Option Addr) (c_1 : Nat) (p0 : List Seg) (A2 : Option Addr) (c_2 : Nat) (p1 : List Seg) (r : Bool) (w : World) (hs1 : Sl kSeg w.heap okAll A1 p0) (hl1 : p0.length ≤ c_1) (hs2 : Sl kSeg w.heap okAll A2 p1) (hl2 : p1.length ≤ c_2) (H : hermitageref0_EqSegs.f k p0 p1 = some r) :
    Calls Tryd.prog 15 #[.slice A1 p0.length c_1, .slice A2 p1.length c_2] w fun e w' => e = .returned (.bool r) ∧ Ext w w' := by
 have h1 : Sl kSeg w.heap (okL [(0, some w.heap.size, none)]) A1 p0 := hs1.old _ rfl
 have h2 : Sl kSeg w.heap (okL [(0, some w.heap.size, none)]) A2 p1 := hs2.old _ rfl
 have x0 : Ext w w := Upd.refl _ w
 unfold hermitageref0_EqSegs.f at H
 refine calls_start Tryd.func15 rfl 26 rfl [.slice A1 p0.length c_1, .slice A2 p1.length c_2] rfl ?_
 refine CW.seq ?_
 refine CW.lex [.W] rfl ?_
 refine RW.pure tabOk 1 rfl ?_
 refine RW.done ?_
 refine NW.next ?_
 refine CW.seq ?_
 refine CW.seq ?_
 refine CW.lex [.W, .W, .W, .W, .W] rfl ?_
 refine RW.pure tabOk 5 rfl ?_
 refine RW.done ?_
 refine NW.next ?_
 by_cases c1 : (p0.length : Int) = (p1.length : Int)
 ·
  rw [if_pos c1] at H
  refine CW.cond_f rfl (bne_f c1) ?_
  refine CW.skip ?_
  refine NW.next ?_
  refine CW.seq ?_
  refine CW.seq ?_
  refine CW.lex [.W] rfl ?_
  refine RW.pure tabOk 1 rfl ?_
  refine RW.done ?_
  refine NW.next ?_
  refine CW.block ?_
  refine CW.loop (fun n1 a w1 => ∃ (it5_0 : Int), Sat 26 [(0, .slice A1 p0.length c_1), (1, .slice A2 p1.length c_2), (5, .int .i64 it5_0)] a ∧ w.heap.size ≤ w1.heap.size ∧ Sl kSeg w1.heap (okL [(0, some w.heap.size, none)]) A1 p0 ∧ Sl kSeg w1.heap (okL [(0, some w.heap.size, none)]) A2 p1 ∧ Ext w w1 ∧ hermitageref0_EqSegs.l0 p0 p1 n1 it5_0 = some r) k ?_ ?_
  · exact fun a ha => ⟨0, ha.sub ⟨rfl, rfl, rfl, trivial⟩, by omega, h1, h2, x0, H⟩
  intro n1 a w1 hI hp
  obtain ⟨it5_0, hS, hle, gF1_0, gF2_0, x0_0, H⟩ := hI
  cases n1 with
  | zero => cases H
  | succ n1 =>
   rw [hermitageref0_EqSegs.l0] at H
   refine CW.go hp hS ?_
   refine CW.seq ?_
   refine CW.seq ?_
   refine CW.lex [.W, .W, .W, .W] rfl ?_
   refine RW.pure tabOk 4 rfl ?_
   refine RW.done ?_
   refine NW.next ?_
   by_cases c2 : it5_0 < (p0.length : Int)
   ·
    rw [if_pos c2] at H
    refine CW.cond_t rfl (decide_eq_true c2) ?_
    refine CW.skip ?_
    refine NW.next ?_
    refine CW.seq ?_
    refine CW.block ?_
    refine CW.seq ?_
    refine CW.ord [0, 0, 3, 7, 0, 0, 48, 112, 255] (ofL [(0, .W), (1, .W), (2, .W), (4, .W), (5, .W), (6, .W), (3, .L), (7, .L), (8, .W)] .nil) mixed (by kernel_rfl) ?_
    intro w2 x1
    have sx1 := x1.size
    refine RW.pure tabOk 2 rfl ?_
    obtain ⟨g1, H⟩ := guard_some H
    have h3 := gF1_0.ext x1
    obtain ⟨ad1, e1, a1⟩ := kSeg_at h3 g1.1 g1.2
    refine RW.index tabOk g1.1 g1.2 e1 ⟨rfl, rfl, rfl, rfl⟩ rfl rfl rfl rfl rfl rfl ?_
    refine RW.pure tabOk 2 rfl ?_
    obtain ⟨g2, H⟩ := guard_some H
    have h4 := gF2_0.ext x1
    obtain ⟨ad2, e2, a2⟩ := kSeg_at h4 g2.1 g2.2
    refine RW.index tabOk g2.1 g2.2 e2 ⟨rfl, rfl, rfl, rfl⟩ rfl rfl rfl rfl rfl rfl ?_
    refine RW.load tabOk [.int .i64 ((rd p0 it5_0).At), .int .i64 ((rd p0 it5_0).Len)] a1 ⟨rfl, rfl, rfl, rfl⟩ rfl rfl rfl rfl ?_
    refine RW.load tabOk [.int .i64 ((rd p1 it5_0).At), .int .i64 ((rd p1 it5_0).Len)] a2 ⟨rfl, rfl, rfl, rfl⟩ rfl rfl rfl rfl ?_
    refine RW.eqAgg eqgSeg (eqSeg (rd p0 it5_0) (rd p1 it5_0)) ⟨rfl, rfl, rfl, rfl⟩ rfl rfl rfl rfl ?_
    refine RW.done ?_
    refine NW.next ?_
    by_cases c3 : (rd p0 it5_0) = (rd p1 it5_0)
    ·
     rw [if_pos c3] at H
     refine CW.cond_f rfl (not_f (decide_eq_true c3)) ?_
     refine CW.skip ?_
     refine NW.norm_block (NW.next ?_)
     refine CW.lex [.W, .W, .W] rfl ?_
     refine RW.pure tabOk 3 rfl ?_
     refine RW.done ?_
     have h5 := Ext.trans x0_0 x1
     exact NW.J fun a ha => ⟨n1, Nat.lt_succ_self n1, (w64 (it5_0 + 1)), ha.sub ⟨rfl, rfl, rfl, trivial⟩, by omega, h3, h4, h5, H⟩
    ·
     rw [if_neg c3] at H
     refine CW.cond_t rfl (not_t (decide_eq_false c3)) ?_
     refine CW.seq ?_
     refine CW.lex [.W] rfl ?_
     refine RW.pure tabOk 1 rfl ?_
     refine RW.done ?_
     refine NW.next ?_
     refine CW.ret ?_
     refine NW.ret_block (NW.ret_then (NW.ret_then (NW.ret_block (NW.ret_then ?_))))
     obtain rfl := Option.some.inj H
     have h6 := Ext.trans x0_0 x1
     exact NW.ret1 rfl (by rfl) ⟨rfl, h6⟩
   ·
    rw [if_neg c2] at H
    refine CW.cond_f rfl (decide_eq_false c2) ?_
    refine CW.exit ?_
    refine NW.exit_then (NW.exit_then (NW.exit_hit ?_))
    refine NW.next ?_
    refine CW.seq ?_
    refine CW.lex [.W] rfl ?_
    refine RW.pure tabOk 1 rfl ?_
    refine RW.done ?_
    refine NW.next ?_
    refine CW.ret ?_
    obtain rfl := Option.some.inj H
    exact NW.ret1 rfl (by rfl) ⟨rfl, x0_0⟩
 ·
  rw [if_neg c1] at H
  refine CW.cond_t rfl (bne_t c1) ?_
  refine CW.seq ?_
  refine CW.lex [.W] rfl ?_
  refine RW.pure tabOk 1 rfl ?_
  refine RW.done ?_
  refine NW.next ?_
  refine CW.ret ?_
  refine NW.ret_then ?_
  obtain rfl := Option.some.inj H
  exact NW.ret1 rfl (by rfl) ⟨rfl, x0⟩

set_option maxHeartbeats 20000000 in
set_option maxRecDepth 100000 in
theorem hermitagelaw0_Within.calls (p0 : Int) (p1 : Int) (r : Int) (w : World) (H : hermitagelaw0_Within.f p0 p1 = some r) :
    Calls Tryd.prog 45 #[.int .i64 p0, .int .i64 p1] w fun e w' => e = .returned (.int .i64 r) ∧ Ext w w' := by
 have x0 : Ext w w := Upd.refl _ w
 unfold hermitagelaw0_Within.f at H
 refine calls_start Tryd.func45 rfl 11 rfl [.int .i64 p0, .int .i64 p1] rfl ?_
 refine CW.seq ?_
 refine CW.lex [.W] rfl ?_
 refine RW.pure tabOk 1 rfl ?_
 refine RW.done ?_
 refine NW.next ?_
 refine CW.seq ?_
 refine CW.lex [.W, .W, .W, .W, .W, .W, .W] rfl ?_
 refine RW.pure tabOk 4 rfl ?_
 obtain ⟨g1, H⟩ := guard_some H
 refine RW.div g1 ⟨rfl, rfl, rfl, rfl⟩ rfl rfl rfl rfl ?_
 refine RW.pure tabOk 2 rfl ?_
 refine RW.done ?_
 refine NW.next ?_
 refine CW.ret ?_
 obtain rfl := Option.some.inj H
 exact NW.ret1 rfl (by rfl) ⟨rfl, x0⟩

set_option maxHeartbeats 20000000 in
set_option maxRecDepth 100000 in
theorem seg_To.calls (p0 : Int) (r : Int) (w : World) (H : seg_To.f p0 = some r) :
    Calls Tryd.prog 58 #[.int .i64 p0] w fun e w' => e = .returned (.int .u64 r) ∧ Ext w w' := by
 have x0 : Ext w w := Upd.refl _ w
 unfold seg_To.f at H
 refine calls_start Tryd.func58 rfl 8 rfl [.int .i64 p0] rfl ?_
 refine CW.seq ?_
 refine CW.lex [.W] rfl ?_
 refine RW.pure tabOk 1 rfl ?_
 refine RW.done ?_
 refine NW.next ?_
 refine CW.seq ?_
 refine CW.seq ?_
 refine CW.lex [.W, .W] rfl ?_
 refine RW.pure tabOk 2 rfl ?_
 refine RW.done ?_
 refine NW.next ?_
 by_cases c1 : 64 ≤ p0
 ·
  rw [if_pos c1] at H
  refine CW.cond_t rfl (decide_eq_true c1) ?_
  refine CW.seq ?_
  refine CW.lex [.W] rfl ?_
  refine RW.pure tabOk 1 rfl ?_
  refine RW.done ?_
  refine NW.next ?_
  refine CW.ret ?_
  refine NW.ret_then ?_
  obtain rfl := Option.some.inj H
  exact NW.ret1 rfl (by rfl) ⟨rfl, x0⟩
 ·
  rw [if_neg c1] at H
  refine CW.cond_f rfl (decide_eq_false c1) ?_
  refine CW.skip ?_
  refine NW.next ?_
  refine CW.seq ?_
  refine CW.lex [.W, .W, .W, .W] rfl ?_
  refine RW.pure tabOk 1 rfl ?_
  obtain ⟨g1, H⟩ := guard_some H
  refine RW.shift g1 ⟨rfl, rfl, rfl, rfl⟩ rfl rfl rfl rfl ?_
  refine RW.pure tabOk 2 rfl ?_
  refine RW.done ?_
  refine NW.next ?_
  refine CW.ret ?_
  obtain rfl := Option.some.inj H
  exact NW.ret1 rfl (by rfl) ⟨rfl, x0⟩

set_option maxHeartbeats 20000000 in
set_option maxRecDepth 100000 in
theorem seg_Make.calls (k : Nat) (A1 : Option Addr) (c_1 : Nat) (p0 : List Seg) (r : Int) (w : World) (hs1 : Sl kSeg w.heap okAll A1 p0) (hl1 : p0.length ≤ c_1) (H : seg_Make.f k p0 = some r) :
    Calls Tryd.prog 52 #[.slice A1 p0.length c_1] w fun e w' => e = .returned (.int .u64 r) ∧ Ext w w' := by
 have h1 : Sl kSeg w.heap (okL [(0, some w.heap.size, none)]) A1 p0 := hs1.old _ rfl
 have x0 : Ext w w := Upd.refl _ w
 unfold seg_Make.f at H
 refine calls_start Tryd.func52 rfl 26 rfl [.slice A1 p0.length c_1] rfl ?_
 refine CW.seq ?_
 refine CW.lex [.W] rfl ?_
 refine RW.pure tabOk 1 rfl ?_
 refine RW.done ?_
 refine NW.next ?_
 refine CW.seq ?_
 refine CW.lex [.W] rfl ?_
 refine RW.pure tabOk 1 rfl ?_
 refine RW.done ?_
 refine NW.next ?_
 refine CW.seq ?_
 refine CW.seq ?_
 refine CW.lex [.W, .W, .W] rfl ?_
 refine RW.pure tabOk 3 rfl ?_
 refine RW.done ?_
 refine NW.next ?_
 refine CW.block ?_
 refine CW.loop (fun n1 a w1 => ∃ (it3_0 : Int) (it8_0 : Int), Sat 26 [(3, .int .u64 it3_0), (6, .slice A1 p0.length c_1), (7, .int .i64 (p0.length : Int)), (8, .int .i64 it8_0)] a ∧ w.heap.size ≤ w1.heap.size ∧ Sl kSeg w1.heap (okL [(0, some w.heap.size, none)]) A1 p0 ∧ Ext w w1 ∧ seg_Make.l0 p0 n1 it3_0 it8_0 = some r) k ?_ ?_
 · exact fun a ha => ⟨0, 0, ha.sub ⟨rfl, rfl, rfl, rfl, trivial⟩, by omega, h1, x0, H⟩
 intro n1 a w1 hI hp
 obtain ⟨it3_0, it8_0, hS, hle, gF1_0, x0_0, H⟩ := hI
 cases n1 with
 | zero => cases H
 | succ n1 =>
  rw [seg_Make.l0] at H
  refine CW.go hp hS ?_
  refine CW.seq ?_
  refine CW.lex [.W] rfl ?_
  refine RW.pure tabOk 1 rfl ?_
  refine RW.done ?_
  refine NW.next ?_
  refine CW.seq ?_
  by_cases c1 : it8_0 < (p0.length : Int)
  ·
   rw [if_pos c1] at H
   refine CW.cond_t rfl (decide_eq_true c1) ?_
   refine CW.skip ?_
   refine NW.next ?_
   refine CW.seq ?_
   refine CW.block ?_
   refine CW.seq ?_
   refine CW.lex [.W, .L, .X, .M] rfl ?_
   obtain ⟨g1, H⟩ := guard_some H
   obtain ⟨ad1, e1, a1⟩ := kSeg_at gF1_0 g1.1 g1.2
   refine RW.index tabOk g1.1 g1.2 e1 ⟨rfl, rfl, rfl, rfl⟩ rfl rfl rfl rfl rfl rfl ?_
   refine RW.load tabOk [.int .i64 ((rd p0 it8_0).At), .int .i64 ((rd p0 it8_0).Len)] a1 ⟨rfl, rfl, rfl, rfl⟩ rfl rfl rfl rfl ?_
   refine RW.alloc tabOk (.inl rfl) ⟨rfl, rfl, rfl, rfl⟩ rfl rfl ?_
   intro b1 w2 x1 l1 h2
   have sx1 := x1.size
   have ltb1 := h2.lt
   refine RW.storeBox tabOk h2 [.int .i64 ((rd p0 it8_0).At), .int .i64 ((rd p0 it8_0).Len)] ⟨rfl, rfl, rfl⟩ rfl rfl rfl rfl rfl rfl rfl rfl ?_
   intro w3 x2 h3
   have h4 : Box w3.heap b1 93 [.int .i64 ((rd p0 it8_0).At), .int .i64 ((rd p0 it8_0).Len)] := h3
   have sx2 := x2.size
   refine RW.done ?_
   refine NW.next ?_
   refine CW.ord [0, 0, 2, 0, 8, 30, 62, 0, 128, 510, 1022, 2047, 4095] (ofL [(0, .W), (1, .W), (3, .W), (7, .W), (2, .L), (4, .L), (5, .W), (8, .L), (6, .X), (9, .X), (10, .W), (11, .W), (12, .W)] .nil) mixed (by kernel_rfl) ?_
   intro w4 x3
   have sx3 := x3.size
   refine RW.pure tabOk 4 rfl ?_
   have h5 := h4.ext x3
   refine RW.load tabOk [.int .i64 ((rd p0 it8_0).At)] ((h5.at 0).take 1 rfl) ⟨rfl, rfl, rfl, rfl⟩ rfl rfl rfl rfl ?_
   refine RW.load tabOk [.int .i64 ((rd p0 it8_0).Len)] (h5.at 1) ⟨rfl, rfl, rfl, rfl⟩ rfl rfl rfl rfl ?_
   refine RW.pure tabOk 1 rfl ?_
   refine RW.load tabOk [.int .i64 ((rd p0 it8_0).At)] ((h5.at 0).take 1 rfl) ⟨rfl, rfl, rfl, rfl⟩ rfl rfl rfl rfl ?_
   obtain ⟨y1, h6, H⟩ := bind_some H
   refine RW.callF (.inl rfl) ent58 ⟨rfl, rfl, rfl, rfl⟩ rfl rfl (seg_To.calls (w64 (((rd p0 it8_0).At) + ((rd p0 it8_0).Len))) _ _ h6) ?_
   rintro _ w5 ⟨rfl, x4⟩
   refine ⟨_, rfl, x4, ?_⟩
   have sx4 := x4.size
   obtain ⟨y2, h7, H⟩ := bind_some H
   refine RW.callF (.inl rfl) ent58 ⟨rfl, rfl, rfl, rfl⟩ rfl rfl (seg_To.calls ((rd p0 it8_0).At) _ _ h7) ?_
   rintro _ w6 ⟨rfl, x5⟩
   refine ⟨_, rfl, x5, ?_⟩
   have sx5 := x5.size
   refine RW.pure tabOk 3 rfl ?_
   refine RW.done ?_
   refine NW.norm_block (NW.next ?_)
   refine CW.lex [.W, .W] rfl ?_
   refine RW.pure tabOk 2 rfl ?_
   refine RW.done ?_
   have h8 := ((((gF1_0.ext x1).turnB x2 h2 ⟨.inr (by omega), trivial⟩).ext x3).ext x4).ext x5
   have h9 := Ext.trans (Ext.trans (Ext.trans (Ext.turnB (Ext.trans x0_0 x1) x2 (by omega)) x3) x4) x5
   exact NW.J fun a ha => ⟨n1, Nat.lt_succ_self n1, (uor it3_0 (uandn y1 y2)), (w64 (it8_0 + 1)), ha.sub ⟨rfl, rfl, rfl, rfl, trivial⟩, by omega, h8, h9, H⟩
  ·
   rw [if_neg c1] at H
   refine CW.cond_f rfl (decide_eq_false c1) ?_
   refine CW.exit ?_
   refine NW.exit_then (NW.exit_then (NW.exit_hit ?_))
   refine NW.next ?_
   refine CW.seq ?_
   refine CW.lex [.W, .W] rfl ?_
   refine RW.pure tabOk 2 rfl ?_
   refine RW.done ?_
   refine NW.next ?_
   refine CW.ret ?_
   obtain rfl := Option.some.inj H
   exact NW.ret1 rfl (by rfl) ⟨rfl, x0_0⟩

set_option maxHeartbeats 20000000 in
set_option maxRecDepth 100000 in
theorem seg_May.calls (k : Nat) (A1 : Option Addr) (c_1 : Nat) (p0 : List Seg) (r : Bool) (w : World) (hs1 : Sl kSeg w.heap okAll A1 p0) (hl1 : p0.length ≤ c_1) (H : seg_May.f k p0 = some r) :
    Calls Tryd.prog 51 #[.slice A1 p0.length c_1] w fun e w' => e = .returned (.bool r) ∧ Ext w w' := by
 have h1 : Sl kSeg w.heap (okL [(0, some w.heap.size, none)]) A1 p0 := hs1.old _ rfl
 have x0 : Ext w w := Upd.refl _ w
 unfold seg_May.f at H
 refine calls_start Tryd.func51 rfl 56 rfl [.slice A1 p0.length c_1] rfl ?_
 refine CW.seq ?_
 refine CW.lex [.W] rfl ?_
 refine RW.pure tabOk 1 rfl ?_
 refine RW.done ?_
 refine NW.next ?_
 refine CW.seq ?_
 refine CW.seq ?_
 refine CW.lex [.W, .W, .W] rfl ?_
 refine RW.pure tabOk 3 rfl ?_
 refine RW.done ?_
 refine NW.next ?_
 refine CW.block ?_
 refine CW.loop (fun n1 a w1 => ∃ (it7_0 : Int), Sat 56 [(0, .slice A1 p0.length c_1), (5, .slice A1 p0.length c_1), (6, .int .i64 (p0.length : Int)), (7, .int .i64 it7_0)] a ∧ w.heap.size ≤ w1.heap.size ∧ Sl kSeg w1.heap (okL [(0, some w.heap.size, none)]) A1 p0 ∧ Ext w w1 ∧ seg_May.l0 p0 n1 it7_0 = some r) k ?_ ?_
 · exact fun a ha => ⟨0, ha.sub ⟨rfl, rfl, rfl, rfl, trivial⟩, by omega, h1, x0, H⟩
 intro n1 a w1 hI hp
 obtain ⟨it7_0, hS, hle, gF1_0, x0_0, H⟩ := hI
 cases n1 with
 | zero => cases H
 | succ n1 =>
  rw [seg_May.l0] at H
  refine CW.go hp hS ?_
  refine CW.seq ?_
  refine CW.lex [.W] rfl ?_
  refine RW.pure tabOk 1 rfl ?_
  refine RW.done ?_
  refine NW.next ?_
  refine CW.seq ?_
  by_cases c1 : it7_0 < (p0.length : Int)
  ·
   rw [if_pos c1] at H
   refine CW.cond_t rfl (decide_eq_true c1) ?_
   refine CW.skip ?_
   refine NW.next ?_
   refine CW.seq ?_
   refine CW.block ?_
   refine CW.seq ?_
   refine CW.lex [.W, .W, .L, .X, .W, .M] rfl ?_
   refine RW.pure tabOk 1 rfl ?_
   obtain ⟨g1, H⟩ := guard_some H
   obtain ⟨ad1, e1, a1⟩ := kSeg_at gF1_0 g1.1 g1.2
   refine RW.index tabOk g1.1 g1.2 e1 ⟨rfl, rfl, rfl, rfl⟩ rfl rfl rfl rfl rfl rfl ?_
   refine RW.load tabOk [.int .i64 ((rd p0 it7_0).At), .int .i64 ((rd p0 it7_0).Len)] a1 ⟨rfl, rfl, rfl, rfl⟩ rfl rfl rfl rfl ?_
   refine RW.alloc tabOk (.inl rfl) ⟨rfl, rfl, rfl, rfl⟩ rfl rfl ?_
   intro b1 w2 x1 l1 h2
   have sx1 := x1.size
   have ltb1 := h2.lt
   refine RW.pure tabOk 1 rfl ?_
   refine RW.storeBox tabOk h2 [.int .i64 ((rd p0 it7_0).At), .int .i64 ((rd p0 it7_0).Len)] ⟨rfl, rfl, rfl⟩ rfl rfl rfl rfl rfl rfl rfl rfl ?_
   intro w3 x2 h3
   have h4 : Box w3.heap b1 93 [.int .i64 ((rd p0 it7_0).At), .int .i64 ((rd p0 it7_0).Len)] := h3
   have sx2 := x2.size
   refine RW.done ?_
   refine NW.next ?_
   refine CW.seqJ (fun a w4 => ∃ (bt54_1 : Bool), Sat 56 [(0, .slice A1 p0.length c_1), (5, .slice A1 p0.length c_1), (6, .int .i64 (p0.length : Int)), (7, .int .i64 it7_0), (54, .bool bt54_1)] a ∧ w3.heap.size ≤ w4.heap.size ∧ Sl kSeg w4.heap (okL [(0, some w.heap.size, none)]) A1 p0 ∧ Ext w w4 ∧ seg_May.j0 it7_0 (seg_May.l0 p0 n1) bt54_1 = some r) ?_ ?_
   ·
    refine CW.ord [0, 1, 3, 7, 15, 31, 63, 127, 255, 511, 1023, 2047, 4095, 8191, 16383, 32767, 16383, 81919, 212991, 524287, 1048575, 2097151, 4194303, 8388607, 16777215, 33554431, 67108863, 33554431, 33554431, 301989887, 973078527, 2046820351, 4194303999, 33554431, 33554431, 17213423615, 60163096575, 128882573311, 266321526783, 549655150591, 1099511627775, 2199023255551, 4398046511103] (ofL [(0, .W), (1, .L), (2, .W), (3, .W), (4, .W), (5, .L), (6, .W), (7, .W), (8, .W), (9, .W), (10, .L), (11, .W), (12, .W), (13, .W), (14, .W), (16, .W), (15, .L), (17, .L), (18, .W), (19, .W), (20, .W), (21, .W), (22, .W), (23, .W), (24, .W), (25, .W), (27, .W), (28, .W), (29, .W), (30, .W), (31, .W), (33, .W), (34, .W), (35, .W), (36, .W), (37, .W), (26, .L), (32, .L), (38, .L), (39, .W), (40, .W), (41, .W), (42, .W)] .nil) mixed (by kernel_rfl) ?_
    intro w5 x3
    have sx3 := x3.size
    refine RW.pure tabOk 1 rfl ?_
    have h5 := h4.ext x3
    refine RW.load tabOk [.int .i64 ((rd p0 it7_0).At)] ((h5.at 0).take 1 rfl) ⟨rfl, rfl, rfl, rfl⟩ rfl rfl rfl rfl ?_
    refine RW.pure tabOk 2 rfl ?_
    by_cases c2 : ((rd p0 it7_0).At) < 0
    ·
     rw [if_pos c2] at H
     refine RW.bool 15 (b' := true) (decide_eq_true c2) rfl ?_
     refine RW.pure tabOk 39 rfl ?_
     refine RW.done ?_
     have h6 := ((gF1_0.ext x1).turnB x2 h2 ⟨.inr (by omega), trivial⟩).ext x3
     have h7 := Ext.trans (Ext.turnB (Ext.trans x0_0 x1) x2 (by omega)) x3
     exact NW.J fun a ha => ⟨true, ha.sub ⟨rfl, rfl, rfl, rfl, rfl, trivial⟩, by omega, h6, h7, H⟩
    ·
     rw [if_neg c2] at H
     refine RW.bool 15 (b' := false) (decide_eq_false c2) rfl ?_
     refine RW.pure tabOk 1 rfl ?_
     refine RW.load tabOk [.int .i64 ((rd p0 it7_0).Len)] (h5.at 1) ⟨rfl, rfl, rfl, rfl⟩ rfl rfl rfl rfl ?_
     refine RW.pure tabOk 3 rfl ?_
     by_cases c3 : ((rd p0 it7_0).Len) < 1
     ·
      rw [if_pos c3] at H
      refine RW.bool 20 (b' := true) (decide_eq_true c3) rfl ?_
      refine RW.pure tabOk 34 rfl ?_
      refine RW.done ?_
      have h8 := ((gF1_0.ext x1).turnB x2 h2 ⟨.inr (by omega), trivial⟩).ext x3
      have h9 := Ext.trans (Ext.turnB (Ext.trans x0_0 x1) x2 (by omega)) x3
      exact NW.J fun a ha => ⟨true, ha.sub ⟨rfl, rfl, rfl, rfl, rfl, trivial⟩, by omega, h8, h9, H⟩
     ·
      rw [if_neg c3] at H
      refine RW.bool 20 (b' := false) (decide_eq_false c3) rfl ?_
      refine RW.pure tabOk 1 rfl ?_
      refine RW.load tabOk [.int .i64 ((rd p0 it7_0).At)] ((h5.at 0).take 1 rfl) ⟨rfl, rfl, rfl, rfl⟩ rfl rfl rfl rfl ?_
      refine RW.pure tabOk 3 rfl ?_
      by_cases c4 : 64 < ((rd p0 it7_0).At)
      ·
       rw [if_pos c4] at H
       refine RW.bool 25 (b' := true) (decide_eq_true c4) rfl ?_
       refine RW.pure tabOk 29 rfl ?_
       refine RW.done ?_
       have h10 := ((gF1_0.ext x1).turnB x2 h2 ⟨.inr (by omega), trivial⟩).ext x3
       have h11 := Ext.trans (Ext.turnB (Ext.trans x0_0 x1) x2 (by omega)) x3
       exact NW.J fun a ha => ⟨true, ha.sub ⟨rfl, rfl, rfl, rfl, rfl, trivial⟩, by omega, h10, h11, H⟩
      ·
       rw [if_neg c4] at H
       refine RW.bool 25 (b' := false) (decide_eq_false c4) rfl ?_
       refine RW.pure tabOk 2 rfl ?_
       refine RW.load tabOk [.int .i64 ((rd p0 it7_0).Len)] (h5.at 1) ⟨rfl, rfl, rfl, rfl⟩ rfl rfl rfl rfl ?_
       refine RW.load tabOk [.int .i64 ((rd p0 it7_0).At)] ((h5.at 0).take 1 rfl) ⟨rfl, rfl, rfl, rfl⟩ rfl rfl rfl rfl ?_
       refine RW.pure tabOk 4 rfl ?_
       by_cases c5 : (w64 (64 - ((rd p0 it7_0).At))) < ((rd p0 it7_0).Len)
       ·
        rw [if_pos c5] at H
        refine RW.bool 33 (b' := true) (decide_eq_true c5) rfl ?_
        refine RW.pure tabOk 21 rfl ?_
        refine RW.done ?_
        have h12 := ((gF1_0.ext x1).turnB x2 h2 ⟨.inr (by omega), trivial⟩).ext x3
        have h13 := Ext.trans (Ext.turnB (Ext.trans x0_0 x1) x2 (by omega)) x3
        exact NW.J fun a ha => ⟨true, ha.sub ⟨rfl, rfl, rfl, rfl, rfl, trivial⟩, by omega, h12, h13, H⟩
       ·
        rw [if_neg c5] at H
        refine RW.bool 33 (b' := false) (decide_eq_false c5) rfl ?_
        refine RW.pure tabOk 3 rfl ?_
        by_cases c6 : 0 < it7_0
        ·
         rw [if_pos c6] at H
         refine RW.bool 36 (b' := true) (decide_eq_true c6) rfl ?_
         refine RW.pure tabOk 4 rfl ?_
         obtain ⟨g2, H⟩ := guard_some H
         have h14 := ((gF1_0.ext x1).turnB x2 h2 ⟨.inr (by omega), trivial⟩).ext x3
         obtain ⟨ad2, e2, a2⟩ := kSeg_at h14 g2.1 g2.2
         refine RW.index tabOk g2.1 g2.2 e2 ⟨rfl, rfl, rfl, rfl⟩ rfl rfl rfl rfl rfl rfl ?_
         refine RW.pure tabOk 4 rfl ?_
         obtain ⟨g3, H⟩ := guard_some H
         obtain ⟨ad3, e3, a3⟩ := kSeg_at h14 g3.1 g3.2
         refine RW.index tabOk g3.1 g3.2 e3 ⟨rfl, rfl, rfl, rfl⟩ rfl rfl rfl rfl rfl rfl ?_
         refine RW.pure tabOk 1 rfl ?_
         refine RW.load tabOk [.int .i64 ((rd p0 it7_0).At)] ((h5.at 0).take 1 rfl) ⟨rfl, rfl, rfl, rfl⟩ rfl rfl rfl rfl ?_
         refine RW.load tabOk [.int .i64 ((rd p0 (w64 (it7_0 - 1))).At)] ((a2.fld 0).take 1 rfl) ⟨rfl, rfl, rfl, rfl⟩ rfl rfl rfl rfl ?_
         refine RW.load tabOk [.int .i64 ((rd p0 (w64 (it7_0 - 1))).Len)] (a3.fld 1) ⟨rfl, rfl, rfl, rfl⟩ rfl rfl rfl rfl ?_
         refine RW.pure tabOk 4 rfl ?_
         refine RW.done ?_
         have h15 := Ext.trans (Ext.turnB (Ext.trans x0_0 x1) x2 (by omega)) x3
         exact NW.J fun a ha => ⟨(decide (((rd p0 it7_0).At) ≤ (w64 (((rd p0 (w64 (it7_0 - 1))).At) + ((rd p0 (w64 (it7_0 - 1))).Len))))), ha.sub ⟨rfl, rfl, rfl, rfl, rfl, trivial⟩, by omega, h14, h15, H⟩
        ·
         rw [if_neg c6] at H
         refine RW.bool 36 (b' := false) (decide_eq_false c6) rfl ?_
         refine RW.pure tabOk 18 rfl ?_
         refine RW.done ?_
         have h16 := ((gF1_0.ext x1).turnB x2 h2 ⟨.inr (by omega), trivial⟩).ext x3
         have h17 := Ext.trans (Ext.turnB (Ext.trans x0_0 x1) x2 (by omega)) x3
         exact NW.J fun a ha => ⟨false, ha.sub ⟨rfl, rfl, rfl, rfl, rfl, trivial⟩, by omega, h16, h17, H⟩
   intro a w4 hJ hp
   obtain ⟨bt54_1, hS, hle, gF1_1, x0_1, H⟩ := hJ
   unfold seg_May.j0 at H
   refine CW.go hp hS ?_
   by_cases c7 : bt54_1 = true
   ·
    rw [if_pos c7] at H
    refine CW.cond_t rfl (c7) ?_
    refine CW.seq ?_
    refine CW.lex [.W] rfl ?_
    refine RW.pure tabOk 1 rfl ?_
    refine RW.done ?_
    refine NW.next ?_
    refine CW.ret ?_
    refine NW.ret_block (NW.ret_then (NW.ret_then (NW.ret_block (NW.ret_then ?_))))
    obtain rfl := Option.some.inj H
    exact NW.ret1 rfl (by rfl) ⟨rfl, x0_1⟩
   ·
    rw [if_neg c7] at H
    refine CW.cond_f rfl (bool_f c7) ?_
    refine CW.skip ?_
    refine NW.norm_block (NW.next ?_)
    refine CW.lex [.W, .W] rfl ?_
    refine RW.pure tabOk 2 rfl ?_
    refine RW.done ?_
    exact NW.J fun a ha => ⟨n1, Nat.lt_succ_self n1, (w64 (it7_0 + 1)), ha.sub ⟨rfl, rfl, rfl, rfl, trivial⟩, by omega, gF1_1, x0_1, H⟩
  ·
   rw [if_neg c1] at H
   refine CW.cond_f rfl (decide_eq_false c1) ?_
   refine CW.exit ?_
   refine NW.exit_then (NW.exit_then (NW.exit_hit ?_))
   refine NW.next ?_
   refine CW.seq ?_
   refine CW.lex [.W] rfl ?_
   refine RW.pure tabOk 1 rfl ?_
   refine RW.done ?_
   refine NW.next ?_
   refine CW.ret ?_
   obtain rfl := Option.some.inj H
   exact NW.ret1 rfl (by rfl) ⟨rfl, x0_0⟩

set_option maxHeartbeats 20000000 in
set_option maxRecDepth 100000 in
theorem room_ok.calls (k : Nat) (A1 : Option Addr) (c_1 : Nat) (p0 : List Seg) (p1 : Int) (r : Bool) (w : World) (hs1 : Sl kSeg w.heap okAll A1 p0) (hl1 : p0.length ≤ c_1) (H : room_ok.f k p0 p1 = some r) :
    Calls Tryd.prog 101 #[.slice A1 p0.length c_1, .int .i64 p1] w fun e w' => e = .returned (.bool r) ∧ Ext w w' := by
 have h1 : Sl kSeg w.heap (okL [(0, some w.heap.size, none)]) A1 p0 := hs1.old _ rfl
 have x0 : Ext w w := Upd.refl _ w
 unfold room_ok.f at H
 refine calls_start Tryd.func101 rfl 15 rfl [.slice A1 p0.length c_1, .int .i64 p1] rfl ?_
 refine CW.seq ?_
 refine CW.lex [.W] rfl ?_
 refine RW.pure tabOk 1 rfl ?_
 refine RW.done ?_
 refine NW.next ?_
 refine CW.seq ?_
 refine CW.lex [.W, .X, .W, .W, .X, .W, .X, .W, .W, .W, .W] rfl ?_
 refine RW.pure tabOk 1 rfl ?_
 obtain ⟨y1, h2, H⟩ := bind_some H
 refine RW.callF (.inl rfl) ent51 ⟨rfl, rfl, rfl, rfl⟩ rfl rfl (seg_May.calls k A1 c_1 p0 _ _ h1.all hl1 h2) ?_
 rintro _ w1 ⟨rfl, x1⟩
 refine ⟨_, rfl, x1, ?_⟩
 have sx1 := x1.size
 refine RW.pure tabOk 1 rfl ?_
 by_cases c1 : y1 = true
 ·
  rw [if_pos c1] at H
  refine RW.bool 7 (b' := true) (c1) rfl ?_
  refine RW.pure tabOk 1 rfl ?_
  have h3 := h1.ext x1
  obtain ⟨y2, h4, H⟩ := bind_some H
  refine RW.callF (.inl rfl) ent52 ⟨rfl, rfl, rfl, rfl⟩ rfl rfl (seg_Make.calls k A1 c_1 p0 _ _ h3.all hl1 h4) ?_
  rintro _ w2 ⟨rfl, x2⟩
  refine ⟨_, rfl, x2, ?_⟩
  have sx2 := x2.size
  refine RW.pure tabOk 1 rfl ?_
  obtain ⟨y3, h5, H⟩ := bind_some H
  refine RW.callF (.inl rfl) ent58 ⟨rfl, rfl, rfl, rfl⟩ rfl rfl (seg_To.calls p1 _ _ h5) ?_
  rintro _ w3 ⟨rfl, x3⟩
  refine ⟨_, rfl, x3, ?_⟩
  have sx3 := x3.size
  refine RW.pure tabOk 4 rfl ?_
  refine RW.done ?_
  refine NW.next ?_
  refine CW.ret ?_
  obtain rfl := Option.some.inj H
  have h6 := Ext.trans (Ext.trans (Ext.trans x0 x1) x2) x3
  exact NW.ret1 rfl (by rfl) ⟨rfl, h6⟩
 ·
  rw [if_neg c1] at H
  refine RW.bool 7 (b' := false) (bool_f c1) rfl ?_
  refine RW.pure tabOk 8 rfl ?_
  refine RW.done ?_
  refine NW.next ?_
  refine CW.ret ?_
  obtain rfl := Option.some.inj H
  have h7 := Ext.trans x0 x1
  exact NW.ret1 rfl (by rfl) ⟨rfl, h7⟩

set_option maxHeartbeats 20000000 in
set_option maxRecDepth 100000 in
theorem room_Device.calls (k : Nat) (p0 : Device) (A1 : Option Addr) (c_1 : Nat) (A2 : Option Addr) (c_2 : Nat) (r : Bool) (w : World) (hs1 : Sl kSeg w.heap okAll A1 p0.Free) (hl1 : p0.Free.length ≤ c_1) (hs2 : Sl kSeg w.heap okAll A2 p0.Late) (hl2 : p0.Late.length ≤ c_2) (H : room_Device.f k p0 = some r) :
    Calls Tryd.prog 82 #[.agg #[.int .i64 p0.ID, .int .i64 p0.Size, .slice A1 p0.Free.length c_1, .slice A2 p0.Late.length c_2]] w fun e w' => e = .returned (.bool r) ∧ Ext w w' := by
 have h1 : Sl kSeg w.heap (okL [(0, some w.heap.size, none)]) A1 p0.Free := hs1.old _ rfl
 have h2 : Sl kSeg w.heap (okL [(0, some w.heap.size, none)]) A2 p0.Late := hs2.old _ rfl
 have x0 : Ext w w := Upd.refl _ w
 unfold room_Device.f at H
 refine calls_start Tryd.func82 rfl 45 rfl [.agg #[.int .i64 p0.ID, .int .i64 p0.Size, .slice A1 p0.Free.length c_1, .slice A2 p0.Late.length c_2]] rfl ?_
 refine CW.seq ?_
 refine CW.lex [.X, .W] rfl ?_
 refine RW.box (cs := [.int .i64 p0.ID, .int .i64 p0.Size, .slice A1 p0.Free.length c_1, .slice A2 p0.Late.length c_2]) (.inl rfl) ⟨rfl, rfl, rfl, rfl⟩ rfl rfl rfl ?_
 intro b1 w1 x1 l1 h3
 have sx1 := x1.size
 have ltb1 := h3.lt
 refine RW.pure tabOk 1 rfl ?_
 refine RW.done ?_
 refine NW.next ?_
 refine CW.seq ?_
 refine CW.ord [0, 1, 3, 7, 15, 31, 63, 127, 255, 511, 1023, 2047, 4095, 8191, 16383, 32767, 65535, 131071, 262143, 524287, 1048575, 524287, 2621439, 8388607, 16777215, 33554431, 67108863, 134217727, 67108863, 335544319, 1073741823, 2147483647, 4294967295, 8589934591, 17179869183, 34359738367, 8589934591, 77309411327, 274877906943, 549755813887, 1099511627775, 2199023255551, 4398046511103] (ofL [(0, .W), (1, .L), (2, .W), (3, .W), (4, .W), (5, .L), (6, .W), (7, .W), (8, .W), (9, .W), (10, .L), (11, .W), (12, .W), (13, .W), (14, .W), (15, .L), (16, .W), (17, .W), (18, .W), (19, .W), (21, .W), (20, .L), (22, .L), (23, .X), (24, .W), (25, .W), (26, .W), (28, .W), (27, .L), (29, .L), (30, .X), (31, .W), (32, .W), (33, .W), (36, .W), (34, .L), (37, .L), (35, .X), (38, .X), (39, .W), (40, .W), (41, .W), (42, .W)] .nil) mixed (by kernel_rfl) ?_
 intro w2 x2
 have sx2 := x2.size
 refine RW.pure tabOk 1 rfl ?_
 have h4 := h3.ext x2
 refine RW.load tabOk [.int .i64 p0.ID] ((h4.at 0).take 1 rfl) ⟨rfl, rfl, rfl, rfl⟩ rfl rfl rfl rfl ?_
 refine RW.pure tabOk 2 rfl ?_
 by_cases c1 : 1 ≤ p0.ID
 ·
  rw [if_pos c1] at H
  refine RW.bool 6 (b' := true) (decide_eq_true c1) rfl ?_
  refine RW.pure tabOk 1 rfl ?_
  refine RW.load tabOk [.int .i64 p0.ID] ((h4.at 0).take 1 rfl) ⟨rfl, rfl, rfl, rfl⟩ rfl rfl rfl rfl ?_
  refine RW.pure tabOk 3 rfl ?_
  by_cases c2 : p0.ID ≤ 40
  ·
   rw [if_pos c2] at H
   refine RW.bool 11 (b' := true) (decide_eq_true c2) rfl ?_
   refine RW.pure tabOk 1 rfl ?_
   refine RW.load tabOk [.int .i64 p0.Size] ((h4.at 1).take 1 rfl) ⟨rfl, rfl, rfl, rfl⟩ rfl rfl rfl rfl ?_
   refine RW.pure tabOk 3 rfl ?_
   by_cases c3 : 1 ≤ p0.Size
   ·
    rw [if_pos c3] at H
    refine RW.bool 16 (b' := true) (decide_eq_true c3) rfl ?_
    refine RW.pure tabOk 1 rfl ?_
    refine RW.load tabOk [.int .i64 p0.Size] ((h4.at 1).take 1 rfl) ⟨rfl, rfl, rfl, rfl⟩ rfl rfl rfl rfl ?_
    refine RW.pure tabOk 3 rfl ?_
    by_cases c4 : p0.Size ≤ 64
    ·
     rw [if_pos c4] at H
     refine RW.bool 21 (b' := true) (decide_eq_true c4) rfl ?_
     refine RW.pure tabOk 2 rfl ?_
     refine RW.load tabOk [.slice A1 p0.Free.length c_1] ((h4.at 2).take 1 rfl) ⟨rfl, rfl, rfl, rfl⟩ rfl rfl rfl rfl ?_
     refine RW.load tabOk [.int .i64 p0.Size] ((h4.at 1).take 1 rfl) ⟨rfl, rfl, rfl, rfl⟩ rfl rfl rfl rfl ?_
     have h5 := (h1.ext x1).ext x2
     obtain ⟨y1, h6, H⟩ := bind_some H
     refine RW.callF (.inl rfl) ent101 ⟨rfl, rfl, rfl, rfl⟩ rfl rfl (room_ok.calls k A1 c_1 p0.Free p0.Size _ _ h5.all hl1 h6) ?_
     rintro _ w3 ⟨rfl, x3⟩
     refine ⟨_, rfl, x3, ?_⟩
     have sx3 := x3.size
     refine RW.pure tabOk 2 rfl ?_
     by_cases c5 : y1 = true
     ·
      rw [if_pos c5] at H
      refine RW.bool 28 (b' := true) (c5) rfl ?_
      refine RW.pure tabOk 2 rfl ?_
      have h7 := h4.ext x3
      refine RW.load tabOk [.slice A2 p0.Late.length c_2] (h7.at 3) ⟨rfl, rfl, rfl, rfl⟩ rfl rfl rfl rfl ?_
      refine RW.load tabOk [.int .i64 p0.Size] ((h7.at 1).take 1 rfl) ⟨rfl, rfl, rfl, rfl⟩ rfl rfl rfl rfl ?_
      have h8 := ((h2.ext x1).ext x2).ext x3
      obtain ⟨y2, h9, H⟩ := bind_some H
      refine RW.callF (.inl rfl) ent101 ⟨rfl, rfl, rfl, rfl⟩ rfl rfl (room_ok.calls k A2 c_2 p0.Late p0.Size _ _ h8.all hl2 h9) ?_
      rintro _ w4 ⟨rfl, x4⟩
      refine ⟨_, rfl, x4, ?_⟩
      have sx4 := x4.size
      refine RW.pure tabOk 2 rfl ?_
      by_cases c6 : y2 = true
      ·
       rw [if_pos c6] at H
       refine RW.bool 35 (b' := true) (c6) rfl ?_
       refine RW.pure tabOk 2 rfl ?_
       have h10 := h7.ext x4
       refine RW.load tabOk [.slice A1 p0.Free.length c_1] ((h10.at 2).take 1 rfl) ⟨rfl, rfl, rfl, rfl⟩ rfl rfl rfl rfl ?_
       refine RW.load tabOk [.slice A2 p0.Late.length c_2] (h10.at 3) ⟨rfl, rfl, rfl, rfl⟩ rfl rfl rfl rfl ?_
       have h11 := (h5.ext x3).ext x4
       obtain ⟨y3, h12, H⟩ := bind_some H
       refine RW.callF (.inl rfl) ent52 ⟨rfl, rfl, rfl, rfl⟩ rfl rfl (seg_Make.calls k A1 c_1 p0.Free _ _ h11.all hl1 h12) ?_
       rintro _ w5 ⟨rfl, x5⟩
       refine ⟨_, rfl, x5, ?_⟩
       have sx5 := x5.size
       have h13 := (h8.ext x4).ext x5
       obtain ⟨y4, h14, H⟩ := bind_some H
       refine RW.callF (.inl rfl) ent52 ⟨rfl, rfl, rfl, rfl⟩ rfl rfl (seg_Make.calls k A2 c_2 p0.Late _ _ h13.all hl2 h14) ?_
       rintro _ w6 ⟨rfl, x6⟩
       refine ⟨_, rfl, x6, ?_⟩
       have sx6 := x6.size
       refine RW.pure tabOk 4 rfl ?_
       refine RW.done ?_
       refine NW.next ?_
       refine CW.ret ?_
       obtain rfl := Option.some.inj H
       have h15 := Ext.trans (Ext.trans (Ext.trans (Ext.trans (Ext.trans (Ext.trans x0 x1) x2) x3) x4) x5) x6
       exact NW.ret1 rfl (by rfl) ⟨rfl, h15⟩
      ·
       rw [if_neg c6] at H
       refine RW.bool 35 (b' := false) (bool_f c6) rfl ?_
       refine RW.pure tabOk 10 rfl ?_
       refine RW.done ?_
       refine NW.next ?_
       refine CW.ret ?_
       obtain rfl := Option.some.inj H
       have h16 := Ext.trans (Ext.trans (Ext.trans (Ext.trans x0 x1) x2) x3) x4
       exact NW.ret1 rfl (by rfl) ⟨rfl, h16⟩
     ·
      rw [if_neg c5] at H
      refine RW.bool 28 (b' := false) (bool_f c5) rfl ?_
      refine RW.pure tabOk 17 rfl ?_
      refine RW.done ?_
      refine NW.next ?_
      refine CW.ret ?_
      obtain rfl := Option.some.inj H
      have h17 := Ext.trans (Ext.trans (Ext.trans x0 x1) x2) x3
      exact NW.ret1 rfl (by rfl) ⟨rfl, h17⟩
    ·
     rw [if_neg c4] at H
     refine RW.bool 21 (b' := false) (decide_eq_false c4) rfl ?_
     refine RW.pure tabOk 24 rfl ?_
     refine RW.done ?_
     refine NW.next ?_
     refine CW.ret ?_
     obtain rfl := Option.some.inj H
     have h18 := Ext.trans (Ext.trans x0 x1) x2
     exact NW.ret1 rfl (by rfl) ⟨rfl, h18⟩
   ·
    rw [if_neg c3] at H
    refine RW.bool 16 (b' := false) (decide_eq_false c3) rfl ?_
    refine RW.pure tabOk 29 rfl ?_
    refine RW.done ?_
    refine NW.next ?_
    refine CW.ret ?_
    obtain rfl := Option.some.inj H
    have h19 := Ext.trans (Ext.trans x0 x1) x2
    exact NW.ret1 rfl (by rfl) ⟨rfl, h19⟩
  ·
   rw [if_neg c2] at H
   refine RW.bool 11 (b' := false) (decide_eq_false c2) rfl ?_
   refine RW.pure tabOk 34 rfl ?_
   refine RW.done ?_
   refine NW.next ?_
   refine CW.ret ?_
   obtain rfl := Option.some.inj H
   have h20 := Ext.trans (Ext.trans x0 x1) x2
   exact NW.ret1 rfl (by rfl) ⟨rfl, h20⟩
 ·
  rw [if_neg c1] at H
  refine RW.bool 6 (b' := false) (decide_eq_false c1) rfl ?_
  refine RW.pure tabOk 39 rfl ?_
  refine RW.done ?_
  refine NW.next ?_
  refine CW.ret ?_
  obtain rfl := Option.some.inj H
  have h21 := Ext.trans (Ext.trans x0 x1) x2
  exact NW.ret1 rfl (by rfl) ⟨rfl, h21⟩

set_option maxHeartbeats 20000000 in
set_option maxRecDepth 100000 in
theorem room_May.calls (k : Nat) (A1 : Option Addr) (c_1 : Nat) (p0 : List Device) (r : Bool) (w : World) (hs1 : Sl kDeviceR w.heap okAll A1 p0) (hl1 : p0.length ≤ c_1) (H : room_May.f k p0 = some r) :
    Calls Tryd.prog 66 #[.slice A1 p0.length c_1] w fun e w' => e = .returned (.bool r) ∧ Ext w w' := by
 have h1 : Sl kDeviceR w.heap (okL [(0, some w.heap.size, none)]) A1 p0 := hs1.old _ rfl
 have x0 : Ext w w := Upd.refl _ w
 unfold room_May.f at H
 refine calls_start Tryd.func66 rfl 34 rfl [.slice A1 p0.length c_1] rfl ?_
 refine CW.seq ?_
 refine CW.lex [.W] rfl ?_
 refine RW.pure tabOk 1 rfl ?_
 refine RW.done ?_
 refine NW.next ?_
 refine CW.seq ?_
 refine CW.seq ?_
 refine CW.lex [.W, .W, .W] rfl ?_
 refine RW.pure tabOk 3 rfl ?_
 refine RW.done ?_
 refine NW.next ?_
 by_cases c1 : 6 < (p0.length : Int)
 ·
  rw [if_pos c1] at H
  refine CW.cond_t rfl (decide_eq_true c1) ?_
  refine CW.seq ?_
  refine CW.lex [.W] rfl ?_
  refine RW.pure tabOk 1 rfl ?_
  refine RW.done ?_
  refine NW.next ?_
  refine CW.ret ?_
  refine NW.ret_then ?_
  obtain rfl := Option.some.inj H
  exact NW.ret1 rfl (by rfl) ⟨rfl, x0⟩
 ·
  rw [if_neg c1] at H
  refine CW.cond_f rfl (decide_eq_false c1) ?_
  refine CW.skip ?_
  refine NW.next ?_
  refine CW.seq ?_
  refine CW.seq ?_
  refine CW.lex [.W, .W, .W] rfl ?_
  refine RW.pure tabOk 3 rfl ?_
  refine RW.done ?_
  refine NW.next ?_
  refine CW.block ?_
  refine CW.loop (fun n1 a w1 => ∃ (it10_0 : Int), Sat 34 [(0, .slice A1 p0.length c_1), (8, .slice A1 p0.length c_1), (9, .int .i64 (p0.length : Int)), (10, .int .i64 it10_0)] a ∧ w.heap.size ≤ w1.heap.size ∧ Sl kDeviceR w1.heap (okL [(0, some w.heap.size, none)]) A1 p0 ∧ Ext w w1 ∧ room_May.l0 p0 k n1 it10_0 = some r) k ?_ ?_
  · exact fun a ha => ⟨0, ha.sub ⟨rfl, rfl, rfl, rfl, trivial⟩, by omega, h1, x0, H⟩
  intro n1 a w1 hI hp
  obtain ⟨it10_0, hS, hle, gF1_0, x0_0, H⟩ := hI
  cases n1 with
  | zero => cases H
  | succ n1 =>
   rw [room_May.l0] at H
   refine CW.go hp hS ?_
   refine CW.seq ?_
   refine CW.lex [.W] rfl ?_
   refine RW.pure tabOk 1 rfl ?_
   refine RW.done ?_
   refine NW.next ?_
   refine CW.seq ?_
   by_cases c2 : it10_0 < (p0.length : Int)
   ·
    rw [if_pos c2] at H
    refine CW.cond_t rfl (decide_eq_true c2) ?_
    refine CW.skip ?_
    refine NW.next ?_
    refine CW.seq ?_
    refine CW.block ?_
    refine CW.seq ?_
    refine CW.lex [.W, .W, .L, .X, .W, .M] rfl ?_
    refine RW.pure tabOk 1 rfl ?_
    obtain ⟨g1, H⟩ := guard_some H
    obtain ⟨ad1, A2, c_2, A3, c_3, e1, a1, l1, h2, l2, h3⟩ := kDeviceR_at gF1_0 g1.1 g1.2
    refine RW.index tabOk g1.1 g1.2 e1 ⟨rfl, rfl, rfl, rfl⟩ rfl rfl rfl rfl rfl rfl ?_
    refine RW.load tabOk [.int .i64 ((rd p0 it10_0).ID), .int .i64 ((rd p0 it10_0).Size), .slice A2 ((rd p0 it10_0).Free).length c_2, .slice A3 ((rd p0 it10_0).Late).length c_3] a1 ⟨rfl, rfl, rfl, rfl⟩ rfl rfl rfl rfl ?_
    refine RW.alloc tabOk (.inl rfl) ⟨rfl, rfl, rfl, rfl⟩ rfl rfl ?_
    intro b1 w2 x1 l3 h4
    have sx1 := x1.size
    have ltb1 := h4.lt
    refine RW.pure tabOk 1 rfl ?_
    refine RW.storeBox tabOk h4 [.int .i64 ((rd p0 it10_0).ID), .int .i64 ((rd p0 it10_0).Size), .slice A2 ((rd p0 it10_0).Free).length c_2, .slice A3 ((rd p0 it10_0).Late).length c_3] ⟨rfl, rfl, rfl⟩ rfl rfl rfl rfl rfl rfl rfl rfl ?_
    intro w3 x2 h5
    have h6 : Box w3.heap b1 84 [.int .i64 ((rd p0 it10_0).ID), .int .i64 ((rd p0 it10_0).Size), .slice A2 ((rd p0 it10_0).Free).length c_2, .slice A3 ((rd p0 it10_0).Late).length c_3] := h5
    have sx2 := x2.size
    refine RW.done ?_
    refine NW.next ?_
    refine CW.seqJ (fun a w4 => ∃ (bt32_1 : Bool), Sat 34 [(0, .slice A1 p0.length c_1), (8, .slice A1 p0.length c_1), (9, .int .i64 (p0.length : Int)), (10, .int .i64 it10_0), (32, .bool bt32_1)] a ∧ w3.heap.size ≤ w4.heap.size ∧ Sl kDeviceR w4.heap (okL [(0, some w.heap.size, none)]) A1 p0 ∧ Ext w w4 ∧ room_May.j0 it10_0 (room_May.l0 p0 k n1) bt32_1 = some r) ?_ ?_
    ·
     refine CW.ord [0, 1, 3, 7, 15, 31, 63, 127, 255, 127, 127, 1151, 3711, 7807, 15999, 32767, 65535, 131071] (ofL [(0, .L), (1, .X), (2, .W), (3, .W), (4, .W), (5, .W), (6, .W), (7, .W), (9, .W), (10, .W), (11, .W), (12, .W), (13, .W), (8, .L), (14, .L), (15, .W), (16, .W), (17, .W)] .nil) mixed (by kernel_rfl) ?_
     intro w5 x3
     have sx3 := x3.size
     have h7 := h6.ext x3
     refine RW.load tabOk [.int .i64 ((rd p0 it10_0).ID), .int .i64 ((rd p0 it10_0).Size), .slice A2 ((rd p0 it10_0).Free).length c_2, .slice A3 ((rd p0 it10_0).Late).length c_3] (h7.at 0) ⟨rfl, rfl, rfl, rfl⟩ rfl rfl rfl rfl ?_
     have h8 := ((h2.ext x1).turnB x2 h4 ⟨.inr (by omega), trivial⟩).ext x3
     have h9 := ((h3.ext x1).turnB x2 h4 ⟨.inr (by omega), trivial⟩).ext x3
     obtain ⟨y1, h10, H⟩ := bind_some H
     refine RW.callF (.inl rfl) ent82 ⟨rfl, rfl, rfl, rfl⟩ rfl rfl (room_Device.calls k (rd p0 it10_0) A2 c_2 A3 c_3 _ _ h8.all l1 h9.all l2 h10) ?_
     rintro _ w6 ⟨rfl, x4⟩
     refine ⟨_, rfl, x4, ?_⟩
     have sx4 := x4.size
     refine RW.pure tabOk 2 rfl ?_
     by_cases c3 : y1 = true
     ·
      rw [if_pos c3] at H
      refine RW.bool 18 (b' := false) (not_f (c3)) rfl ?_
      refine RW.pure tabOk 3 rfl ?_
      by_cases c4 : 0 < it10_0
      ·
       rw [if_pos c4] at H
       refine RW.bool 21 (b' := true) (decide_eq_true c4) rfl ?_
       refine RW.pure tabOk 4 rfl ?_
       obtain ⟨g2, H⟩ := guard_some H
       have h11 := (((gF1_0.ext x1).turnB x2 h4 ⟨.inr (by omega), trivial⟩).ext x3).ext x4
       obtain ⟨ad2, A4, c_4, A5, c_5, e2, a2, l4, h12, l5, h13⟩ := kDeviceR_at h11 g2.1 g2.2
       refine RW.index tabOk g2.1 g2.2 e2 ⟨rfl, rfl, rfl, rfl⟩ rfl rfl rfl rfl rfl rfl ?_
       refine RW.pure tabOk 1 rfl ?_
       have h14 := h7.ext x4
       refine RW.load tabOk [.int .i64 ((rd p0 it10_0).ID)] ((h14.at 0).take 1 rfl) ⟨rfl, rfl, rfl, rfl⟩ rfl rfl rfl rfl ?_
       refine RW.load tabOk [.int .i64 ((rd p0 (w64 (it10_0 - 1))).ID)] ((a2.fld 0).take 1 rfl) ⟨rfl, rfl, rfl, rfl⟩ rfl rfl rfl rfl ?_
       refine RW.pure tabOk 3 rfl ?_
       refine RW.done ?_
       have h15 := Ext.trans (Ext.trans (Ext.turnB (Ext.trans x0_0 x1) x2 (by omega)) x3) x4
       exact NW.J fun a ha => ⟨(decide (((rd p0 it10_0).ID) ≤ ((rd p0 (w64 (it10_0 - 1))).ID))), ha.sub ⟨rfl, rfl, rfl, rfl, rfl, trivial⟩, by omega, h11, h15, H⟩
      ·
       rw [if_neg c4] at H
       refine RW.bool 21 (b' := false) (decide_eq_false c4) rfl ?_
       refine RW.pure tabOk 11 rfl ?_
       refine RW.done ?_
       have h16 := (((gF1_0.ext x1).turnB x2 h4 ⟨.inr (by omega), trivial⟩).ext x3).ext x4
       have h17 := Ext.trans (Ext.trans (Ext.turnB (Ext.trans x0_0 x1) x2 (by omega)) x3) x4
       exact NW.J fun a ha => ⟨false, ha.sub ⟨rfl, rfl, rfl, rfl, rfl, trivial⟩, by omega, h16, h17, H⟩
     ·
      rw [if_neg c3] at H
      refine RW.bool 18 (b' := true) (not_t (bool_f c3)) rfl ?_
      refine RW.pure tabOk 14 rfl ?_
      refine RW.done ?_
      have h18 := (((gF1_0.ext x1).turnB x2 h4 ⟨.inr (by omega), trivial⟩).ext x3).ext x4
      have h19 := Ext.trans (Ext.trans (Ext.turnB (Ext.trans x0_0 x1) x2 (by omega)) x3) x4
      exact NW.J fun a ha => ⟨true, ha.sub ⟨rfl, rfl, rfl, rfl, rfl, trivial⟩, by omega, h18, h19, H⟩
    intro a w4 hJ hp
    obtain ⟨bt32_1, hS, hle, gF1_1, x0_1, H⟩ := hJ
    unfold room_May.j0 at H
    refine CW.go hp hS ?_
    by_cases c5 : bt32_1 = true
    ·
     rw [if_pos c5] at H
     refine CW.cond_t rfl (c5) ?_
     refine CW.seq ?_
     refine CW.lex [.W] rfl ?_
     refine RW.pure tabOk 1 rfl ?_
     refine RW.done ?_
     refine NW.next ?_
     refine CW.ret ?_
     refine NW.ret_block (NW.ret_then (NW.ret_then (NW.ret_block (NW.ret_then ?_))))
     obtain rfl := Option.some.inj H
     exact NW.ret1 rfl (by rfl) ⟨rfl, x0_1⟩
    ·
     rw [if_neg c5] at H
     refine CW.cond_f rfl (bool_f c5) ?_
     refine CW.skip ?_
     refine NW.norm_block (NW.next ?_)
     refine CW.lex [.W, .W] rfl ?_
     refine RW.pure tabOk 2 rfl ?_
     refine RW.done ?_
     exact NW.J fun a ha => ⟨n1, Nat.lt_succ_self n1, (w64 (it10_0 + 1)), ha.sub ⟨rfl, rfl, rfl, rfl, trivial⟩, by omega, gF1_1, x0_1, H⟩
   ·
    rw [if_neg c2] at H
    refine CW.cond_f rfl (decide_eq_false c2) ?_
    refine CW.exit ?_
    refine NW.exit_then (NW.exit_then (NW.exit_hit ?_))
    refine NW.next ?_
    refine CW.seq ?_
    refine CW.lex [.W] rfl ?_
    refine RW.pure tabOk 1 rfl ?_
    refine RW.done ?_
    refine NW.next ?_
    refine CW.ret ?_
    obtain rfl := Option.some.inj H
    exact NW.ret1 rfl (by rfl) ⟨rfl, x0_0⟩

set_option maxHeartbeats 20000000 in
set_option maxRecDepth 100000 in
theorem room_Find_1.calls (p0 : Device) (A1 : Option Addr) (c_1 : Nat) (A2 : Option Addr) (c_2 : Nat) (p1 : Int) (r : Int) (w : World) (hs1 : Sl kSeg w.heap okAll A1 p0.Free) (hl1 : p0.Free.length ≤ c_1) (hs2 : Sl kSeg w.heap okAll A2 p0.Late) (hl2 : p0.Late.length ≤ c_2) (H : room_Find_1.f p0 p1 = some r) :
    Calls Tryd.prog 104 #[.agg #[.int .i64 p0.ID, .int .i64 p0.Size, .slice A1 p0.Free.length c_1, .slice A2 p0.Late.length c_2], .int .i64 p1] w fun e w' => e = .returned (.int .i64 r) ∧ Ext w w' := by
 have h1 : Sl kSeg w.heap (okL [(0, some w.heap.size, none)]) A1 p0.Free := hs1.old _ rfl
 have h2 : Sl kSeg w.heap (okL [(0, some w.heap.size, none)]) A2 p0.Late := hs2.old _ rfl
 have x0 : Ext w w := Upd.refl _ w
 unfold room_Find_1.f at H
 refine calls_start Tryd.func104 rfl 9 rfl [.agg #[.int .i64 p0.ID, .int .i64 p0.Size, .slice A1 p0.Free.length c_1, .slice A2 p0.Late.length c_2], .int .i64 p1] rfl ?_
 refine CW.seq ?_
 refine CW.lex [.X, .W] rfl ?_
 refine RW.box (cs := [.int .i64 p0.ID, .int .i64 p0.Size, .slice A1 p0.Free.length c_1, .slice A2 p0.Late.length c_2]) (.inl rfl) ⟨rfl, rfl, rfl, rfl⟩ rfl rfl rfl ?_
 intro b1 w1 x1 l1 h3
 have sx1 := x1.size
 have ltb1 := h3.lt
 refine RW.pure tabOk 1 rfl ?_
 refine RW.done ?_
 refine NW.next ?_
 refine CW.seq ?_
 refine CW.lex [.W, .L, .W, .W, .W] rfl ?_
 refine RW.pure tabOk 1 rfl ?_
 refine RW.load tabOk [.int .i64 p0.ID] ((h3.at 0).take 1 rfl) ⟨rfl, rfl, rfl, rfl⟩ rfl rfl rfl rfl ?_
 refine RW.pure tabOk 3 rfl ?_
 refine RW.done ?_
 refine NW.next ?_
 refine CW.ret ?_
 obtain rfl := Option.some.inj H
 have h4 := Ext.trans x0 x1
 exact NW.ret1 rfl (by rfl) ⟨rfl, h4⟩

set_option maxHeartbeats 20000000 in
set_option maxRecDepth 100000 in
theorem room_Find.calls (k : Nat) (A1 : Option Addr) (c_1 : Nat) (p0 : List Device) (p1 : Int) (r : Int × Bool) (w : World) (hs1 : Sl kDeviceR w.heap okAll A1 p0) (hl1 : p0.length ≤ c_1) (H : room_Find.f k p0 p1 = some r) :
    Calls Tryd.prog 86 #[.slice A1 p0.length c_1, .int .i64 p1] w fun e w' => e = .returned (.tuple #[.int .i64 r.1, .bool r.2]) ∧ Ext w w' := by
 have h1 : Sl kDeviceR w.heap (okL [(0, some w.heap.size, none)]) A1 p0 := hs1.old _ rfl
 have x0 : Ext w w := Upd.refl _ w
 unfold room_Find.f at H
 refine calls_start Tryd.func86 rfl 11 rfl [.slice A1 p0.length c_1, .int .i64 p1] rfl ?_
 refine CW.seq ?_
 refine CW.lex [.W, .W] rfl ?_
 refine RW.pure tabOk 2 rfl ?_
 refine RW.done ?_
 refine NW.next ?_
 refine CW.seq ?_
 refine CW.lex [.W, .W, .X, .W, .W, .W, .W] rfl ?_
 refine RW.pure tabOk 2 rfl ?_
 have xc1 : Ext w w := Upd.refl _ _
 refine RW.callV (R := fun e w1 => ∃ (it8_0_0 : Int) (bt8_1_0 : Bool), e = .returned (.tuple #[.int .i64 it8_0_0, .bool bt8_1_0]) ∧ w.heap.size ≤ w1.heap.size ∧ Ext w w1 ∧ Ext w w1 ∧ room_Find.j0 it8_0_0 bt8_1_0 = some r) (.inl rfl) ent103 ⟨rfl, rfl, rfl, rfl⟩ rfl rfl rfl ?_ ?_
 ·
  refine calls_start Tryd.func103 rfl 49 rfl [.slice A1 p0.length c_1, .int .i64 p1, .func (.func 104) #[] #[]] rfl ?_
  refine CW.seq ?_
  refine CW.lex [.W, .W] rfl ?_
  refine RW.pure tabOk 2 rfl ?_
  refine RW.done ?_
  refine NW.next ?_
  refine CW.seq ?_
  refine CW.lex [.W, .W, .W] rfl ?_
  refine RW.pure tabOk 3 rfl ?_
  refine RW.done ?_
  refine NW.next ?_
  refine CW.seq ?_
  refine CW.lex [.W, .W, .W] rfl ?_
  refine RW.pure tabOk 3 rfl ?_
  refine RW.done ?_
  refine NW.next ?_
  refine CW.seq ?_
  refine CW.block ?_
  refine CW.loop (fun n1 a w2 => ∃ (it9_1 : Int) (it10_1 : Int), Sat 49 [(0, .slice A1 p0.length c_1), (1, .int .i64 p1), (2, .func (.func 104) #[] #[]), (8, .int .i64 (p0.length : Int)), (9, .int .i64 it9_1), (10, .int .i64 it10_1)] a ∧ w.heap.size ≤ w2.heap.size ∧ Sl kDeviceR w2.heap (okL [(0, some w.heap.size, none)]) A1 p0 ∧ Ext w w2 ∧ Ext w w2 ∧ room_Find.l0 p0 p1 n1 it9_1 it10_1 = some r) k ?_ ?_
  · exact fun a ha => ⟨0, (p0.length : Int), ha.sub ⟨rfl, rfl, rfl, rfl, rfl, rfl, trivial⟩, by omega, h1, x0, xc1, H⟩
  intro n1 a w2 hI hp
  obtain ⟨it9_1, it10_1, hS, hle, gF1_1, x0_1, x_xc1_1, H⟩ := hI
  cases n1 with
  | zero => cases H
  | succ n1 =>
   rw [room_Find.l0] at H
   refine CW.go hp hS ?_
   refine CW.seq ?_
   refine CW.seq ?_
   refine CW.lex [.W, .W, .W] rfl ?_
   refine RW.pure tabOk 3 rfl ?_
   refine RW.done ?_
   refine NW.next ?_
   by_cases c1 : it9_1 < it10_1
   ·
    rw [if_pos c1] at H
    refine CW.cond_t rfl (decide_eq_true c1) ?_
    refine CW.skip ?_
    refine NW.next ?_
    refine CW.block ?_
    refine CW.seq ?_
    refine CW.lex [.W, .W, .W, .W, .W, .W, .W] rfl ?_
    refine RW.pure tabOk 4 rfl ?_
    refine RW.shift (by omega) ⟨rfl, rfl, rfl, rfl⟩ rfl rfl rfl rfl ?_
    refine RW.pure tabOk 2 rfl ?_
    refine RW.done ?_
    refine NW.next ?_
    refine CW.seq ?_
    refine CW.lex [.W, .W, .W, .W, .L, .W, .M, .W] rfl ?_
    refine RW.pure tabOk 3 rfl ?_
    obtain ⟨g1, H⟩ := guard_some H
    obtain ⟨ad1, A2, c_2, A3, c_3, e1, a1, l1, h2, l2, h3⟩ := kDeviceR_at gF1_1 g1.1 g1.2
    refine RW.index tabOk g1.1 g1.2 e1 ⟨rfl, rfl, rfl, rfl⟩ rfl rfl rfl rfl rfl rfl ?_
    refine RW.load tabOk [.int .i64 ((rd p0 (w64 ((wu64 (w64 (it9_1 + it10_1))).fdiv (2 ^ min (1 : Int).toNat 64)))).ID), .int .i64 ((rd p0 (w64 ((wu64 (w64 (it9_1 + it10_1))).fdiv (2 ^ min (1 : Int).toNat 64)))).Size), .slice A2 ((rd p0 (w64 ((wu64 (w64 (it9_1 + it10_1))).fdiv (2 ^ min (1 : Int).toNat 64)))).Free).length c_2, .slice A3 ((rd p0 (w64 ((wu64 (w64 (it9_1 + it10_1))).fdiv (2 ^ min (1 : Int).toNat 64)))).Late).length c_3] a1 ⟨rfl, rfl, rfl, rfl⟩ rfl rfl rfl rfl ?_
    refine RW.pure tabOk 1 rfl ?_
    obtain ⟨y1, h4, H⟩ := bind_some H
    refine RW.callV (cap := []) (.inr rfl) ent104 ⟨rfl, rfl, rfl, rfl⟩ rfl rfl rfl (room_Find_1.calls (rd p0 (w64 ((wu64 (w64 (it9_1 + it10_1))).fdiv (2 ^ min (1 : Int).toNat 64)))) A2 c_2 A3 c_3 p1 _ _ h2.all l1 h3.all l2 h4) ?_
    rintro _ w3 ⟨rfl, x1⟩
    refine ⟨_, rfl, x1, ?_⟩
    have sx1 := x1.size
    refine RW.pure tabOk 1 rfl ?_
    refine RW.done ?_
    refine NW.next ?_
    by_cases c2 : y1 < 0
    ·
     rw [if_pos c2] at H
     refine CW.cond_t rfl (decide_eq_true c2) ?_
     refine CW.lex [.W, .W, .W] rfl ?_
     refine RW.pure tabOk 3 rfl ?_
     refine RW.done ?_
     refine NW.norm_block ?_
     have h5 := gF1_1.ext x1
     have h6 := Ext.trans x0_1 x1
     have h7 := Ext.trans x_xc1_1 x1
     exact NW.J fun a ha => ⟨n1, Nat.lt_succ_self n1, (w64 ((w64 ((wu64 (w64 (it9_1 + it10_1))).fdiv (2 ^ min (1 : Int).toNat 64))) + 1)), it10_1, ha.sub ⟨rfl, rfl, rfl, rfl, rfl, rfl, trivial⟩, by omega, h5, h6, h7, H⟩
    ·
     rw [if_neg c2] at H
     refine CW.cond_f rfl (decide_eq_false c2) ?_
     refine CW.lex [.W, .W] rfl ?_
     refine RW.pure tabOk 2 rfl ?_
     refine RW.done ?_
     refine NW.norm_block ?_
     have h8 := gF1_1.ext x1
     have h9 := Ext.trans x0_1 x1
     have h10 := Ext.trans x_xc1_1 x1
     exact NW.J fun a ha => ⟨n1, Nat.lt_succ_self n1, it9_1, (w64 ((wu64 (w64 (it9_1 + it10_1))).fdiv (2 ^ min (1 : Int).toNat 64))), ha.sub ⟨rfl, rfl, rfl, rfl, rfl, rfl, trivial⟩, by omega, h8, h9, h10, H⟩
   ·
    rw [if_neg c1] at H
    refine CW.cond_f rfl (decide_eq_false c1) ?_
    refine CW.exit ?_
    refine NW.exit_then (NW.exit_then (NW.exit_hit ?_))
    refine NW.next ?_
    refine CW.seq ?_
    refine CW.lex [.W, .W, .W, .W, .W, .W, .W, .W, .W, .L, .W, .M, .W, .W, .W, .W] rfl ?_
    refine RW.pure tabOk 5 rfl ?_
    by_cases c3 : it9_1 < (p0.length : Int)
    ·
     rw [if_pos c3] at H
     refine RW.bool 39 (b' := true) (decide_eq_true c3) rfl ?_
     refine RW.pure tabOk 3 rfl ?_
     obtain ⟨g2, H⟩ := guard_some H
     obtain ⟨ad2, A4, c_4, A5, c_5, e2, a2, l3, h11, l4, h12⟩ := kDeviceR_at gF1_1 g2.1 g2.2
     refine RW.index tabOk g2.1 g2.2 e2 ⟨rfl, rfl, rfl, rfl⟩ rfl rfl rfl rfl rfl rfl ?_
     refine RW.load tabOk [.int .i64 ((rd p0 it9_1).ID), .int .i64 ((rd p0 it9_1).Size), .slice A4 ((rd p0 it9_1).Free).length c_4, .slice A5 ((rd p0 it9_1).Late).length c_5] a2 ⟨rfl, rfl, rfl, rfl⟩ rfl rfl rfl rfl ?_
     refine RW.pure tabOk 1 rfl ?_
     obtain ⟨y2, h13, H⟩ := bind_some H
     refine RW.callV (cap := []) (.inr rfl) ent104 ⟨rfl, rfl, rfl, rfl⟩ rfl rfl rfl (room_Find_1.calls (rd p0 it9_1) A4 c_4 A5 c_5 p1 _ _ h11.all l3 h12.all l4 h13) ?_
     rintro _ w4 ⟨rfl, x2⟩
     refine ⟨_, rfl, x2, ?_⟩
     have sx2 := x2.size
     refine RW.pure tabOk 4 rfl ?_
     refine RW.done ?_
     refine NW.next ?_
     refine CW.ret ?_
     have h14 := Ext.trans x0_1 x2
     have h15 := Ext.trans x_xc1_1 x2
     exact NW.ret2 rfl (by rfl) (by rfl) ⟨it9_1, (y2 == 0), rfl, by omega, h14, h15, H⟩
    ·
     rw [if_neg c3] at H
     refine RW.bool 39 (b' := false) (decide_eq_false c3) rfl ?_
     refine RW.pure tabOk 11 rfl ?_
     refine RW.done ?_
     refine NW.next ?_
     refine CW.ret ?_
     exact NW.ret2 rfl (by rfl) (by rfl) ⟨it9_1, false, rfl, by omega, x0_1, x_xc1_1, H⟩
 rintro _ w1 ⟨it8_0_0, bt8_1_0, rfl, hle, x0_0, x_xc1_0, H⟩
 refine ⟨_, rfl, x_xc1_0, ?_⟩
 unfold room_Find.j0 at H
 refine RW.pure tabOk 4 rfl ?_
 refine RW.done ?_
 refine NW.next ?_
 refine CW.ret ?_
 obtain rfl := Option.some.inj H
 exact NW.ret2 rfl (by rfl) (by rfl) ⟨rfl, x0_0⟩

set_option maxHeartbeats 20000000 in
set_option maxRecDepth 100000 in
theorem chain_device.calls (k : Nat) (p0 : Pool) (A1 : Option Addr) (c_1 : Nat) (A2 : Option Addr) (c_2 : Nat) (A3 : Option Addr) (c_3 : Nat) (p1 : Int) (r : Bool) (w : World) (hs1 : Sl kDeviceR w.heap okAll A1 p0.Devices) (hl1 : p0.Devices.length ≤ c_1) (hs2 : Sl kTableR w.heap okAll A2 p0.Tables) (hl2 : p0.Tables.length ≤ c_2) (hs3 : Sl kEntry w.heap okAll A3 p0.Job.Table.List_) (hl3 : p0.Job.Table.List_.length ≤ c_3) (H : chain_device.f k p0 p1 = some r) :
    Calls Tryd.prog 117 #[.agg #[.slice A1 p0.Devices.length c_1, .slice A2 p0.Tables.length c_2, .int .i64 p0.Job.Dev, .int .i64 p0.Job.At, .int .i64 p0.Job.Table.Dev, .int .i64 p0.Job.Table.Size, .slice A3 p0.Job.Table.List_.length c_3, .int .i64 p0.Next], .int .i64 p1] w fun e w' => e = .returned (.bool r) ∧ Ext w w' := by
 have h1 : Sl kDeviceR w.heap (okL [(0, some w.heap.size, none)]) A1 p0.Devices := hs1.old _ rfl
 have h2 : Sl kTableR w.heap (okL [(0, some w.heap.size, none)]) A2 p0.Tables := hs2.old _ rfl
 have h3 : Sl kEntry w.heap (okL [(0, some w.heap.size, none)]) A3 p0.Job.Table.List_ := hs3.old _ rfl
 have x0 : Ext w w := Upd.refl _ w
 unfold chain_device.f at H
 refine calls_start Tryd.func117 rfl 15 rfl [.agg #[.slice A1 p0.Devices.length c_1, .slice A2 p0.Tables.length c_2, .int .i64 p0.Job.Dev, .int .i64 p0.Job.At, .int .i64 p0.Job.Table.Dev, .int .i64 p0.Job.Table.Size, .slice A3 p0.Job.Table.List_.length c_3, .int .i64 p0.Next], .int .i64 p1] rfl ?_
 refine CW.seq ?_
 refine CW.lex [.X, .W] rfl ?_
 refine RW.box (cs := [.slice A1 p0.Devices.length c_1, .slice A2 p0.Tables.length c_2, .int .i64 p0.Job.Dev, .int .i64 p0.Job.At, .int .i64 p0.Job.Table.Dev, .int .i64 p0.Job.Table.Size, .slice A3 p0.Job.Table.List_.length c_3, .int .i64 p0.Next]) (.inl rfl) ⟨rfl, rfl, rfl, rfl⟩ rfl rfl rfl ?_
 intro b1 w1 x1 l1 h4
 have sx1 := x1.size
 have ltb1 := h4.lt
 refine RW.pure tabOk 1 rfl ?_
 refine RW.done ?_
 refine NW.next ?_
 refine CW.seq ?_
 refine CW.lex [.W, .L, .W, .X, .W, .W, .W, .W, .W] rfl ?_
 refine RW.pure tabOk 1 rfl ?_
 refine RW.load tabOk [.slice A1 p0.Devices.length c_1] ((h4.at 0).take 1 rfl) ⟨rfl, rfl, rfl, rfl⟩ rfl rfl rfl rfl ?_
 refine RW.pure tabOk 1 rfl ?_
 have h5 := h1.ext x1
 obtain ⟨y1, h6, H⟩ := bind_some H
 refine RW.callF (.inl rfl) ent86 ⟨rfl, rfl, rfl, rfl⟩ rfl rfl (room_Find.calls k A1 c_1 p0.Devices p1 _ _ h5.all hl1 h6) ?_
 rintro _ w2 ⟨rfl, x2⟩
 refine ⟨_, rfl, x2, ?_⟩
 have sx2 := x2.size
 refine RW.pure tabOk 5 rfl ?_
 refine RW.done ?_
 refine NW.next ?_
 refine CW.seq ?_
 refine CW.lex [.W, .W] rfl ?_
 refine RW.pure tabOk 2 rfl ?_
 refine RW.done ?_
 refine NW.next ?_
 refine CW.ret ?_
 obtain rfl := Option.some.inj H
 have h7 := Ext.trans (Ext.trans x0 x1) x2
 exact NW.ret1 rfl (by rfl) ⟨rfl, h7⟩

set_option maxHeartbeats 20000000 in
set_option maxRecDepth 100000 in
theorem table_id.calls (p0 : Int) (r : Bool) (w : World) (H : table_id.f p0 = some r) :
    Calls Tryd.prog 135 #[.int .i64 p0] w fun e w' => e = .returned (.bool r) ∧ Ext w w' := by
 have x0 : Ext w w := Upd.refl _ w
 unfold table_id.f at H
 refine calls_start Tryd.func135 rfl 9 rfl [.int .i64 p0] rfl ?_
 refine CW.seq ?_
 refine CW.lex [.W] rfl ?_
 refine RW.pure tabOk 1 rfl ?_
 refine RW.done ?_
 refine NW.next ?_
 refine CW.seq ?_
 refine CW.lex [.W, .W, .W, .W, .W, .W, .W] rfl ?_
 refine RW.pure tabOk 3 rfl ?_
 by_cases c1 : 1 ≤ p0
 ·
  rw [if_pos c1] at H
  refine RW.bool 5 (b' := true) (decide_eq_true c1) rfl ?_
  refine RW.pure tabOk 4 rfl ?_
  refine RW.done ?_
  refine NW.next ?_
  refine CW.ret ?_
  obtain rfl := Option.some.inj H
  exact NW.ret1 rfl (by rfl) ⟨rfl, x0⟩
 ·
  rw [if_neg c1] at H
  refine RW.bool 5 (b' := false) (decide_eq_false c1) rfl ?_
  refine RW.pure tabOk 4 rfl ?_
  refine RW.done ?_
  refine NW.next ?_
  refine CW.ret ?_
  obtain rfl := Option.some.inj H
  exact NW.ret1 rfl (by rfl) ⟨rfl, x0⟩

set_option maxHeartbeats 20000000 in
set_option maxRecDepth 100000 in
theorem table_entry.calls (p0 : Table) (A1 : Option Addr) (c_1 : Nat) (p1 : Entry) (r : Bool) (w : World) (hs1 : Sl kEntry w.heap okAll A1 p0.List_) (hl1 : p0.List_.length ≤ c_1) (H : table_entry.f p0 p1 = some r) :
    Calls Tryd.prog 136 #[.agg #[.int .i64 p0.Dev, .int .i64 p0.Size, .slice A1 p0.List_.length c_1], .agg #[.int .i64 p1.From, .int .i64 p1.Len, .int .i64 p1.Dev, .int .i64 p1.To, .int .i64 p1.Stale]] w fun e w' => e = .returned (.bool r) ∧ Ext w w' := by
 have h1 : Sl kEntry w.heap (okL [(0, some w.heap.size, none)]) A1 p0.List_ := hs1.old _ rfl
 have x0 : Ext w w := Upd.refl _ w
 unfold table_entry.f at H
 refine calls_start Tryd.func136 rfl 72 rfl [.agg #[.int .i64 p0.Dev, .int .i64 p0.Size, .slice A1 p0.List_.length c_1], .agg #[.int .i64 p1.From, .int .i64 p1.Len, .int .i64 p1.Dev, .int .i64 p1.To, .int .i64 p1.Stale]] rfl ?_
 refine CW.seq ?_
 refine CW.lex [.X, .X, .W] rfl ?_
 refine RW.box (cs := [.int .i64 p0.Dev, .int .i64 p0.Size, .slice A1 p0.List_.length c_1]) (.inl rfl) ⟨rfl, rfl, rfl, rfl⟩ rfl rfl rfl ?_
 intro b1 w1 x1 l1 h2
 have sx1 := x1.size
 have ltb1 := h2.lt
 refine RW.box (cs := [.int .i64 p1.From, .int .i64 p1.Len, .int .i64 p1.Dev, .int .i64 p1.To, .int .i64 p1.Stale]) (.inl rfl) ⟨rfl, rfl, rfl, rfl⟩ rfl rfl rfl ?_
 intro b2 w2 x2 l2 h3
 have sx2 := x2.size
 have ltb2 := h3.lt
 refine RW.pure tabOk 1 rfl ?_
 refine RW.done ?_
 refine NW.next ?_
 refine CW.seq ?_
 refine CW.lex [.W, .L, .W, .W, .W, .L, .W, .L, .W, .W, .W, .W, .L, .W, .W, .W, .W, .L, .W, .L, .W, .L, .W, .W, .W, .W, .W, .L, .X, .W, .W, .W, .L, .W, .L, .W, .W, .W, .W, .L, .W, .W, .W, .W, .L, .W, .W, .W, .W, .L, .W, .L, .W, .W, .W, .W, .W, .L, .W, .W, .W, .W, .L, .W, .L, .W, .W, .W] rfl ?_
 refine RW.pure tabOk 1 rfl ?_
 refine RW.load tabOk [.int .i64 p1.From] ((h3.at 0).take 1 rfl) ⟨rfl, rfl, rfl, rfl⟩ rfl rfl rfl rfl ?_
 refine RW.pure tabOk 2 rfl ?_
 by_cases c1 : 0 ≤ p1.From
 ·
  rw [if_pos c1] at H
  refine RW.bool 8 (b' := true) (decide_eq_true c1) rfl ?_
  refine RW.pure tabOk 1 rfl ?_
  refine RW.load tabOk [.int .i64 p1.From] ((h3.at 0).take 1 rfl) ⟨rfl, rfl, rfl, rfl⟩ rfl rfl rfl rfl ?_
  refine RW.pure tabOk 1 rfl ?_
  have h4 := h2.ext x2
  refine RW.load tabOk [.int .i64 p0.Size] ((h4.at 1).take 1 rfl) ⟨rfl, rfl, rfl, rfl⟩ rfl rfl rfl rfl ?_
  refine RW.pure tabOk 3 rfl ?_
  by_cases c2 : p1.From < p0.Size
  ·
   rw [if_pos c2] at H
   refine RW.bool 15 (b' := true) (decide_eq_true c2) rfl ?_
   refine RW.pure tabOk 1 rfl ?_
   refine RW.load tabOk [.int .i64 p1.Len] ((h3.at 1).take 1 rfl) ⟨rfl, rfl, rfl, rfl⟩ rfl rfl rfl rfl ?_
   refine RW.pure tabOk 3 rfl ?_
   by_cases c3 : 1 ≤ p1.Len
   ·
    rw [if_pos c3] at H
    refine RW.bool 20 (b' := true) (decide_eq_true c3) rfl ?_
    refine RW.pure tabOk 1 rfl ?_
    refine RW.load tabOk [.int .i64 p1.Len] ((h3.at 1).take 1 rfl) ⟨rfl, rfl, rfl, rfl⟩ rfl rfl rfl rfl ?_
    refine RW.pure tabOk 1 rfl ?_
    refine RW.load tabOk [.int .i64 p0.Size] ((h4.at 1).take 1 rfl) ⟨rfl, rfl, rfl, rfl⟩ rfl rfl rfl rfl ?_
    refine RW.pure tabOk 1 rfl ?_
    refine RW.load tabOk [.int .i64 p1.From] ((h3.at 0).take 1 rfl) ⟨rfl, rfl, rfl, rfl⟩ rfl rfl rfl rfl ?_
    refine RW.pure tabOk 4 rfl ?_
    by_cases c4 : p1.Len ≤ (w64 (p0.Size - p1.From))
    ·
     rw [if_pos c4] at H
     refine RW.bool 30 (b' := true) (decide_eq_true c4) rfl ?_
     refine RW.pure tabOk 1 rfl ?_
     refine RW.load tabOk [.int .i64 p1.Dev] ((h3.at 2).take 1 rfl) ⟨rfl, rfl, rfl, rfl⟩ rfl rfl rfl rfl ?_
     obtain ⟨y1, h5, H⟩ := bind_some H
     refine RW.callF (.inl rfl) ent135 ⟨rfl, rfl, rfl, rfl⟩ rfl rfl (table_id.calls p1.Dev _ _ h5) ?_
     rintro _ w3 ⟨rfl, x3⟩
     refine ⟨_, rfl, x3, ?_⟩
     have sx3 := x3.size
     refine RW.pure tabOk 2 rfl ?_
     by_cases c5 : y1 = true
     ·
      rw [if_pos c5] at H
      refine RW.bool 35 (b' := true) (c5) rfl ?_
      refine RW.pure tabOk 1 rfl ?_
      have h6 := h3.ext x3
      refine RW.load tabOk [.int .i64 p1.Dev] ((h6.at 2).take 1 rfl) ⟨rfl, rfl, rfl, rfl⟩ rfl rfl rfl rfl ?_
      refine RW.pure tabOk 1 rfl ?_
      have h7 := h4.ext x3
      refine RW.load tabOk [.int .i64 p0.Dev] ((h7.at 0).take 1 rfl) ⟨rfl, rfl, rfl, rfl⟩ rfl rfl rfl rfl ?_
      refine RW.pure tabOk 3 rfl ?_
      by_cases c6 : p1.Dev = p0.Dev
      ·
       rw [if_pos c6] at H
       refine RW.bool 42 (b' := false) (bne_f c6) rfl ?_
       refine RW.pure tabOk 30 rfl ?_
       refine RW.done ?_
       refine NW.next ?_
       refine CW.ret ?_
       obtain rfl := Option.some.inj H
       have h8 := Ext.trans (Ext.trans (Ext.trans x0 x1) x2) x3
       exact NW.ret1 rfl (by rfl) ⟨rfl, h8⟩
      ·
       rw [if_neg c6] at H
       refine RW.bool 42 (b' := true) (bne_t c6) rfl ?_
       refine RW.pure tabOk 1 rfl ?_
       refine RW.load tabOk [.int .i64 p1.To] ((h6.at 3).take 1 rfl) ⟨rfl, rfl, rfl, rfl⟩ rfl rfl rfl rfl ?_
       refine RW.pure tabOk 3 rfl ?_
       by_cases c7 : 0 ≤ p1.To
       ·
        rw [if_pos c7] at H
        refine RW.bool 47 (b' := true) (decide_eq_true c7) rfl ?_
        refine RW.pure tabOk 1 rfl ?_
        refine RW.load tabOk [.int .i64 p1.To] ((h6.at 3).take 1 rfl) ⟨rfl, rfl, rfl, rfl⟩ rfl rfl rfl rfl ?_
        refine RW.pure tabOk 3 rfl ?_
        by_cases c8 : p1.To < 64
        ·
         rw [if_pos c8] at H
         refine RW.bool 52 (b' := true) (decide_eq_true c8) rfl ?_
         refine RW.pure tabOk 1 rfl ?_
         refine RW.load tabOk [.int .i64 p1.Len] ((h6.at 1).take 1 rfl) ⟨rfl, rfl, rfl, rfl⟩ rfl rfl rfl rfl ?_
         refine RW.pure tabOk 1 rfl ?_
         refine RW.load tabOk [.int .i64 p1.To] ((h6.at 3).take 1 rfl) ⟨rfl, rfl, rfl, rfl⟩ rfl rfl rfl rfl ?_
         refine RW.pure tabOk 4 rfl ?_
         by_cases c9 : p1.Len ≤ (w64 (64 - p1.To))
         ·
          rw [if_pos c9] at H
          refine RW.bool 60 (b' := true) (decide_eq_true c9) rfl ?_
          refine RW.pure tabOk 1 rfl ?_
          refine RW.load tabOk [.int .i64 p1.Stale] (h6.at 4) ⟨rfl, rfl, rfl, rfl⟩ rfl rfl rfl rfl ?_
          refine RW.pure tabOk 3 rfl ?_
          by_cases c10 : 0 ≤ p1.Stale
          ·
           rw [if_pos c10] at H
           refine RW.bool 65 (b' := true) (decide_eq_true c10) rfl ?_
           refine RW.pure tabOk 1 rfl ?_
           refine RW.load tabOk [.int .i64 p1.Stale] (h6.at 4) ⟨rfl, rfl, rfl, rfl⟩ rfl rfl rfl rfl ?_
           refine RW.pure tabOk 1 rfl ?_
           refine RW.load tabOk [.int .i64 p1.Len] ((h6.at 1).take 1 rfl) ⟨rfl, rfl, rfl, rfl⟩ rfl rfl rfl rfl ?_
           refine RW.pure tabOk 3 rfl ?_
           refine RW.done ?_
           refine NW.next ?_
           refine CW.ret ?_
           obtain rfl := Option.some.inj H
           have h9 := Ext.trans (Ext.trans (Ext.trans x0 x1) x2) x3
           exact NW.ret1 rfl (by rfl) ⟨rfl, h9⟩
          ·
           rw [if_neg c10] at H
           refine RW.bool 65 (b' := false) (decide_eq_false c10) rfl ?_
           refine RW.pure tabOk 7 rfl ?_
           refine RW.done ?_
           refine NW.next ?_
           refine CW.ret ?_
           obtain rfl := Option.some.inj H
           have h10 := Ext.trans (Ext.trans (Ext.trans x0 x1) x2) x3
           exact NW.ret1 rfl (by rfl) ⟨rfl, h10⟩
         ·
          rw [if_neg c9] at H
          refine RW.bool 60 (b' := false) (decide_eq_false c9) rfl ?_
          refine RW.pure tabOk 12 rfl ?_
          refine RW.done ?_
          refine NW.next ?_
          refine CW.ret ?_
          obtain rfl := Option.some.inj H
          have h11 := Ext.trans (Ext.trans (Ext.trans x0 x1) x2) x3
          exact NW.ret1 rfl (by rfl) ⟨rfl, h11⟩
        ·
         rw [if_neg c8] at H
         refine RW.bool 52 (b' := false) (decide_eq_false c8) rfl ?_
         refine RW.pure tabOk 20 rfl ?_
         refine RW.done ?_
         refine NW.next ?_
         refine CW.ret ?_
         obtain rfl := Option.some.inj H
         have h12 := Ext.trans (Ext.trans (Ext.trans x0 x1) x2) x3
         exact NW.ret1 rfl (by rfl) ⟨rfl, h12⟩
       ·
        rw [if_neg c7] at H
        refine RW.bool 47 (b' := false) (decide_eq_false c7) rfl ?_
        refine RW.pure tabOk 25 rfl ?_
        refine RW.done ?_
        refine NW.next ?_
        refine CW.ret ?_
        obtain rfl := Option.some.inj H
        have h13 := Ext.trans (Ext.trans (Ext.trans x0 x1) x2) x3
        exact NW.ret1 rfl (by rfl) ⟨rfl, h13⟩
     ·
      rw [if_neg c5] at H
      refine RW.bool 35 (b' := false) (bool_f c5) rfl ?_
      refine RW.pure tabOk 37 rfl ?_
      refine RW.done ?_
      refine NW.next ?_
      refine CW.ret ?_
      obtain rfl := Option.some.inj H
      have h14 := Ext.trans (Ext.trans (Ext.trans x0 x1) x2) x3
      exact NW.ret1 rfl (by rfl) ⟨rfl, h14⟩
    ·
     rw [if_neg c4] at H
     refine RW.bool 30 (b' := false) (decide_eq_false c4) rfl ?_
     refine RW.pure tabOk 42 rfl ?_
     refine RW.done ?_
     refine NW.next ?_
     refine CW.ret ?_
     obtain rfl := Option.some.inj H
     have h15 := Ext.trans (Ext.trans x0 x1) x2
     exact NW.ret1 rfl (by rfl) ⟨rfl, h15⟩
   ·
    rw [if_neg c3] at H
    refine RW.bool 20 (b' := false) (decide_eq_false c3) rfl ?_
    refine RW.pure tabOk 52 rfl ?_
    refine RW.done ?_
    refine NW.next ?_
    refine CW.ret ?_
    obtain rfl := Option.some.inj H
    have h16 := Ext.trans (Ext.trans x0 x1) x2
    exact NW.ret1 rfl (by rfl) ⟨rfl, h16⟩
  ·
   rw [if_neg c2] at H
   refine RW.bool 15 (b' := false) (decide_eq_false c2) rfl ?_
   refine RW.pure tabOk 57 rfl ?_
   refine RW.done ?_
   refine NW.next ?_
   refine CW.ret ?_
   obtain rfl := Option.some.inj H
   have h17 := Ext.trans (Ext.trans x0 x1) x2
   exact NW.ret1 rfl (by rfl) ⟨rfl, h17⟩
 ·
  rw [if_neg c1] at H
  refine RW.bool 8 (b' := false) (decide_eq_false c1) rfl ?_
  refine RW.pure tabOk 64 rfl ?_
  refine RW.done ?_
  refine NW.next ?_
  refine CW.ret ?_
  obtain rfl := Option.some.inj H
  have h18 := Ext.trans (Ext.trans x0 x1) x2
  exact NW.ret1 rfl (by rfl) ⟨rfl, h18⟩

set_option maxHeartbeats 20000000 in
set_option maxRecDepth 100000 in
theorem table_end.calls (p0 : Entry) (r : Int) (w : World) (H : table_end.f p0 = some r) :
    Calls Tryd.prog 137 #[.agg #[.int .i64 p0.From, .int .i64 p0.Len, .int .i64 p0.Dev, .int .i64 p0.To, .int .i64 p0.Stale]] w fun e w' => e = .returned (.int .i64 r) ∧ Ext w w' := by
 have x0 : Ext w w := Upd.refl _ w
 unfold table_end.f at H
 refine calls_start Tryd.func137 rfl 8 rfl [.agg #[.int .i64 p0.From, .int .i64 p0.Len, .int .i64 p0.Dev, .int .i64 p0.To, .int .i64 p0.Stale]] rfl ?_
 refine CW.seq ?_
 refine CW.lex [.X, .W] rfl ?_
 refine RW.box (cs := [.int .i64 p0.From, .int .i64 p0.Len, .int .i64 p0.Dev, .int .i64 p0.To, .int .i64 p0.Stale]) (.inl rfl) ⟨rfl, rfl, rfl, rfl⟩ rfl rfl rfl ?_
 intro b1 w1 x1 l1 h1
 have sx1 := x1.size
 have ltb1 := h1.lt
 refine RW.pure tabOk 1 rfl ?_
 refine RW.done ?_
 refine NW.next ?_
 refine CW.seq ?_
 refine CW.lex [.W, .L, .W, .L, .W, .W] rfl ?_
 refine RW.pure tabOk 1 rfl ?_
 refine RW.load tabOk [.int .i64 p0.From] ((h1.at 0).take 1 rfl) ⟨rfl, rfl, rfl, rfl⟩ rfl rfl rfl rfl ?_
 refine RW.pure tabOk 1 rfl ?_
 refine RW.load tabOk [.int .i64 p0.Len] ((h1.at 1).take 1 rfl) ⟨rfl, rfl, rfl, rfl⟩ rfl rfl rfl rfl ?_
 refine RW.pure tabOk 2 rfl ?_
 refine RW.done ?_
 refine NW.next ?_
 refine CW.ret ?_
 obtain rfl := Option.some.inj H
 have h2 := Ext.trans x0 x1
 exact NW.ret1 rfl (by rfl) ⟨rfl, h2⟩

set_option maxHeartbeats 20000000 in
set_option maxRecDepth 100000 in
theorem table_May.calls (k : Nat) (p0 : Table) (A1 : Option Addr) (c_1 : Nat) (r : Bool) (w : World) (hs1 : Sl kEntry w.heap okAll A1 p0.List_) (hl1 : p0.List_.length ≤ c_1) (H : table_May.f k p0 = some r) :
    Calls Tryd.prog 120 #[.agg #[.int .i64 p0.Dev, .int .i64 p0.Size, .slice A1 p0.List_.length c_1]] w fun e w' => e = .returned (.bool r) ∧ Ext w w' := by
 have h1 : Sl kEntry w.heap (okL [(0, some w.heap.size, none)]) A1 p0.List_ := hs1.old _ rfl
 have x0 : Ext w w := Upd.refl _ w
 unfold table_May.f at H
 refine calls_start Tryd.func120 rfl 48 rfl [.agg #[.int .i64 p0.Dev, .int .i64 p0.Size, .slice A1 p0.List_.length c_1]] rfl ?_
 refine CW.seq ?_
 refine CW.lex [.X, .W] rfl ?_
 refine RW.box (cs := [.int .i64 p0.Dev, .int .i64 p0.Size, .slice A1 p0.List_.length c_1]) (.inl rfl) ⟨rfl, rfl, rfl, rfl⟩ rfl rfl rfl ?_
 intro b1 w1 x1 l1 h2
 have sx1 := x1.size
 have ltb1 := h2.lt
 refine RW.pure tabOk 1 rfl ?_
 refine RW.done ?_
 refine NW.next ?_
 refine CW.seq ?_
 refine CW.seqJ (fun a w2 => ∃ (bt18_0 : Bool), Sat 48 [(1, .pointer (some ⟨b1, 0, none⟩)), (18, .bool bt18_0)] a ∧ w1.heap.size ≤ w2.heap.size ∧ Sl kEntry w2.heap (okL [(0, some w.heap.size, none)]) A1 p0.List_ ∧ Ext w w2 ∧ Box w2.heap b1 75 [.int .i64 p0.Dev, .int .i64 p0.Size, .slice A1 p0.List_.length c_1] ∧ table_May.j0 p0 k bt18_0 = some r) ?_ ?_
 ·
  refine CW.lex [.W, .L, .X, .W, .W, .W, .L, .W, .W, .W, .W, .L, .W, .W] rfl ?_
  refine RW.pure tabOk 1 rfl ?_
  refine RW.load tabOk [.int .i64 p0.Dev] ((h2.at 0).take 1 rfl) ⟨rfl, rfl, rfl, rfl⟩ rfl rfl rfl rfl ?_
  obtain ⟨y1, h3, H⟩ := bind_some H
  refine RW.callF (.inl rfl) ent135 ⟨rfl, rfl, rfl, rfl⟩ rfl rfl (table_id.calls p0.Dev _ _ h3) ?_
  rintro _ w3 ⟨rfl, x2⟩
  refine ⟨_, rfl, x2, ?_⟩
  have sx2 := x2.size
  refine RW.pure tabOk 2 rfl ?_
  by_cases c1 : y1 = true
  ·
   rw [if_pos c1] at H
   refine RW.bool 9 (b' := false) (not_f (c1)) rfl ?_
   refine RW.pure tabOk 1 rfl ?_
   have h4 := h2.ext x2
   refine RW.load tabOk [.int .i64 p0.Size] ((h4.at 1).take 1 rfl) ⟨rfl, rfl, rfl, rfl⟩ rfl rfl rfl rfl ?_
   refine RW.pure tabOk 3 rfl ?_
   by_cases c2 : p0.Size < 1
   ·
    rw [if_pos c2] at H
    refine RW.bool 14 (b' := true) (decide_eq_true c2) rfl ?_
    refine RW.pure tabOk 4 rfl ?_
    refine RW.done ?_
    have h5 := (h1.ext x1).ext x2
    have h6 := Ext.trans (Ext.trans x0 x1) x2
    exact NW.J fun a ha => ⟨true, ha.sub ⟨rfl, rfl, trivial⟩, by omega, h5, h6, h4, H⟩
   ·
    rw [if_neg c2] at H
    refine RW.bool 14 (b' := false) (decide_eq_false c2) rfl ?_
    refine RW.pure tabOk 1 rfl ?_
    refine RW.load tabOk [.int .i64 p0.Size] ((h4.at 1).take 1 rfl) ⟨rfl, rfl, rfl, rfl⟩ rfl rfl rfl rfl ?_
    refine RW.pure tabOk 2 rfl ?_
    refine RW.done ?_
    have h7 := (h1.ext x1).ext x2
    have h8 := Ext.trans (Ext.trans x0 x1) x2
    exact NW.J fun a ha => ⟨(decide (64 < p0.Size)), ha.sub ⟨rfl, rfl, trivial⟩, by omega, h7, h8, h4, H⟩
  ·
   rw [if_neg c1] at H
   refine RW.bool 9 (b' := true) (not_t (bool_f c1)) rfl ?_
   refine RW.pure tabOk 9 rfl ?_
   refine RW.done ?_
   have h9 := (h1.ext x1).ext x2
   have h10 := Ext.trans (Ext.trans x0 x1) x2
   have h11 := h2.ext x2
   exact NW.J fun a ha => ⟨true, ha.sub ⟨rfl, rfl, trivial⟩, by omega, h9, h10, h11, H⟩
 intro a w2 hJ hp
 obtain ⟨bt18_0, hS, hle, gF1_0, x0_0, gb1_0, H⟩ := hJ
 unfold table_May.j0 at H
 refine CW.go hp hS ?_
 by_cases c3 : bt18_0 = true
 ·
  rw [if_pos c3] at H
  refine CW.cond_t rfl (c3) ?_
  refine CW.seq ?_
  refine CW.lex [.W] rfl ?_
  refine RW.pure tabOk 1 rfl ?_
  refine RW.done ?_
  refine NW.next ?_
  refine CW.ret ?_
  refine NW.ret_then ?_
  obtain rfl := Option.some.inj H
  exact NW.ret1 rfl (by rfl) ⟨rfl, x0_0⟩
 ·
  rw [if_neg c3] at H
  refine CW.cond_f rfl (bool_f c3) ?_
  refine CW.skip ?_
  refine NW.next ?_
  refine CW.seq ?_
  refine CW.seq ?_
  refine CW.lex [.W, .L, .W, .W] rfl ?_
  refine RW.pure tabOk 1 rfl ?_
  refine RW.load tabOk [.slice A1 p0.List_.length c_1] (gb1_0.at 2) ⟨rfl, rfl, rfl, rfl⟩ rfl rfl rfl rfl ?_
  refine RW.pure tabOk 2 rfl ?_
  refine RW.done ?_
  refine NW.next ?_
  refine CW.block ?_
  refine CW.loop (fun n1 a w4 => ∃ (it22_1 : Int), Sat 48 [(1, .pointer (some ⟨b1, 0, none⟩)), (20, .slice A1 p0.List_.length c_1), (21, .int .i64 (p0.List_.length : Int)), (22, .int .i64 it22_1)] a ∧ w2.heap.size ≤ w4.heap.size ∧ Sl kEntry w4.heap (okL [(0, some w.heap.size, none)]) A1 p0.List_ ∧ Ext w w4 ∧ Box w4.heap b1 75 [.int .i64 p0.Dev, .int .i64 p0.Size, .slice A1 p0.List_.length c_1] ∧ table_May.l0 p0 n1 it22_1 = some r) k ?_ ?_
  · exact fun a ha => ⟨0, ha.sub ⟨rfl, rfl, rfl, rfl, trivial⟩, by omega, gF1_0, x0_0, gb1_0, H⟩
  intro n1 a w4 hI hp
  obtain ⟨it22_1, hS, hle, gF1_1, x0_1, gb1_1, H⟩ := hI
  cases n1 with
  | zero => cases H
  | succ n1 =>
   rw [table_May.l0] at H
   refine CW.go hp hS ?_
   refine CW.seq ?_
   refine CW.lex [.W] rfl ?_
   refine RW.pure tabOk 1 rfl ?_
   refine RW.done ?_
   refine NW.next ?_
   refine CW.seq ?_
   by_cases c4 : it22_1 < (p0.List_.length : Int)
   ·
    rw [if_pos c4] at H
    refine CW.cond_t rfl (decide_eq_true c4) ?_
    refine CW.skip ?_
    refine NW.next ?_
    refine CW.seq ?_
    refine CW.block ?_
    refine CW.seq ?_
    refine CW.lex [.W, .W, .L, .X, .W, .M] rfl ?_
    refine RW.pure tabOk 1 rfl ?_
    obtain ⟨g1, H⟩ := guard_some H
    obtain ⟨ad1, e1, a1⟩ := kEntry_at gF1_1 g1.1 g1.2
    refine RW.index tabOk g1.1 g1.2 e1 ⟨rfl, rfl, rfl, rfl⟩ rfl rfl rfl rfl rfl rfl ?_
    refine RW.load tabOk [.int .i64 ((rd p0.List_ it22_1).From), .int .i64 ((rd p0.List_ it22_1).Len), .int .i64 ((rd p0.List_ it22_1).Dev), .int .i64 ((rd p0.List_ it22_1).To), .int .i64 ((rd p0.List_ it22_1).Stale)] a1 ⟨rfl, rfl, rfl, rfl⟩ rfl rfl rfl rfl ?_
    refine RW.alloc tabOk (.inl rfl) ⟨rfl, rfl, rfl, rfl⟩ rfl rfl ?_
    intro b2 w5 x3 l2 h12
    have sx3 := x3.size
    have ltb2 := h12.lt
    refine RW.pure tabOk 1 rfl ?_
    refine RW.storeBox tabOk h12 [.int .i64 ((rd p0.List_ it22_1).From), .int .i64 ((rd p0.List_ it22_1).Len), .int .i64 ((rd p0.List_ it22_1).Dev), .int .i64 ((rd p0.List_ it22_1).To), .int .i64 ((rd p0.List_ it22_1).Stale)] ⟨rfl, rfl, rfl⟩ rfl rfl rfl rfl rfl rfl rfl rfl ?_
    intro w6 x4 h13
    have h14 : Box w6.heap b2 86 [.int .i64 ((rd p0.List_ it22_1).From), .int .i64 ((rd p0.List_ it22_1).Len), .int .i64 ((rd p0.List_ it22_1).Dev), .int .i64 ((rd p0.List_ it22_1).To), .int .i64 ((rd p0.List_ it22_1).Stale)] := h13
    have sx4 := x4.size
    refine RW.done ?_
    refine NW.next ?_
    refine CW.seqJ (fun a w7 => ∃ (bt46_2 : Bool), Sat 48 [(1, .pointer (some ⟨b1, 0, none⟩)), (20, .slice A1 p0.List_.length c_1), (21, .int .i64 (p0.List_.length : Int)), (22, .int .i64 it22_1), (46, .bool bt46_2)] a ∧ w6.heap.size ≤ w7.heap.size ∧ Sl kEntry w7.heap (okL [(0, some w.heap.size, none)]) A1 p0.List_ ∧ Ext w w7 ∧ Box w7.heap b1 75 [.int .i64 p0.Dev, .int .i64 p0.Size, .slice A1 p0.List_.length c_1] ∧ table_May.j1 it22_1 (table_May.l0 p0 n1) bt46_2 = some r) ?_ ?_
    ·
     refine CW.ord [0, 0, 3, 7, 15, 31, 63, 127, 255, 511, 255, 1279, 255, 4351, 15615, 31999, 64767, 131071, 262143, 524287] (ofL [(0, .L), (1, .L), (2, .X), (3, .W), (4, .W), (5, .W), (6, .W), (7, .W), (8, .W), (10, .W), (12, .W), (13, .W), (9, .L), (11, .L), (14, .W), (15, .L), (16, .X), (17, .W), (18, .W), (19, .W)] .nil) mixed (by kernel_rfl) ?_
     intro w8 x5
     have sx5 := x5.size
     have h15 := ((gb1_1.ext x3).turnB x4 (by omega)).ext x5
     refine RW.load tabOk [.int .i64 p0.Dev, .int .i64 p0.Size, .slice A1 p0.List_.length c_1] (h15.at 0) ⟨rfl, rfl, rfl, rfl⟩ rfl rfl rfl rfl ?_
     have h16 := h14.ext x5
     refine RW.load tabOk [.int .i64 ((rd p0.List_ it22_1).From), .int .i64 ((rd p0.List_ it22_1).Len), .int .i64 ((rd p0.List_ it22_1).Dev), .int .i64 ((rd p0.List_ it22_1).To), .int .i64 ((rd p0.List_ it22_1).Stale)] (h16.at 0) ⟨rfl, rfl, rfl, rfl⟩ rfl rfl rfl rfl ?_
     have h17 := ((gF1_1.ext x3).turnB x4 h12 ⟨.inr (by omega), trivial⟩).ext x5
     obtain ⟨y2, h18, H⟩ := bind_some H
     refine RW.callF (.inl rfl) ent136 ⟨rfl, rfl, rfl, rfl⟩ rfl rfl (table_entry.calls p0 A1 c_1 (rd p0.List_ it22_1) _ _ h17.all hl1 h18) ?_
     rintro _ w9 ⟨rfl, x6⟩
     refine ⟨_, rfl, x6, ?_⟩
     have sx6 := x6.size
     refine RW.pure tabOk 2 rfl ?_
     by_cases c5 : y2 = true
     ·
      rw [if_pos c5] at H
      refine RW.bool 31 (b' := false) (not_f (c5)) rfl ?_
      refine RW.pure tabOk 3 rfl ?_
      by_cases c6 : 0 < it22_1
      ·
       rw [if_pos c6] at H
       refine RW.bool 34 (b' := true) (decide_eq_true c6) rfl ?_
       refine RW.pure tabOk 4 rfl ?_
       have h19 := h16.ext x6
       refine RW.load tabOk [.int .i64 ((rd p0.List_ it22_1).From)] ((h19.at 0).take 1 rfl) ⟨rfl, rfl, rfl, rfl⟩ rfl rfl rfl rfl ?_
       have h20 := h15.ext x6
       refine RW.load tabOk [.slice A1 p0.List_.length c_1] (h20.at 2) ⟨rfl, rfl, rfl, rfl⟩ rfl rfl rfl rfl ?_
       obtain ⟨g2, H⟩ := guard_some H
       have h21 := h17.ext x6
       obtain ⟨ad2, e2, a2⟩ := kEntry_at h21 g2.1 g2.2
       refine RW.index tabOk g2.1 g2.2 e2 ⟨rfl, rfl, rfl, rfl⟩ rfl rfl rfl rfl rfl rfl ?_
       refine RW.load tabOk [.int .i64 ((rd p0.List_ (w64 (it22_1 - 1))).From), .int .i64 ((rd p0.List_ (w64 (it22_1 - 1))).Len), .int .i64 ((rd p0.List_ (w64 (it22_1 - 1))).Dev), .int .i64 ((rd p0.List_ (w64 (it22_1 - 1))).To), .int .i64 ((rd p0.List_ (w64 (it22_1 - 1))).Stale)] a2 ⟨rfl, rfl, rfl, rfl⟩ rfl rfl rfl rfl ?_
       obtain ⟨y3, h22, H⟩ := bind_some H
       refine RW.callF (.inl rfl) ent137 ⟨rfl, rfl, rfl, rfl⟩ rfl rfl (table_end.calls (rd p0.List_ (w64 (it22_1 - 1))) _ _ h22) ?_
       rintro _ w10 ⟨rfl, x7⟩
       refine ⟨_, rfl, x7, ?_⟩
       have sx7 := x7.size
       refine RW.pure tabOk 3 rfl ?_
       refine RW.done ?_
       have h23 := h21.ext x7
       have h24 := Ext.trans (Ext.trans (Ext.trans (Ext.turnB (Ext.trans x0_1 x3) x4 (by omega)) x5) x6) x7
       have h25 := h20.ext x7
       exact NW.J fun a ha => ⟨(decide (((rd p0.List_ it22_1).From) < y3)), ha.sub ⟨rfl, rfl, rfl, rfl, rfl, trivial⟩, by omega, h23, h24, h25, H⟩
      ·
       rw [if_neg c6] at H
       refine RW.bool 34 (b' := false) (decide_eq_false c6) rfl ?_
       refine RW.pure tabOk 12 rfl ?_
       refine RW.done ?_
       have h26 := h17.ext x6
       have h27 := Ext.trans (Ext.trans (Ext.turnB (Ext.trans x0_1 x3) x4 (by omega)) x5) x6
       have h28 := h15.ext x6
       exact NW.J fun a ha => ⟨false, ha.sub ⟨rfl, rfl, rfl, rfl, rfl, trivial⟩, by omega, h26, h27, h28, H⟩
     ·
      rw [if_neg c5] at H
      refine RW.bool 31 (b' := true) (not_t (bool_f c5)) rfl ?_
      refine RW.pure tabOk 15 rfl ?_
      refine RW.done ?_
      have h29 := h17.ext x6
      have h30 := Ext.trans (Ext.trans (Ext.turnB (Ext.trans x0_1 x3) x4 (by omega)) x5) x6
      have h31 := h15.ext x6
      exact NW.J fun a ha => ⟨true, ha.sub ⟨rfl, rfl, rfl, rfl, rfl, trivial⟩, by omega, h29, h30, h31, H⟩
    intro a w7 hJ hp
    obtain ⟨bt46_2, hS, hle, gF1_2, x0_2, gb1_2, H⟩ := hJ
    unfold table_May.j1 at H
    refine CW.go hp hS ?_
    by_cases c7 : bt46_2 = true
    ·
     rw [if_pos c7] at H
     refine CW.cond_t rfl (c7) ?_
     refine CW.seq ?_
     refine CW.lex [.W] rfl ?_
     refine RW.pure tabOk 1 rfl ?_
     refine RW.done ?_
     refine NW.next ?_
     refine CW.ret ?_
     refine NW.ret_block (NW.ret_then (NW.ret_then (NW.ret_block (NW.ret_then ?_))))
     obtain rfl := Option.some.inj H
     exact NW.ret1 rfl (by rfl) ⟨rfl, x0_2⟩
    ·
     rw [if_neg c7] at H
     refine CW.cond_f rfl (bool_f c7) ?_
     refine CW.skip ?_
     refine NW.norm_block (NW.next ?_)
     refine CW.lex [.W, .W] rfl ?_
     refine RW.pure tabOk 2 rfl ?_
     refine RW.done ?_
     exact NW.J fun a ha => ⟨n1, Nat.lt_succ_self n1, (w64 (it22_1 + 1)), ha.sub ⟨rfl, rfl, rfl, rfl, trivial⟩, by omega, gF1_2, x0_2, gb1_2, H⟩
   ·
    rw [if_neg c4] at H
    refine CW.cond_f rfl (decide_eq_false c4) ?_
    refine CW.exit ?_
    refine NW.exit_then (NW.exit_then (NW.exit_hit ?_))
    refine NW.next ?_
    refine CW.seq ?_
    refine CW.lex [.W] rfl ?_
    refine RW.pure tabOk 1 rfl ?_
    refine RW.done ?_
    refine NW.next ?_
    refine CW.ret ?_
    obtain rfl := Option.some.inj H
    exact NW.ret1 rfl (by rfl) ⟨rfl, x0_1⟩

set_option maxHeartbeats 20000000 in
set_option maxRecDepth 100000 in
theorem chain_ids.calls (k : Nat) (p0 : Pool) (A1 : Option Addr) (c_1 : Nat) (A2 : Option Addr) (c_2 : Nat) (A3 : Option Addr) (c_3 : Nat) (r : Bool) (w : World) (hs1 : Sl kDeviceR w.heap okAll A1 p0.Devices) (hl1 : p0.Devices.length ≤ c_1) (hs2 : Sl kTableR w.heap okAll A2 p0.Tables) (hl2 : p0.Tables.length ≤ c_2) (hs3 : Sl kEntry w.heap okAll A3 p0.Job.Table.List_) (hl3 : p0.Job.Table.List_.length ≤ c_3) (H : chain_ids.f k p0 = some r) :
    Calls Tryd.prog 91 #[.agg #[.slice A1 p0.Devices.length c_1, .slice A2 p0.Tables.length c_2, .int .i64 p0.Job.Dev, .int .i64 p0.Job.At, .int .i64 p0.Job.Table.Dev, .int .i64 p0.Job.Table.Size, .slice A3 p0.Job.Table.List_.length c_3, .int .i64 p0.Next]] w fun e w' => e = .returned (.bool r) ∧ Ext w w' := by
 have h1 : Sl kDeviceR w.heap (okL [(0, some w.heap.size, none)]) A1 p0.Devices := hs1.old _ rfl
 have h2 : Sl kTableR w.heap (okL [(0, some w.heap.size, none)]) A2 p0.Tables := hs2.old _ rfl
 have h3 : Sl kEntry w.heap (okL [(0, some w.heap.size, none)]) A3 p0.Job.Table.List_ := hs3.old _ rfl
 have x0 : Ext w w := Upd.refl _ w
 unfold chain_ids.f at H
 refine calls_start Tryd.func91 rfl 54 rfl [.agg #[.slice A1 p0.Devices.length c_1, .slice A2 p0.Tables.length c_2, .int .i64 p0.Job.Dev, .int .i64 p0.Job.At, .int .i64 p0.Job.Table.Dev, .int .i64 p0.Job.Table.Size, .slice A3 p0.Job.Table.List_.length c_3, .int .i64 p0.Next]] rfl ?_
 refine CW.seq ?_
 refine CW.lex [.X, .W] rfl ?_
 refine RW.box (cs := [.slice A1 p0.Devices.length c_1, .slice A2 p0.Tables.length c_2, .int .i64 p0.Job.Dev, .int .i64 p0.Job.At, .int .i64 p0.Job.Table.Dev, .int .i64 p0.Job.Table.Size, .slice A3 p0.Job.Table.List_.length c_3, .int .i64 p0.Next]) (.inl rfl) ⟨rfl, rfl, rfl, rfl⟩ rfl rfl rfl ?_
 intro b1 w1 x1 l1 h4
 have sx1 := x1.size
 have ltb1 := h4.lt
 refine RW.pure tabOk 1 rfl ?_
 refine RW.done ?_
 refine NW.next ?_
 refine CW.seq ?_
 refine CW.seq ?_
 refine CW.lex [.W, .L, .W] rfl ?_
 refine RW.pure tabOk 1 rfl ?_
 refine RW.load tabOk [.int .i64 p0.Next] (h4.at 7) ⟨rfl, rfl, rfl, rfl⟩ rfl rfl rfl rfl ?_
 refine RW.pure tabOk 1 rfl ?_
 refine RW.done ?_
 refine NW.next ?_
 by_cases c1 : 41 < p0.Next
 ·
  rw [if_pos c1] at H
  refine CW.cond_t rfl (decide_eq_true c1) ?_
  refine CW.seq ?_
  refine CW.lex [.W] rfl ?_
  refine RW.pure tabOk 1 rfl ?_
  refine RW.done ?_
  refine NW.next ?_
  refine CW.ret ?_
  refine NW.ret_then ?_
  obtain rfl := Option.some.inj H
  have h5 := Ext.trans x0 x1
  exact NW.ret1 rfl (by rfl) ⟨rfl, h5⟩
 ·
  rw [if_neg c1] at H
  refine CW.cond_f rfl (decide_eq_false c1) ?_
  refine CW.skip ?_
  refine NW.next ?_
  refine CW.seq ?_
  refine CW.seq ?_
  refine CW.lex [.W, .L, .W, .W] rfl ?_
  refine RW.pure tabOk 1 rfl ?_
  refine RW.load tabOk [.slice A2 p0.Tables.length c_2] ((h4.at 1).take 1 rfl) ⟨rfl, rfl, rfl, rfl⟩ rfl rfl rfl rfl ?_
  refine RW.pure tabOk 2 rfl ?_
  refine RW.done ?_
  refine NW.next ?_
  refine CW.block ?_
  refine CW.loop (fun n1 a w2 => ∃ (it11_0 : Int), Sat 54 [(1, .pointer (some ⟨b1, 0, none⟩)), (9, .slice A2 p0.Tables.length c_2), (10, .int .i64 (p0.Tables.length : Int)), (11, .int .i64 it11_0)] a ∧ w1.heap.size ≤ w2.heap.size ∧ Sl kDeviceR w2.heap (okL [(0, some w.heap.size, none)]) A1 p0.Devices ∧ Sl kTableR w2.heap (okL [(0, some w.heap.size, none)]) A2 p0.Tables ∧ Sl kEntry w2.heap (okL [(0, some w.heap.size, none)]) A3 p0.Job.Table.List_ ∧ Ext w w2 ∧ Box w2.heap b1 79 [.slice A1 p0.Devices.length c_1, .slice A2 p0.Tables.length c_2, .int .i64 p0.Job.Dev, .int .i64 p0.Job.At, .int .i64 p0.Job.Table.Dev, .int .i64 p0.Job.Table.Size, .slice A3 p0.Job.Table.List_.length c_3, .int .i64 p0.Next] ∧ chain_ids.l0 p0 k n1 it11_0 = some r) k ?_ ?_
  have h6 := h1.ext x1
  have h7 := h2.ext x1
  have h8 := h3.ext x1
  have h9 := Ext.trans x0 x1
  · exact fun a ha => ⟨0, ha.sub ⟨rfl, rfl, rfl, rfl, trivial⟩, by omega, h6, h7, h8, h9, h4, H⟩
  intro n1 a w2 hI hp
  obtain ⟨it11_0, hS, hle, gF1_0, gF2_0, gF3_0, x0_0, gb1_0, H⟩ := hI
  cases n1 with
  | zero => cases H
  | succ n1 =>
   rw [chain_ids.l0] at H
   refine CW.go hp hS ?_
   refine CW.seq ?_
   refine CW.lex [.W] rfl ?_
   refine RW.pure tabOk 1 rfl ?_
   refine RW.done ?_
   refine NW.next ?_
   refine CW.seq ?_
   by_cases c2 : it11_0 < (p0.Tables.length : Int)
   ·
    rw [if_pos c2] at H
    refine CW.cond_t rfl (decide_eq_true c2) ?_
    refine CW.skip ?_
    refine NW.next ?_
    refine CW.seq ?_
    refine CW.block ?_
    refine CW.seq ?_
    refine CW.lex [.W, .W, .L, .X, .W, .M] rfl ?_
    refine RW.pure tabOk 1 rfl ?_
    obtain ⟨g1, H⟩ := guard_some H
    obtain ⟨ad1, A4, c_4, e1, a1, l2, h10⟩ := kTableR_at gF2_0 g1.1 g1.2
    refine RW.index tabOk g1.1 g1.2 e1 ⟨rfl, rfl, rfl, rfl⟩ rfl rfl rfl rfl rfl rfl ?_
    refine RW.load tabOk [.int .i64 ((rd p0.Tables it11_0).Dev), .int .i64 ((rd p0.Tables it11_0).Size), .slice A4 ((rd p0.Tables it11_0).List_).length c_4] a1 ⟨rfl, rfl, rfl, rfl⟩ rfl rfl rfl rfl ?_
    refine RW.alloc tabOk (.inl rfl) ⟨rfl, rfl, rfl, rfl⟩ rfl rfl ?_
    intro b2 w3 x2 l3 h11
    have sx2 := x2.size
    have ltb2 := h11.lt
    refine RW.pure tabOk 1 rfl ?_
    refine RW.storeBox tabOk h11 [.int .i64 ((rd p0.Tables it11_0).Dev), .int .i64 ((rd p0.Tables it11_0).Size), .slice A4 ((rd p0.Tables it11_0).List_).length c_4] ⟨rfl, rfl, rfl⟩ rfl rfl rfl rfl rfl rfl rfl rfl ?_
    intro w4 x3 h12
    have h13 : Box w4.heap b2 75 [.int .i64 ((rd p0.Tables it11_0).Dev), .int .i64 ((rd p0.Tables it11_0).Size), .slice A4 ((rd p0.Tables it11_0).List_).length c_4] := h12
    have sx3 := x3.size
    refine RW.done ?_
    refine NW.next ?_
    refine CW.seqJ (fun a w5 => ∃ (bt47_1 : Bool), Sat 54 [(1, .pointer (some ⟨b1, 0, none⟩)), (9, .slice A2 p0.Tables.length c_2), (10, .int .i64 (p0.Tables.length : Int)), (11, .int .i64 it11_0), (47, .bool bt47_1)] a ∧ w4.heap.size ≤ w5.heap.size ∧ Sl kDeviceR w5.heap (okL [(0, some w.heap.size, none)]) A1 p0.Devices ∧ Sl kTableR w5.heap (okL [(0, some w.heap.size, none)]) A2 p0.Tables ∧ Sl kEntry w5.heap (okL [(0, some w.heap.size, none)]) A3 p0.Job.Table.List_ ∧ Ext w w5 ∧ Box w5.heap b1 79 [.slice A1 p0.Devices.length c_1, .slice A2 p0.Tables.length c_2, .int .i64 p0.Job.Dev, .int .i64 p0.Job.At, .int .i64 p0.Job.Table.Dev, .int .i64 p0.Job.Table.Size, .slice A3 p0.Job.Table.List_.length c_3, .int .i64 p0.Next] ∧ chain_ids.j0 it11_0 (chain_ids.l0 p0 k n1) bt47_1 = some r) ?_ ?_
    ·
     refine CW.ord [0, 1, 3, 7, 15, 15, 47, 127, 255, 511, 1023, 2047, 1023, 5119, 16383, 32767, 65535, 131071, 262143, 524287, 1048575, 2097151, 1048575, 5242879, 1048575, 17825791, 63963135, 131071999, 265289727, 536870911, 1073741823, 2147483647] (ofL [(0, .L), (1, .X), (2, .W), (3, .W), (5, .W), (4, .L), (6, .L), (7, .X), (8, .W), (9, .W), (10, .W), (12, .W), (11, .L), (13, .L), (14, .W), (15, .W), (16, .W), (17, .W), (18, .W), (19, .W), (20, .W), (22, .W), (24, .W), (25, .W), (21, .L), (23, .L), (26, .W), (27, .W), (28, .L), (29, .W), (30, .W), (31, .W)] .nil) mixed (by kernel_rfl) ?_
     intro w6 x4
     have sx4 := x4.size
     have h14 := h13.ext x4
     refine RW.load tabOk [.int .i64 ((rd p0.Tables it11_0).Dev), .int .i64 ((rd p0.Tables it11_0).Size), .slice A4 ((rd p0.Tables it11_0).List_).length c_4] (h14.at 0) ⟨rfl, rfl, rfl, rfl⟩ rfl rfl rfl rfl ?_
     have h15 := ((h10.ext x2).turnB x3 h11 ⟨.inr (by omega), trivial⟩).ext x4
     obtain ⟨y1, h16, H⟩ := bind_some H
     refine RW.callF (.inl rfl) ent120 ⟨rfl, rfl, rfl, rfl⟩ rfl rfl (table_May.calls k (rd p0.Tables it11_0) A4 c_4 _ _ h15.all l2 h16) ?_
     rintro _ w7 ⟨rfl, x5⟩
     refine ⟨_, rfl, x5, ?_⟩
     have sx5 := x5.size
     refine RW.pure tabOk 2 rfl ?_
     by_cases c3 : y1 = true
     ·
      rw [if_pos c3] at H
      refine RW.bool 19 (b' := false) (not_f (c3)) rfl ?_
      refine RW.pure tabOk 1 rfl ?_
      have h17 := (((gb1_0.ext x2).turnB x3 (by omega)).ext x4).ext x5
      refine RW.load tabOk [.slice A1 p0.Devices.length c_1, .slice A2 p0.Tables.length c_2, .int .i64 p0.Job.Dev, .int .i64 p0.Job.At, .int .i64 p0.Job.Table.Dev, .int .i64 p0.Job.Table.Size, .slice A3 p0.Job.Table.List_.length c_3, .int .i64 p0.Next] (h17.at 0) ⟨rfl, rfl, rfl, rfl⟩ rfl rfl rfl rfl ?_
      have h18 := h14.ext x5
      refine RW.load tabOk [.int .i64 ((rd p0.Tables it11_0).Dev)] ((h18.at 0).take 1 rfl) ⟨rfl, rfl, rfl, rfl⟩ rfl rfl rfl rfl ?_
      have h19 := (((gF1_0.ext x2).turnB x3 h11 ⟨.inr (by omega), trivial⟩).ext x4).ext x5
      have h20 := (((gF2_0.ext x2).turnB x3 h11 ⟨.inr (by omega), trivial⟩).ext x4).ext x5
      have h21 := (((gF3_0.ext x2).turnB x3 h11 ⟨.inr (by omega), trivial⟩).ext x4).ext x5
      obtain ⟨y2, h22, H⟩ := bind_some H
      refine RW.callF (.inl rfl) ent117 ⟨rfl, rfl, rfl, rfl⟩ rfl rfl (chain_device.calls k p0 A1 c_1 A2 c_2 A3 c_3 ((rd p0.Tables it11_0).Dev) _ _ h19.all hl1 h20.all hl2 h21.all hl3 h22) ?_
      rintro _ w8 ⟨rfl, x6⟩
      refine ⟨_, rfl, x6, ?_⟩
      have sx6 := x6.size
      refine RW.pure tabOk 2 rfl ?_
      by_cases c4 : y2 = true
      ·
       rw [if_pos c4] at H
       refine RW.bool 25 (b' := true) (c4) rfl ?_
       refine RW.pure tabOk 22 rfl ?_
       refine RW.done ?_
       have h23 := h19.ext x6
       have h24 := h20.ext x6
       have h25 := h21.ext x6
       have h26 := Ext.trans (Ext.trans (Ext.trans (Ext.turnB (Ext.trans x0_0 x2) x3 (by omega)) x4) x5) x6
       have h27 := h17.ext x6
       exact NW.J fun a ha => ⟨true, ha.sub ⟨rfl, rfl, rfl, rfl, rfl, trivial⟩, by omega, h23, h24, h25, h26, h27, H⟩
      ·
       rw [if_neg c4] at H
       refine RW.bool 25 (b' := false) (bool_f c4) rfl ?_
       refine RW.pure tabOk 2 rfl ?_
       have h28 := h18.ext x6
       refine RW.load tabOk [.int .i64 ((rd p0.Tables it11_0).Dev)] ((h28.at 0).take 1 rfl) ⟨rfl, rfl, rfl, rfl⟩ rfl rfl rfl rfl ?_
       have h29 := h17.ext x6
       refine RW.load tabOk [.int .i64 p0.Next] (h29.at 7) ⟨rfl, rfl, rfl, rfl⟩ rfl rfl rfl rfl ?_
       refine RW.pure tabOk 3 rfl ?_
       by_cases c5 : p0.Next ≤ ((rd p0.Tables it11_0).Dev)
       ·
        rw [if_pos c5] at H
        refine RW.bool 32 (b' := true) (decide_eq_true c5) rfl ?_
        refine RW.pure tabOk 15 rfl ?_
        refine RW.done ?_
        have h30 := h19.ext x6
        have h31 := h20.ext x6
        have h32 := h21.ext x6
        have h33 := Ext.trans (Ext.trans (Ext.trans (Ext.turnB (Ext.trans x0_0 x2) x3 (by omega)) x4) x5) x6
        exact NW.J fun a ha => ⟨true, ha.sub ⟨rfl, rfl, rfl, rfl, rfl, trivial⟩, by omega, h30, h31, h32, h33, h29, H⟩
       ·
        rw [if_neg c5] at H
        refine RW.bool 32 (b' := false) (decide_eq_false c5) rfl ?_
        refine RW.pure tabOk 3 rfl ?_
        by_cases c6 : 0 < it11_0
        ·
         rw [if_pos c6] at H
         refine RW.bool 35 (b' := true) (decide_eq_true c6) rfl ?_
         refine RW.pure tabOk 4 rfl ?_
         refine RW.load tabOk [.int .i64 ((rd p0.Tables it11_0).Dev)] ((h28.at 0).take 1 rfl) ⟨rfl, rfl, rfl, rfl⟩ rfl rfl rfl rfl ?_
         refine RW.load tabOk [.slice A2 p0.Tables.length c_2] ((h29.at 1).take 1 rfl) ⟨rfl, rfl, rfl, rfl⟩ rfl rfl rfl rfl ?_
         obtain ⟨g2, H⟩ := guard_some H
         have h34 := h20.ext x6
         obtain ⟨ad2, A5, c_5, e2, a2, l4, h35⟩ := kTableR_at h34 g2.1 g2.2
         refine RW.index tabOk g2.1 g2.2 e2 ⟨rfl, rfl, rfl, rfl⟩ rfl rfl rfl rfl rfl rfl ?_
         refine RW.pure tabOk 1 rfl ?_
         refine RW.load tabOk [.int .i64 ((rd p0.Tables (w64 (it11_0 - 1))).Dev)] ((a2.fld 0).take 1 rfl) ⟨rfl, rfl, rfl, rfl⟩ rfl rfl rfl rfl ?_
         refine RW.pure tabOk 3 rfl ?_
         refine RW.done ?_
         have h36 := h19.ext x6
         have h37 := h21.ext x6
         have h38 := Ext.trans (Ext.trans (Ext.trans (Ext.turnB (Ext.trans x0_0 x2) x3 (by omega)) x4) x5) x6
         exact NW.J fun a ha => ⟨(decide (((rd p0.Tables it11_0).Dev) ≤ ((rd p0.Tables (w64 (it11_0 - 1))).Dev))), ha.sub ⟨rfl, rfl, rfl, rfl, rfl, trivial⟩, by omega, h36, h34, h37, h38, h29, H⟩
        ·
         rw [if_neg c6] at H
         refine RW.bool 35 (b' := false) (decide_eq_false c6) rfl ?_
         refine RW.pure tabOk 12 rfl ?_
         refine RW.done ?_
         have h39 := h19.ext x6
         have h40 := h20.ext x6
         have h41 := h21.ext x6
         have h42 := Ext.trans (Ext.trans (Ext.trans (Ext.turnB (Ext.trans x0_0 x2) x3 (by omega)) x4) x5) x6
         exact NW.J fun a ha => ⟨false, ha.sub ⟨rfl, rfl, rfl, rfl, rfl, trivial⟩, by omega, h39, h40, h41, h42, h29, H⟩
     ·
      rw [if_neg c3] at H
      refine RW.bool 19 (b' := true) (not_t (bool_f c3)) rfl ?_
      refine RW.pure tabOk 28 rfl ?_
      refine RW.done ?_
      have h43 := (((gF1_0.ext x2).turnB x3 h11 ⟨.inr (by omega), trivial⟩).ext x4).ext x5
      have h44 := (((gF2_0.ext x2).turnB x3 h11 ⟨.inr (by omega), trivial⟩).ext x4).ext x5
      have h45 := (((gF3_0.ext x2).turnB x3 h11 ⟨.inr (by omega), trivial⟩).ext x4).ext x5
      have h46 := Ext.trans (Ext.trans (Ext.turnB (Ext.trans x0_0 x2) x3 (by omega)) x4) x5
      have h47 := (((gb1_0.ext x2).turnB x3 (by omega)).ext x4).ext x5
      exact NW.J fun a ha => ⟨true, ha.sub ⟨rfl, rfl, rfl, rfl, rfl, trivial⟩, by omega, h43, h44, h45, h46, h47, H⟩
    intro a w5 hJ hp
    obtain ⟨bt47_1, hS, hle, gF1_1, gF2_1, gF3_1, x0_1, gb1_1, H⟩ := hJ
    unfold chain_ids.j0 at H
    refine CW.go hp hS ?_
    by_cases c7 : bt47_1 = true
    ·
     rw [if_pos c7] at H
     refine CW.cond_t rfl (c7) ?_
     refine CW.seq ?_
     refine CW.lex [.W] rfl ?_
     refine RW.pure tabOk 1 rfl ?_
     refine RW.done ?_
     refine NW.next ?_
     refine CW.ret ?_
     refine NW.ret_block (NW.ret_then (NW.ret_then (NW.ret_block (NW.ret_then ?_))))
     obtain rfl := Option.some.inj H
     exact NW.ret1 rfl (by rfl) ⟨rfl, x0_1⟩
    ·
     rw [if_neg c7] at H
     refine CW.cond_f rfl (bool_f c7) ?_
     refine CW.skip ?_
     refine NW.norm_block (NW.next ?_)
     refine CW.lex [.W, .W] rfl ?_
     refine RW.pure tabOk 2 rfl ?_
     refine RW.done ?_
     exact NW.J fun a ha => ⟨n1, Nat.lt_succ_self n1, (w64 (it11_0 + 1)), ha.sub ⟨rfl, rfl, rfl, rfl, trivial⟩, by omega, gF1_1, gF2_1, gF3_1, x0_1, gb1_1, H⟩
   ·
    rw [if_neg c2] at H
    refine CW.cond_f rfl (decide_eq_false c2) ?_
    refine CW.exit ?_
    refine NW.exit_then (NW.exit_then (NW.exit_hit ?_))
    refine NW.next ?_
    refine CW.seq ?_
    refine CW.lex [.W, .L, .W, .X, .W, .W] rfl ?_
    refine RW.pure tabOk 1 rfl ?_
    refine RW.load tabOk [.slice A1 p0.Devices.length c_1] ((gb1_0.at 0).take 1 rfl) ⟨rfl, rfl, rfl, rfl⟩ rfl rfl rfl rfl ?_
    refine RW.pure tabOk 1 rfl ?_
    have xc1 : Ext w2 w2 := Upd.refl _ _
    refine RW.callK (.inl rfl) ent94 ⟨rfl, rfl, rfl, rfl⟩ rfl rfl rfl ?_
    refine calls_start Tryd.func94 rfl 9 rfl [.slice A1 p0.Devices.length c_1, .func (.func 121) #[] #[.pointer (some ⟨b1, 0, none⟩)]] rfl ?_
    refine CW.seq ?_
    refine CW.lex [.W] rfl ?_
    refine RW.pure tabOk 1 rfl ?_
    refine RW.done ?_
    refine NW.next ?_
    refine CW.seq ?_
    refine CW.lex [.W, .W, .X, .W, .W] rfl ?_
    refine RW.pure tabOk 2 rfl ?_
    have xc2 : Ext w2 w2 := Upd.refl _ _
    refine RW.callV (R := fun e w9 => ∃ (it7_2 : Int), e = .returned (.int .i64 it7_2) ∧ w2.heap.size ≤ w9.heap.size ∧ Ext w w9 ∧ Ext w2 w9 ∧ Ext w2 w9 ∧ chain_ids.j1 it7_2 = some r) (.inl rfl) ent128 ⟨rfl, rfl, rfl, rfl⟩ rfl rfl rfl ?_ ?_
    ·
     refine calls_start Tryd.func128 rfl 19 rfl [.slice A1 p0.Devices.length c_1, .func (.func 121) #[] #[.pointer (some ⟨b1, 0, none⟩)]] rfl ?_
     refine CW.seq ?_
     refine CW.lex [.W] rfl ?_
     refine RW.pure tabOk 1 rfl ?_
     refine RW.done ?_
     refine NW.next ?_
     refine CW.seq ?_
     refine CW.seq ?_
     refine CW.lex [.W, .W, .W] rfl ?_
     refine RW.pure tabOk 3 rfl ?_
     refine RW.done ?_
     refine NW.next ?_
     refine CW.block ?_
     refine CW.loop (fun n2 a w10 => ∃ (it8_3 : Int), Sat 19 [(0, .slice A1 p0.Devices.length c_1), (1, .func (.func 121) #[] #[.pointer (some ⟨b1, 0, none⟩)]), (7, .int .i64 (p0.Devices.length : Int)), (8, .int .i64 it8_3)] a ∧ w2.heap.size ≤ w10.heap.size ∧ Sl kDeviceR w10.heap (okL [(0, some w.heap.size, none)]) A1 p0.Devices ∧ Sl kTableR w10.heap (okL [(0, some w.heap.size, none)]) A2 p0.Tables ∧ Sl kEntry w10.heap (okL [(0, some w.heap.size, none)]) A3 p0.Job.Table.List_ ∧ Ext w w10 ∧ Ext w2 w10 ∧ Ext w2 w10 ∧ Box w10.heap b1 79 [.slice A1 p0.Devices.length c_1, .slice A2 p0.Tables.length c_2, .int .i64 p0.Job.Dev, .int .i64 p0.Job.At, .int .i64 p0.Job.Table.Dev, .int .i64 p0.Job.Table.Size, .slice A3 p0.Job.Table.List_.length c_3, .int .i64 p0.Next] ∧ chain_ids.l1 p0 n2 it8_3 = some r) k ?_ ?_
     · exact fun a ha => ⟨0, ha.sub ⟨rfl, rfl, rfl, rfl, trivial⟩, by omega, gF1_0, gF2_0, gF3_0, x0_0, xc1, xc2, gb1_0, H⟩
     intro n2 a w10 hI hp
     obtain ⟨it8_3, hS, hle, gF1_3, gF2_3, gF3_3, x0_3, x_xc1_3, x_xc2_3, gb1_3, H⟩ := hI
     cases n2 with
     | zero => cases H
     | succ n2 =>
      rw [chain_ids.l1] at H
      refine CW.go hp hS ?_
      refine CW.seq ?_
      refine CW.lex [.W] rfl ?_
      refine RW.pure tabOk 1 rfl ?_
      refine RW.done ?_
      refine NW.next ?_
      refine CW.seq ?_
      by_cases c8 : it8_3 < (p0.Devices.length : Int)
      ·
       rw [if_pos c8] at H
       refine CW.cond_t rfl (decide_eq_true c8) ?_
       refine CW.skip ?_
       refine NW.next ?_
       refine CW.seq ?_
       refine CW.block ?_
       refine CW.seq ?_
       refine CW.lex [.W, .W] rfl ?_
       refine RW.pure tabOk 2 rfl ?_
       refine RW.done ?_
       refine NW.next ?_
       refine CW.seq ?_
       refine CW.lex [.W, .W, .W, .W, .L, .M] rfl ?_
       refine RW.pure tabOk 3 rfl ?_
       obtain ⟨g3, H⟩ := guard_some H
       obtain ⟨ad3, A6, c_6, A7, c_7, e3, a3, l5, h48, l6, h49⟩ := kDeviceR_at gF1_3 g3.1 g3.2
       refine RW.index tabOk g3.1 g3.2 e3 ⟨rfl, rfl, rfl, rfl⟩ rfl rfl rfl rfl rfl rfl ?_
       refine RW.load tabOk [.int .i64 ((rd p0.Devices it8_3).ID), .int .i64 ((rd p0.Devices it8_3).Size), .slice A6 ((rd p0.Devices it8_3).Free).length c_6, .slice A7 ((rd p0.Devices it8_3).Late).length c_7] a3 ⟨rfl, rfl, rfl, rfl⟩ rfl rfl rfl rfl ?_
       refine RW.callKM ent121 ⟨rfl, rfl, rfl, rfl⟩ rfl rfl rfl ?_
       refine calls_start Tryd.func121 rfl 9 rfl [.agg #[.int .i64 ((rd p0.Devices it8_3).ID), .int .i64 ((rd p0.Devices it8_3).Size), .slice A6 ((rd p0.Devices it8_3).Free).length c_6, .slice A7 ((rd p0.Devices it8_3).Late).length c_7], .pointer (some ⟨b1, 0, none⟩)] rfl ?_
       refine CW.seq ?_
       refine CW.lex [.X, .W] rfl ?_
       refine RW.box (cs := [.int .i64 ((rd p0.Devices it8_3).ID), .int .i64 ((rd p0.Devices it8_3).Size), .slice A6 ((rd p0.Devices it8_3).Free).length c_6, .slice A7 ((rd p0.Devices it8_3).Late).length c_7]) (.inl rfl) ⟨rfl, rfl, rfl, rfl⟩ rfl rfl rfl ?_
       intro b3 w11 x7 l7 h50
       have sx7 := x7.size
       have ltb3 := h50.lt
       refine RW.pure tabOk 1 rfl ?_
       refine RW.done ?_
       refine NW.next ?_
       refine CW.seq ?_
       refine CW.lex [.W, .L, .W, .L, .W, .W] rfl ?_
       refine RW.pure tabOk 1 rfl ?_
       refine RW.load tabOk [.int .i64 ((rd p0.Devices it8_3).ID)] ((h50.at 0).take 1 rfl) ⟨rfl, rfl, rfl, rfl⟩ rfl rfl rfl rfl ?_
       refine RW.pure tabOk 1 rfl ?_
       have h51 := gb1_3.ext x7
       refine RW.load tabOk [.int .i64 p0.Next] (h51.at 7) ⟨rfl, rfl, rfl, rfl⟩ rfl rfl rfl rfl ?_
       refine RW.pure tabOk 2 rfl ?_
       refine RW.done ?_
       refine NW.next ?_
       refine CW.ret ?_
       refine NW.ret1 rfl (by rfl) ⟨_, rfl, ?_⟩
       refine RW.done ?_
       refine NW.next ?_
       by_cases c9 : p0.Next ≤ ((rd p0.Devices it8_3).ID)
       ·
        rw [if_pos c9] at H
        refine CW.cond_t rfl (decide_eq_true c9) ?_
        refine CW.seq ?_
        refine CW.lex [.W, .W] rfl ?_
        refine RW.pure tabOk 2 rfl ?_
        refine RW.done ?_
        refine NW.next ?_
        refine CW.ret ?_
        refine NW.ret_block (NW.ret_then (NW.ret_then (NW.ret_block (NW.ret_then ?_))))
        have h52 := Ext.trans x0_3 x7
        have h53 := Ext.trans x_xc1_3 x7
        have h54 := Ext.trans x_xc2_3 x7
        exact NW.ret1 rfl (by rfl) ⟨it8_3, rfl, by omega, h52, h53, h54, H⟩
       ·
        rw [if_neg c9] at H
        refine CW.cond_f rfl (decide_eq_false c9) ?_
        refine CW.skip ?_
        refine NW.norm_block (NW.next ?_)
        refine CW.lex [.W, .W] rfl ?_
        refine RW.pure tabOk 2 rfl ?_
        refine RW.done ?_
        have h55 := gF1_3.ext x7
        have h56 := gF2_3.ext x7
        have h57 := gF3_3.ext x7
        have h58 := Ext.trans x0_3 x7
        have h59 := Ext.trans x_xc1_3 x7
        have h60 := Ext.trans x_xc2_3 x7
        exact NW.J fun a ha => ⟨n2, Nat.lt_succ_self n2, (w64 (it8_3 + 1)), ha.sub ⟨rfl, rfl, rfl, rfl, trivial⟩, by omega, h55, h56, h57, h58, h59, h60, h51, H⟩
      ·
       rw [if_neg c8] at H
       refine CW.cond_f rfl (decide_eq_false c8) ?_
       refine CW.exit ?_
       refine NW.exit_then (NW.exit_then (NW.exit_hit ?_))
       refine NW.next ?_
       refine CW.seq ?_
       refine CW.lex [.W] rfl ?_
       refine RW.pure tabOk 1 rfl ?_
       refine RW.done ?_
       refine NW.next ?_
       refine CW.ret ?_
       exact NW.ret1 rfl (by rfl) ⟨(-1), rfl, by omega, x0_3, x_xc1_3, x_xc2_3, H⟩
    rintro _ w9 ⟨it7_2, rfl, hle, x0_2, x_xc1_2, x_xc2_2, H⟩
    refine ⟨_, rfl, x_xc2_2, ?_⟩
    unfold chain_ids.j1 at H
    refine RW.pure tabOk 2 rfl ?_
    refine RW.done ?_
    refine NW.next ?_
    refine CW.ret ?_
    refine NW.ret1 rfl (by rfl) ⟨_, rfl, x_xc1_2, ?_⟩
    refine RW.pure tabOk 2 rfl ?_
    refine RW.done ?_
    refine NW.next ?_
    refine CW.ret ?_
    obtain rfl := Option.some.inj H
    exact NW.ret1 rfl (by rfl) ⟨rfl, x0_2⟩

set_option maxHeartbeats 20000000 in
set_option maxRecDepth 100000 in
theorem chain_tables.calls (k : Nat) (p0 : Pool) (A1 : Option Addr) (c_1 : Nat) (A2 : Option Addr) (c_2 : Nat) (A3 : Option Addr) (c_3 : Nat) (r : Bool) (w : World) (hs1 : Sl kDeviceR w.heap okAll A1 p0.Devices) (hl1 : p0.Devices.length ≤ c_1) (hs2 : Sl kTableR w.heap okAll A2 p0.Tables) (hl2 : p0.Tables.length ≤ c_2) (hs3 : Sl kEntry w.heap okAll A3 p0.Job.Table.List_) (hl3 : p0.Job.Table.List_.length ≤ c_3) (H : chain_tables.f k p0 = some r) :
    Calls Tryd.prog 92 #[.agg #[.slice A1 p0.Devices.length c_1, .slice A2 p0.Tables.length c_2, .int .i64 p0.Job.Dev, .int .i64 p0.Job.At, .int .i64 p0.Job.Table.Dev, .int .i64 p0.Job.Table.Size, .slice A3 p0.Job.Table.List_.length c_3, .int .i64 p0.Next]] w fun e w' => e = .returned (.bool r) ∧ Ext w w' := by
 have h1 : Sl kDeviceR w.heap (okL [(0, some w.heap.size, none)]) A1 p0.Devices := hs1.old _ rfl
 have h2 : Sl kTableR w.heap (okL [(0, some w.heap.size, none)]) A2 p0.Tables := hs2.old _ rfl
 have h3 : Sl kEntry w.heap (okL [(0, some w.heap.size, none)]) A3 p0.Job.Table.List_ := hs3.old _ rfl
 have x0 : Ext w w := Upd.refl _ w
 unfold chain_tables.f at H
 refine calls_start Tryd.func92 rfl 42 rfl [.agg #[.slice A1 p0.Devices.length c_1, .slice A2 p0.Tables.length c_2, .int .i64 p0.Job.Dev, .int .i64 p0.Job.At, .int .i64 p0.Job.Table.Dev, .int .i64 p0.Job.Table.Size, .slice A3 p0.Job.Table.List_.length c_3, .int .i64 p0.Next]] rfl ?_
 refine CW.seq ?_
 refine CW.lex [.X, .W] rfl ?_
 refine RW.box (cs := [.slice A1 p0.Devices.length c_1, .slice A2 p0.Tables.length c_2, .int .i64 p0.Job.Dev, .int .i64 p0.Job.At, .int .i64 p0.Job.Table.Dev, .int .i64 p0.Job.Table.Size, .slice A3 p0.Job.Table.List_.length c_3, .int .i64 p0.Next]) (.inl rfl) ⟨rfl, rfl, rfl, rfl⟩ rfl rfl rfl ?_
 intro b1 w1 x1 l1 h4
 have sx1 := x1.size
 have ltb1 := h4.lt
 refine RW.pure tabOk 1 rfl ?_
 refine RW.done ?_
 refine NW.next ?_
 refine CW.seq ?_
 refine CW.lex [.X, .X, .M] rfl ?_
 refine RW.makeMap Value.bool (.inl rfl) ⟨rfl, rfl, rfl, rfl⟩ rfl ?_
 intro b2 w2 x2 l2 h5
 have sx2 := x2.size
 have ltb2 := h5.lt
 refine RW.alloc tabOk (.inl rfl) ⟨rfl, rfl, rfl, rfl⟩ rfl rfl ?_
 intro b3 w3 x3 l3 h6
 have sx3 := x3.size
 have ltb3 := h6.lt
 refine RW.storeBox tabOk h6 [.map (some b2)] ⟨rfl, rfl, rfl⟩ rfl rfl rfl rfl rfl rfl rfl rfl ?_
 intro w4 x4 h7
 have h8 : Box w4.heap b3 158 [.map (some b2)] := h7
 have sx4 := x4.size
 refine RW.done ?_
 refine NW.next ?_
 refine CW.seq ?_
 refine CW.seq ?_
 refine CW.lex [.W, .L, .W, .W] rfl ?_
 refine RW.pure tabOk 1 rfl ?_
 have h9 := ((h4.ext x2).ext x3).turnB x4 (by omega)
 refine RW.load tabOk [.slice A2 p0.Tables.length c_2] ((h9.at 1).take 1 rfl) ⟨rfl, rfl, rfl, rfl⟩ rfl rfl rfl rfl ?_
 refine RW.pure tabOk 2 rfl ?_
 refine RW.done ?_
 refine NW.next ?_
 refine CW.block ?_
 refine CW.loop (fun n1 a w5 => ∃ (it11_0 : Int) (mb2_0_0 : List (Int × Bool)), Sat 42 [(1, .pointer (some ⟨b1, 0, none⟩)), (3, .pointer (some ⟨b3, 0, none⟩)), (10, .int .i64 (p0.Tables.length : Int)), (11, .int .i64 it11_0)] a ∧ w4.heap.size ≤ w5.heap.size ∧ Sl kDeviceR w5.heap (okL [(0, some w.heap.size, none)]) A1 p0.Devices ∧ Sl kTableR w5.heap (okL [(0, some w.heap.size, none)]) A2 p0.Tables ∧ Sl kEntry w5.heap (okL [(0, some w.heap.size, none)]) A3 p0.Job.Table.List_ ∧ Ext w w5 ∧ Box w5.heap b1 79 [.slice A1 p0.Devices.length c_1, .slice A2 p0.Tables.length c_2, .int .i64 p0.Job.Dev, .int .i64 p0.Job.At, .int .i64 p0.Job.Table.Dev, .int .i64 p0.Job.Table.Size, .slice A3 p0.Job.Table.List_.length c_3, .int .i64 p0.Next] ∧ Box w5.heap b3 158 [.map (some b2)] ∧ MapB w5.heap b2 Value.bool mb2_0_0 ∧ chain_tables.l0 p0 k n1 it11_0 mb2_0_0 = some r) k ?_ ?_
 have h10 := (((h1.ext x1).ext x2).ext x3).turnB x4 h6 ⟨.inr (by omega), trivial⟩
 have h11 := (((h2.ext x1).ext x2).ext x3).turnB x4 h6 ⟨.inr (by omega), trivial⟩
 have h12 := (((h3.ext x1).ext x2).ext x3).turnB x4 h6 ⟨.inr (by omega), trivial⟩
 have h13 := Ext.turnB (Ext.trans (Ext.trans (Ext.trans x0 x1) x2) x3) x4 (by omega)
 have h14 := (h5.ext x3).turnB x4 (by omega)
 · exact fun a ha => ⟨0, ([] : List (Int × Bool)), ha.sub ⟨rfl, rfl, rfl, rfl, trivial⟩, by omega, h10, h11, h12, h13, h9, h8, h14, H⟩
 intro n1 a w5 hI hp
 obtain ⟨it11_0, mb2_0_0, hS, hle, gF1_0, gF2_0, gF3_0, x0_0, gb1_0, gb3_0, gb2_0, H⟩ := hI
 cases n1 with
 | zero => cases H
 | succ n1 =>
  rw [chain_tables.l0] at H
  refine CW.go hp hS ?_
  refine CW.seq ?_
  refine CW.lex [.W] rfl ?_
  refine RW.pure tabOk 1 rfl ?_
  refine RW.done ?_
  refine NW.next ?_
  refine CW.seq ?_
  by_cases c1 : it11_0 < (p0.Tables.length : Int)
  ·
   rw [if_pos c1] at H
   refine CW.cond_t rfl (decide_eq_true c1) ?_
   refine CW.skip ?_
   refine NW.next ?_
   refine CW.seq ?_
   refine CW.block ?_
   refine CW.seq ?_
   refine CW.lex [.W, .L, .W, .W] rfl ?_
   refine RW.pure tabOk 1 rfl ?_
   refine RW.load tabOk [.slice A2 p0.Tables.length c_2] ((gb1_0.at 1).take 1 rfl) ⟨rfl, rfl, rfl, rfl⟩ rfl rfl rfl rfl ?_
   refine RW.pure tabOk 2 rfl ?_
   refine RW.done ?_
   refine NW.next ?_
   refine CW.block ?_
   refine CW.loop (fun n2 a w6 => ∃ (it16_1 : Int) (mb2_0_1 : List (Int × Bool)), Sat 42 [(1, .pointer (some ⟨b1, 0, none⟩)), (3, .pointer (some ⟨b3, 0, none⟩)), (10, .int .i64 (p0.Tables.length : Int)), (11, .int .i64 it11_0), (14, .slice A2 p0.Tables.length c_2), (15, .int .i64 (p0.Tables.length : Int)), (16, .int .i64 it16_1)] a ∧ w5.heap.size ≤ w6.heap.size ∧ Sl kDeviceR w6.heap (okL [(0, some w.heap.size, none)]) A1 p0.Devices ∧ Sl kTableR w6.heap (okL [(0, some w.heap.size, none)]) A2 p0.Tables ∧ Sl kEntry w6.heap (okL [(0, some w.heap.size, none)]) A3 p0.Job.Table.List_ ∧ Ext w w6 ∧ Box w6.heap b1 79 [.slice A1 p0.Devices.length c_1, .slice A2 p0.Tables.length c_2, .int .i64 p0.Job.Dev, .int .i64 p0.Job.At, .int .i64 p0.Job.Table.Dev, .int .i64 p0.Job.Table.Size, .slice A3 p0.Job.Table.List_.length c_3, .int .i64 p0.Next] ∧ Box w6.heap b3 158 [.map (some b2)] ∧ MapB w6.heap b2 Value.bool mb2_0_1 ∧ chain_tables.l1 p0 k it11_0 (chain_tables.l0 p0 k n1) n2 it16_1 mb2_0_1 = some r) k ?_ ?_
   · exact fun a ha => ⟨0, mb2_0_0, ha.sub ⟨rfl, rfl, rfl, rfl, rfl, rfl, rfl, trivial⟩, by omega, gF1_0, gF2_0, gF3_0, x0_0, gb1_0, gb3_0, gb2_0, H⟩
   intro n2 a w6 hI hp
   obtain ⟨it16_1, mb2_0_1, hS, hle, gF1_1, gF2_1, gF3_1, x0_1, gb1_1, gb3_1, gb2_1, H⟩ := hI
   cases n2 with
   | zero => cases H
   | succ n2 =>
    rw [chain_tables.l1] at H
    refine CW.go hp hS ?_
    refine CW.seq ?_
    refine CW.lex [.W] rfl ?_
    refine RW.pure tabOk 1 rfl ?_
    refine RW.done ?_
    refine NW.next ?_
    refine CW.seq ?_
    by_cases c2 : it16_1 < (p0.Tables.length : Int)
    ·
     rw [if_pos c2] at H
     refine CW.cond_t rfl (decide_eq_true c2) ?_
     refine CW.skip ?_
     refine NW.next ?_
     refine CW.seqJ (fun a w7 => ∃ (mb2_0_2 : List (Int × Bool)), Sat 42 [(1, .pointer (some ⟨b1, 0, none⟩)), (3, .pointer (some ⟨b3, 0, none⟩)), (10, .int .i64 (p0.Tables.length : Int)), (11, .int .i64 it11_0), (14, .slice A2 p0.Tables.length c_2), (15, .int .i64 (p0.Tables.length : Int)), (16, .int .i64 it16_1)] a ∧ w6.heap.size ≤ w7.heap.size ∧ Sl kDeviceR w7.heap (okL [(0, some w.heap.size, none)]) A1 p0.Devices ∧ Sl kTableR w7.heap (okL [(0, some w.heap.size, none)]) A2 p0.Tables ∧ Sl kEntry w7.heap (okL [(0, some w.heap.size, none)]) A3 p0.Job.Table.List_ ∧ Ext w w7 ∧ Box w7.heap b1 79 [.slice A1 p0.Devices.length c_1, .slice A2 p0.Tables.length c_2, .int .i64 p0.Job.Dev, .int .i64 p0.Job.At, .int .i64 p0.Job.Table.Dev, .int .i64 p0.Job.Table.Size, .slice A3 p0.Job.Table.List_.length c_3, .int .i64 p0.Next] ∧ Box w7.heap b3 158 [.map (some b2)] ∧ MapB w7.heap b2 Value.bool mb2_0_2 ∧ chain_tables.j0 it16_1 (chain_tables.l1 p0 k it11_0 (chain_tables.l0 p0 k n1) n2) mb2_0_2 = some r) ?_ ?_
     ·
      refine CW.block ?_
      refine CW.seq ?_
      refine CW.lex [.W, .L, .X, .M] rfl ?_
      obtain ⟨g1, H⟩ := guard_some H
      obtain ⟨ad1, A4, c_4, e1, a1, l4, h15⟩ := kTableR_at gF2_1 g1.1 g1.2
      refine RW.index tabOk g1.1 g1.2 e1 ⟨rfl, rfl, rfl, rfl⟩ rfl rfl rfl rfl rfl rfl ?_
      refine RW.load tabOk [.int .i64 ((rd p0.Tables it16_1).Dev), .int .i64 ((rd p0.Tables it16_1).Size), .slice A4 ((rd p0.Tables it16_1).List_).length c_4] a1 ⟨rfl, rfl, rfl, rfl⟩ rfl rfl rfl rfl ?_
      refine RW.alloc tabOk (.inl rfl) ⟨rfl, rfl, rfl, rfl⟩ rfl rfl ?_
      intro b4 w8 x5 l5 h16
      have sx5 := x5.size
      have ltb4 := h16.lt
      refine RW.storeBox tabOk h16 [.int .i64 ((rd p0.Tables it16_1).Dev), .int .i64 ((rd p0.Tables it16_1).Size), .slice A4 ((rd p0.Tables it16_1).List_).length c_4] ⟨rfl, rfl, rfl⟩ rfl rfl rfl rfl rfl rfl rfl rfl ?_
      intro w9 x6 h17
      have h18 : Box w9.heap b4 75 [.int .i64 ((rd p0.Tables it16_1).Dev), .int .i64 ((rd p0.Tables it16_1).Size), .slice A4 ((rd p0.Tables it16_1).List_).length c_4] := h17
      have sx6 := x6.size
      refine RW.done ?_
      refine NW.next ?_
      refine CW.seq ?_
      refine CW.lex [.W, .W] rfl ?_
      refine RW.pure tabOk 2 rfl ?_
      refine RW.done ?_
      refine NW.next ?_
      refine CW.ord [0, 0, 2, 0, 0, 16, 56, 120, 248, 504, 248, 2040, 4088, 8184, 16383] (ofL [(1, .W), (4, .W), (0, .L), (2, .L), (3, .L), (5, .L), (6, .L), (7, .W), (8, .W), (10, .W), (9, .L), (11, .X), (12, .W), (13, .W), (14, .M)] .nil) mixed (by kernel_rfl) ?_
      intro w10 x7
      have sx7 := x7.size
      refine RW.pure tabOk 2 rfl ?_
      have h19 := ((gb3_1.ext x5).turnB x6 (by omega)).ext x7
      refine RW.load tabOk [.map (some b2)] (h19.at 0) ⟨rfl, rfl, rfl, rfl⟩ rfl rfl rfl rfl ?_
      have h20 := h18.ext x7
      refine RW.load tabOk [.int .i64 ((rd p0.Tables it16_1).Dev)] ((h20.at 0).take 1 rfl) ⟨rfl, rfl, rfl, rfl⟩ rfl rfl rfl rfl ?_
      refine RW.load tabOk [.map (some b2)] (h19.at 0) ⟨rfl, rfl, rfl, rfl⟩ rfl rfl rfl rfl ?_
      refine RW.load tabOk [.int .i64 ((rd p0.Tables it16_1).Dev)] ((h20.at 0).take 1 rfl) ⟨rfl, rfl, rfl, rfl⟩ rfl rfl rfl rfl ?_
      have h21 := ((gb2_1.ext x5).turnB x6 (by omega)).ext x7
      refine RW.lookup1 (z0 := false) tabOk Tryd.underlying158 Tryd.underlying3 rfl rfl h21 ⟨rfl, rfl, rfl, rfl⟩ rfl rfl rfl ?_
      refine RW.pure tabOk 1 rfl ?_
      by_cases c3 : ((mget mb2_0_1 ((rd p0.Tables it16_1).Dev)).getD false) = true
      ·
       rw [if_pos c3] at H
       refine RW.bool 28 (b' := true) (c3) rfl ?_
       refine RW.pure tabOk 6 rfl ?_
       refine RW.mapUpdate (v := true) Tryd.underlying158 Tryd.underlying3 h21 ⟨rfl, rfl, rfl⟩ rfl rfl rfl rfl ?_
       intro w11 x8 h22
       have sx8 := x8.size
       refine RW.done ?_
       refine NW.norm_block ?_
       have h23 := (((gF1_1.ext x5).turnB x6 h16 ⟨.inr (by omega), trivial⟩).ext x7).turnM x8 h21 ⟨.inr (.inl (by omega)), trivial⟩
       have h24 := (((gF2_1.ext x5).turnB x6 h16 ⟨.inr (by omega), trivial⟩).ext x7).turnM x8 h21 ⟨.inr (.inl (by omega)), trivial⟩
       have h25 := (((gF3_1.ext x5).turnB x6 h16 ⟨.inr (by omega), trivial⟩).ext x7).turnM x8 h21 ⟨.inr (.inl (by omega)), trivial⟩
       have h26 := Ext.turnB (Ext.trans (Ext.turnB (Ext.trans x0_1 x5) x6 (by omega)) x7) x8 (by omega)
       have h27 := (((gb1_1.ext x5).turnB x6 (by omega)).ext x7).turnB x8 (by omega)
       have h28 := h19.turnB x8 (by omega)
       exact NW.J fun a ha => ⟨(mset mb2_0_1 ((rd p0.Tables it16_1).Dev) true), ha.sub ⟨rfl, rfl, rfl, rfl, rfl, rfl, rfl, trivial⟩, by omega, h23, h24, h25, h26, h27, h28, h22, H⟩
      ·
       rw [if_neg c3] at H
       refine RW.bool 28 (b' := false) (bool_f c3) rfl ?_
       refine RW.pure tabOk 2 rfl ?_
       refine RW.load tabOk [.slice A4 ((rd p0.Tables it16_1).List_).length c_4] (h20.at 2) ⟨rfl, rfl, rfl, rfl⟩ rfl rfl rfl rfl ?_
       have xc1 : Ext w10 w10 := Upd.refl _ _
       refine RW.callK (.inl rfl) ent123 ⟨rfl, rfl, rfl, rfl⟩ rfl rfl rfl ?_
       refine calls_start Tryd.func123 rfl 9 rfl [.slice A4 ((rd p0.Tables it16_1).List_).length c_4, .func (.func 122) #[] #[.pointer (some ⟨b3, 0, none⟩), .pointer (some ⟨b1, 0, none⟩)]] rfl ?_
       refine CW.seq ?_
       refine CW.lex [.W] rfl ?_
       refine RW.pure tabOk 1 rfl ?_
       refine RW.done ?_
       refine NW.next ?_
       refine CW.seq ?_
       refine CW.lex [.W, .W, .X, .W, .W] rfl ?_
       refine RW.pure tabOk 2 rfl ?_
       have xc2 : Ext w10 w10 := Upd.refl _ _
       refine RW.callV (R := fun e w12 => ∃ (it7_3 : Int), e = .returned (.int .i64 it7_3) ∧ w10.heap.size ≤ w12.heap.size ∧ Sl kDeviceR w12.heap (okL [(0, some w.heap.size, none)]) A1 p0.Devices ∧ Sl kTableR w12.heap (okL [(0, some w.heap.size, none)]) A2 p0.Tables ∧ Sl kEntry w12.heap (okL [(0, some w.heap.size, none)]) A3 p0.Job.Table.List_ ∧ Ext w w12 ∧ Ext w10 w12 ∧ Ext w10 w12 ∧ Box w12.heap b1 79 [.slice A1 p0.Devices.length c_1, .slice A2 p0.Tables.length c_2, .int .i64 p0.Job.Dev, .int .i64 p0.Job.At, .int .i64 p0.Job.Table.Dev, .int .i64 p0.Job.Table.Size, .slice A3 p0.Job.Table.List_.length c_3, .int .i64 p0.Next] ∧ Box w12.heap b3 158 [.map (some b2)] ∧ MapB w12.heap b2 Value.bool mb2_0_1 ∧ chain_tables.j1 p0 it16_1 mb2_0_1 (chain_tables.l1 p0 k it11_0 (chain_tables.l0 p0 k n1) n2) it7_3 = some r) (.inl rfl) ent138 ⟨rfl, rfl, rfl, rfl⟩ rfl rfl rfl ?_ ?_
       ·
        refine calls_start Tryd.func138 rfl 19 rfl [.slice A4 ((rd p0.Tables it16_1).List_).length c_4, .func (.func 122) #[] #[.pointer (some ⟨b3, 0, none⟩), .pointer (some ⟨b1, 0, none⟩)]] rfl ?_
        refine CW.seq ?_
        refine CW.lex [.W] rfl ?_
        refine RW.pure tabOk 1 rfl ?_
        refine RW.done ?_
        refine NW.next ?_
        refine CW.seq ?_
        refine CW.seq ?_
        refine CW.lex [.W, .W, .W] rfl ?_
        refine RW.pure tabOk 3 rfl ?_
        refine RW.done ?_
        refine NW.next ?_
        refine CW.block ?_
        refine CW.loop (fun n3 a w13 => ∃ (it8_4 : Int), Sat 19 [(0, .slice A4 ((rd p0.Tables it16_1).List_).length c_4), (1, .func (.func 122) #[] #[.pointer (some ⟨b3, 0, none⟩), .pointer (some ⟨b1, 0, none⟩)]), (7, .int .i64 (((rd p0.Tables it16_1).List_).length : Int)), (8, .int .i64 it8_4)] a ∧ w10.heap.size ≤ w13.heap.size ∧ Sl kEntry w13.heap (okL [(0, some w.heap.size, none)]) A4 ((rd p0.Tables it16_1).List_) ∧ Sl kDeviceR w13.heap (okL [(0, some w.heap.size, none)]) A1 p0.Devices ∧ Sl kTableR w13.heap (okL [(0, some w.heap.size, none)]) A2 p0.Tables ∧ Sl kEntry w13.heap (okL [(0, some w.heap.size, none)]) A3 p0.Job.Table.List_ ∧ Ext w w13 ∧ Ext w10 w13 ∧ Ext w10 w13 ∧ Box w13.heap b3 158 [.map (some b2)] ∧ MapB w13.heap b2 Value.bool mb2_0_1 ∧ Box w13.heap b1 79 [.slice A1 p0.Devices.length c_1, .slice A2 p0.Tables.length c_2, .int .i64 p0.Job.Dev, .int .i64 p0.Job.At, .int .i64 p0.Job.Table.Dev, .int .i64 p0.Job.Table.Size, .slice A3 p0.Job.Table.List_.length c_3, .int .i64 p0.Next] ∧ chain_tables.l2 p0 k it16_1 mb2_0_1 (chain_tables.l1 p0 k it11_0 (chain_tables.l0 p0 k n1) n2) n3 it8_4 = some r) k ?_ ?_
        have h29 := ((h15.ext x5).turnB x6 h16 ⟨.inr (by omega), trivial⟩).ext x7
        have h30 := ((gF1_1.ext x5).turnB x6 h16 ⟨.inr (by omega), trivial⟩).ext x7
        have h31 := ((gF2_1.ext x5).turnB x6 h16 ⟨.inr (by omega), trivial⟩).ext x7
        have h32 := ((gF3_1.ext x5).turnB x6 h16 ⟨.inr (by omega), trivial⟩).ext x7
        have h33 := Ext.trans (Ext.turnB (Ext.trans x0_1 x5) x6 (by omega)) x7
        have h34 := ((gb1_1.ext x5).turnB x6 (by omega)).ext x7
        · exact fun a ha => ⟨0, ha.sub ⟨rfl, rfl, rfl, rfl, trivial⟩, by omega, h29, h30, h31, h32, h33, xc1, xc2, h19, h21, h34, H⟩
        intro n3 a w13 hI hp
        obtain ⟨it8_4, hS, hle, gF4_4, gF1_4, gF2_4, gF3_4, x0_4, x_xc1_4, x_xc2_4, gb3_4, gb2_4, gb1_4, H⟩ := hI
        cases n3 with
        | zero => cases H
        | succ n3 =>
         rw [chain_tables.l2] at H
         refine CW.go hp hS ?_
         refine CW.seq ?_
         refine CW.lex [.W] rfl ?_
         refine RW.pure tabOk 1 rfl ?_
         refine RW.done ?_
         refine NW.next ?_
         refine CW.seq ?_
         by_cases c4 : it8_4 < (((rd p0.Tables it16_1).List_).length : Int)
         ·
          rw [if_pos c4] at H
          refine CW.cond_t rfl (decide_eq_true c4) ?_
          refine CW.skip ?_
          refine NW.next ?_
          refine CW.seq ?_
          refine CW.block ?_
          refine CW.seq ?_
          refine CW.lex [.W, .W] rfl ?_
          refine RW.pure tabOk 2 rfl ?_
          refine RW.done ?_
          refine NW.next ?_
          refine CW.seq ?_
          refine CW.lex [.W, .W, .W, .W, .L, .M] rfl ?_
          refine RW.pure tabOk 3 rfl ?_
          obtain ⟨g2, H⟩ := guard_some H
          obtain ⟨ad2, e2, a2⟩ := kEntry_at gF4_4 g2.1 g2.2
          refine RW.index tabOk g2.1 g2.2 e2 ⟨rfl, rfl, rfl, rfl⟩ rfl rfl rfl rfl rfl rfl ?_
          refine RW.load tabOk [.int .i64 ((rd ((rd p0.Tables it16_1).List_) it8_4).From), .int .i64 ((rd ((rd p0.Tables it16_1).List_) it8_4).Len), .int .i64 ((rd ((rd p0.Tables it16_1).List_) it8_4).Dev), .int .i64 ((rd ((rd p0.Tables it16_1).List_) it8_4).To), .int .i64 ((rd ((rd p0.Tables it16_1).List_) it8_4).Stale)] a2 ⟨rfl, rfl, rfl, rfl⟩ rfl rfl rfl rfl ?_
          refine RW.callFM (R := fun e w14 => ∃ (bt16_5 : Bool), e = .returned (.bool bt16_5) ∧ w13.heap.size ≤ w14.heap.size ∧ Sl kEntry w14.heap (okL [(0, some w.heap.size, none)]) A4 ((rd p0.Tables it16_1).List_) ∧ Sl kDeviceR w14.heap (okL [(0, some w.heap.size, none)]) A1 p0.Devices ∧ Sl kTableR w14.heap (okL [(0, some w.heap.size, none)]) A2 p0.Tables ∧ Sl kEntry w14.heap (okL [(0, some w.heap.size, none)]) A3 p0.Job.Table.List_ ∧ Ext w w14 ∧ Ext w10 w14 ∧ Ext w10 w14 ∧ Box w14.heap b3 158 [.map (some b2)] ∧ MapB w14.heap b2 Value.bool mb2_0_1 ∧ Box w14.heap b1 79 [.slice A1 p0.Devices.length c_1, .slice A2 p0.Tables.length c_2, .int .i64 p0.Job.Dev, .int .i64 p0.Job.At, .int .i64 p0.Job.Table.Dev, .int .i64 p0.Job.Table.Size, .slice A3 p0.Job.Table.List_.length c_3, .int .i64 p0.Next] ∧ chain_tables.j2 p0 it16_1 mb2_0_1 it8_4 (chain_tables.l1 p0 k it11_0 (chain_tables.l0 p0 k n1) n2) (chain_tables.l2 p0 k it16_1 mb2_0_1 (chain_tables.l1 p0 k it11_0 (chain_tables.l0 p0 k n1) n2) n3) bt16_5 = some r) ent122 ⟨rfl, rfl, rfl, rfl⟩ rfl rfl rfl ?_ ?_
          ·
           refine calls_start Tryd.func122 rfl 17 rfl [.agg #[.int .i64 ((rd ((rd p0.Tables it16_1).List_) it8_4).From), .int .i64 ((rd ((rd p0.Tables it16_1).List_) it8_4).Len), .int .i64 ((rd ((rd p0.Tables it16_1).List_) it8_4).Dev), .int .i64 ((rd ((rd p0.Tables it16_1).List_) it8_4).To), .int .i64 ((rd ((rd p0.Tables it16_1).List_) it8_4).Stale)], .pointer (some ⟨b3, 0, none⟩), .pointer (some ⟨b1, 0, none⟩)] rfl ?_
           refine CW.seq ?_
           refine CW.lex [.X, .W] rfl ?_
           refine RW.box (cs := [.int .i64 ((rd ((rd p0.Tables it16_1).List_) it8_4).From), .int .i64 ((rd ((rd p0.Tables it16_1).List_) it8_4).Len), .int .i64 ((rd ((rd p0.Tables it16_1).List_) it8_4).Dev), .int .i64 ((rd ((rd p0.Tables it16_1).List_) it8_4).To), .int .i64 ((rd ((rd p0.Tables it16_1).List_) it8_4).Stale)]) (.inl rfl) ⟨rfl, rfl, rfl, rfl⟩ rfl rfl rfl ?_
           intro b5 w15 x9 l6 h35
           have sx9 := x9.size
           have ltb5 := h35.lt
           refine RW.pure tabOk 1 rfl ?_
           refine RW.done ?_
           refine NW.next ?_
           refine CW.seq ?_
           refine CW.lex [.L, .W, .L, .L, .W, .W, .L, .W, .L, .X, .W, .W, .W] rfl ?_
           have h36 := gb3_4.ext x9
           refine RW.load tabOk [.map (some b2)] (h36.at 0) ⟨rfl, rfl, rfl, rfl⟩ rfl rfl rfl rfl ?_
           refine RW.pure tabOk 1 rfl ?_
           refine RW.load tabOk [.int .i64 ((rd ((rd p0.Tables it16_1).List_) it8_4).Dev)] ((h35.at 2).take 1 rfl) ⟨rfl, rfl, rfl, rfl⟩ rfl rfl rfl rfl ?_
           have h37 := gb2_4.ext x9
           refine RW.lookup1 (z0 := false) tabOk Tryd.underlying158 Tryd.underlying3 rfl rfl h37 ⟨rfl, rfl, rfl, rfl⟩ rfl rfl rfl ?_
           refine RW.pure tabOk 2 rfl ?_
           by_cases c5 : ((mget mb2_0_1 ((rd ((rd p0.Tables it16_1).List_) it8_4).Dev)).getD false) = true
           ·
            rw [if_pos c5] at H
            refine RW.bool 10 (b' := false) (not_f (c5)) rfl ?_
            refine RW.pure tabOk 7 rfl ?_
            refine RW.done ?_
            refine NW.next ?_
            refine CW.ret ?_
            have h38 := gF4_4.ext x9
            have h39 := gF1_4.ext x9
            have h40 := gF2_4.ext x9
            have h41 := gF3_4.ext x9
            have h42 := Ext.trans x0_4 x9
            have h43 := Ext.trans x_xc1_4 x9
            have h44 := Ext.trans x_xc2_4 x9
            have h45 := gb1_4.ext x9
            exact NW.ret1 rfl (by rfl) ⟨false, rfl, by omega, h38, h39, h40, h41, h42, h43, h44, h36, h37, h45, H⟩
           ·
            rw [if_neg c5] at H
            refine RW.bool 10 (b' := true) (not_t (bool_f c5)) rfl ?_
            have h46 := gb1_4.ext x9
            refine RW.load tabOk [.slice A1 p0.Devices.length c_1, .slice A2 p0.Tables.length c_2, .int .i64 p0.Job.Dev, .int .i64 p0.Job.At, .int .i64 p0.Job.Table.Dev, .int .i64 p0.Job.Table.Size, .slice A3 p0.Job.Table.List_.length c_3, .int .i64 p0.Next] (h46.at 0) ⟨rfl, rfl, rfl, rfl⟩ rfl rfl rfl rfl ?_
            refine RW.pure tabOk 1 rfl ?_
            refine RW.load tabOk [.int .i64 ((rd ((rd p0.Tables it16_1).List_) it8_4).Dev)] ((h35.at 2).take 1 rfl) ⟨rfl, rfl, rfl, rfl⟩ rfl rfl rfl rfl ?_
            have h47 := gF1_4.ext x9
            have h48 := gF2_4.ext x9
            have h49 := gF3_4.ext x9
            obtain ⟨y1, h50, H⟩ := bind_some H
            refine RW.callF (.inl rfl) ent117 ⟨rfl, rfl, rfl, rfl⟩ rfl rfl (chain_device.calls k p0 A1 c_1 A2 c_2 A3 c_3 ((rd ((rd p0.Tables it16_1).List_) it8_4).Dev) _ _ h47.all hl1 h48.all hl2 h49.all hl3 h50) ?_
            rintro _ w16 ⟨rfl, x10⟩
            refine ⟨_, rfl, x10, ?_⟩
            have sx10 := x10.size
            refine RW.pure tabOk 3 rfl ?_
            refine RW.done ?_
            refine NW.next ?_
            refine CW.ret ?_
            have h51 := (gF4_4.ext x9).ext x10
            have h52 := h47.ext x10
            have h53 := h48.ext x10
            have h54 := h49.ext x10
            have h55 := Ext.trans (Ext.trans x0_4 x9) x10
            have h56 := Ext.trans (Ext.trans x_xc1_4 x9) x10
            have h57 := Ext.trans (Ext.trans x_xc2_4 x9) x10
            have h58 := h36.ext x10
            have h59 := h37.ext x10
            have h60 := h46.ext x10
            exact NW.ret1 rfl (by rfl) ⟨(!y1), rfl, by omega, h51, h52, h53, h54, h55, h56, h57, h58, h59, h60, H⟩
          rintro _ w14 ⟨bt16_5, rfl, hle, gF4_5, gF1_5, gF2_5, gF3_5, x0_5, x_xc1_5, x_xc2_5, gb3_5, gb2_5, gb1_5, H⟩
          refine ⟨_, rfl, ?_⟩
          unfold chain_tables.j2 at H
          refine RW.done ?_
          refine NW.next ?_
          by_cases c6 : bt16_5 = true
          ·
           rw [if_pos c6] at H
           refine CW.cond_t rfl (c6) ?_
           refine CW.seq ?_
           refine CW.lex [.W, .W] rfl ?_
           refine RW.pure tabOk 2 rfl ?_
           refine RW.done ?_
           refine NW.next ?_
           refine CW.ret ?_
           refine NW.ret_block (NW.ret_then (NW.ret_then (NW.ret_block (NW.ret_then ?_))))
           exact NW.ret1 rfl (by rfl) ⟨it8_4, rfl, by omega, gF1_5, gF2_5, gF3_5, x0_5, x_xc1_5, x_xc2_5, gb1_5, gb3_5, gb2_5, H⟩
          ·
           rw [if_neg c6] at H
           refine CW.cond_f rfl (bool_f c6) ?_
           refine CW.skip ?_
           refine NW.norm_block (NW.next ?_)
           refine CW.lex [.W, .W] rfl ?_
           refine RW.pure tabOk 2 rfl ?_
           refine RW.done ?_
           exact NW.J fun a ha => ⟨n3, Nat.lt_succ_self n3, (w64 (it8_4 + 1)), ha.sub ⟨rfl, rfl, rfl, rfl, trivial⟩, by omega, gF4_5, gF1_5, gF2_5, gF3_5, x0_5, x_xc1_5, x_xc2_5, gb3_5, gb2_5, gb1_5, H⟩
         ·
          rw [if_neg c4] at H
          refine CW.cond_f rfl (decide_eq_false c4) ?_
          refine CW.exit ?_
          refine NW.exit_then (NW.exit_then (NW.exit_hit ?_))
          refine NW.next ?_
          refine CW.seq ?_
          refine CW.lex [.W] rfl ?_
          refine RW.pure tabOk 1 rfl ?_
          refine RW.done ?_
          refine NW.next ?_
          refine CW.ret ?_
          exact NW.ret1 rfl (by rfl) ⟨(-1), rfl, by omega, gF1_4, gF2_4, gF3_4, x0_4, x_xc1_4, x_xc2_4, gb1_4, gb3_4, gb2_4, H⟩
       rintro _ w12 ⟨it7_3, rfl, hle, gF1_3, gF2_3, gF3_3, x0_3, x_xc1_3, x_xc2_3, gb1_3, gb3_3, gb2_3, H⟩
       refine ⟨_, rfl, x_xc2_3, ?_⟩
       unfold chain_tables.j1 at H
       refine RW.pure tabOk 2 rfl ?_
       refine RW.done ?_
       refine NW.next ?_
       refine CW.ret ?_
       refine NW.ret1 rfl (by rfl) ⟨_, rfl, x_xc1_3, ?_⟩
       refine RW.pure tabOk 2 rfl ?_
       refine RW.mapUpdate (v := (!(decide (0 ≤ it7_3)))) Tryd.underlying158 Tryd.underlying3 gb2_3 ⟨rfl, rfl, rfl⟩ rfl rfl rfl rfl ?_
       intro w17 x11 h61
       have sx11 := x11.size
       refine RW.done ?_
       refine NW.norm_block ?_
       have h62 := gF1_3.turnM x11 gb2_3 ⟨.inr (.inl (by omega)), trivial⟩
       have h63 := gF2_3.turnM x11 gb2_3 ⟨.inr (.inl (by omega)), trivial⟩
       have h64 := gF3_3.turnM x11 gb2_3 ⟨.inr (.inl (by omega)), trivial⟩
       have h65 := Ext.turnB x0_3 x11 (by omega)
       have h66 := gb1_3.turnB x11 (by omega)
       have h67 := gb3_3.turnB x11 (by omega)
       exact NW.J fun a ha => ⟨(mset mb2_0_1 ((rd p0.Tables it16_1).Dev) (!(decide (0 ≤ it7_3)))), ha.sub ⟨rfl, rfl, rfl, rfl, rfl, rfl, rfl, trivial⟩, by omega, h62, h63, h64, h65, h66, h67, h61, H⟩
     intro a w7 hJ hp
     obtain ⟨mb2_0_2, hS, hle, gF1_2, gF2_2, gF3_2, x0_2, gb1_2, gb3_2, gb2_2, H⟩ := hJ
     unfold chain_tables.j0 at H
     refine CW.go hp hS ?_
     refine CW.lex [.W, .W] rfl ?_
     refine RW.pure tabOk 2 rfl ?_
     refine RW.done ?_
     exact NW.J fun a ha => ⟨n2, Nat.lt_succ_self n2, (w64 (it16_1 + 1)), mb2_0_2, ha.sub ⟨rfl, rfl, rfl, rfl, rfl, rfl, rfl, trivial⟩, by omega, gF1_2, gF2_2, gF3_2, x0_2, gb1_2, gb3_2, gb2_2, H⟩
    ·
     rw [if_neg c2] at H
     refine CW.cond_f rfl (decide_eq_false c2) ?_
     refine CW.exit ?_
     refine NW.exit_then (NW.exit_then (NW.exit_hit ?_))
     refine NW.norm_block (NW.next ?_)
     refine CW.lex [.W, .W] rfl ?_
     refine RW.pure tabOk 2 rfl ?_
     refine RW.done ?_
     exact NW.J fun a ha => ⟨n1, Nat.lt_succ_self n1, (w64 (it11_0 + 1)), mb2_0_1, ha.sub ⟨rfl, rfl, rfl, rfl, trivial⟩, by omega, gF1_1, gF2_1, gF3_1, x0_1, gb1_1, gb3_1, gb2_1, H⟩
  ·
   rw [if_neg c1] at H
   refine CW.cond_f rfl (decide_eq_false c1) ?_
   refine CW.exit ?_
   refine NW.exit_then (NW.exit_then (NW.exit_hit ?_))
   refine NW.next ?_
   refine CW.seq ?_
   refine CW.lex [.W, .L, .W, .X, .W, .W] rfl ?_
   refine RW.pure tabOk 1 rfl ?_
   refine RW.load tabOk [.slice A2 p0.Tables.length c_2] ((gb1_0.at 1).take 1 rfl) ⟨rfl, rfl, rfl, rfl⟩ rfl rfl rfl rfl ?_
   refine RW.pure tabOk 1 rfl ?_
   have xc3 : Ext w5 w5 := Upd.refl _ _
   refine RW.callK (.inl rfl) ent124 ⟨rfl, rfl, rfl, rfl⟩ rfl rfl rfl ?_
   refine calls_start Tryd.func124 rfl 9 rfl [.slice A2 p0.Tables.length c_2, .func (.func 125) #[] #[.pointer (some ⟨b3, 0, none⟩)]] rfl ?_
   refine CW.seq ?_
   refine CW.lex [.W] rfl ?_
   refine RW.pure tabOk 1 rfl ?_
   refine RW.done ?_
   refine NW.next ?_
   refine CW.seq ?_
   refine CW.lex [.W, .W, .X, .W, .W] rfl ?_
   refine RW.pure tabOk 2 rfl ?_
   have xc4 : Ext w5 w5 := Upd.refl _ _
   refine RW.callV (R := fun e w18 => ∃ (it7_6 : Int), e = .returned (.int .i64 it7_6) ∧ w5.heap.size ≤ w18.heap.size ∧ Ext w w18 ∧ Ext w5 w18 ∧ Ext w5 w18 ∧ chain_tables.j3 it7_6 = some r) (.inl rfl) ent139 ⟨rfl, rfl, rfl, rfl⟩ rfl rfl rfl ?_ ?_
   ·
    refine calls_start Tryd.func139 rfl 19 rfl [.slice A2 p0.Tables.length c_2, .func (.func 125) #[] #[.pointer (some ⟨b3, 0, none⟩)]] rfl ?_
    refine CW.seq ?_
    refine CW.lex [.W] rfl ?_
    refine RW.pure tabOk 1 rfl ?_
    refine RW.done ?_
    refine NW.next ?_
    refine CW.seq ?_
    refine CW.seq ?_
    refine CW.lex [.W, .W, .W] rfl ?_
    refine RW.pure tabOk 3 rfl ?_
    refine RW.done ?_
    refine NW.next ?_
    refine CW.block ?_
    refine CW.loop (fun n4 a w19 => ∃ (it8_7 : Int), Sat 19 [(0, .slice A2 p0.Tables.length c_2), (1, .func (.func 125) #[] #[.pointer (some ⟨b3, 0, none⟩)]), (7, .int .i64 (p0.Tables.length : Int)), (8, .int .i64 it8_7)] a ∧ w5.heap.size ≤ w19.heap.size ∧ Sl kTableR w19.heap (okL [(0, some w.heap.size, none)]) A2 p0.Tables ∧ Ext w w19 ∧ Ext w5 w19 ∧ Ext w5 w19 ∧ Box w19.heap b3 158 [.map (some b2)] ∧ MapB w19.heap b2 Value.bool mb2_0_0 ∧ chain_tables.l3 p0 mb2_0_0 n4 it8_7 = some r) k ?_ ?_
    · exact fun a ha => ⟨0, ha.sub ⟨rfl, rfl, rfl, rfl, trivial⟩, by omega, gF2_0, x0_0, xc3, xc4, gb3_0, gb2_0, H⟩
    intro n4 a w19 hI hp
    obtain ⟨it8_7, hS, hle, gF2_7, x0_7, x_xc3_7, x_xc4_7, gb3_7, gb2_7, H⟩ := hI
    cases n4 with
    | zero => cases H
    | succ n4 =>
     rw [chain_tables.l3] at H
     refine CW.go hp hS ?_
     refine CW.seq ?_
     refine CW.lex [.W] rfl ?_
     refine RW.pure tabOk 1 rfl ?_
     refine RW.done ?_
     refine NW.next ?_
     refine CW.seq ?_
     by_cases c7 : it8_7 < (p0.Tables.length : Int)
     ·
      rw [if_pos c7] at H
      refine CW.cond_t rfl (decide_eq_true c7) ?_
      refine CW.skip ?_
      refine NW.next ?_
      refine CW.seq ?_
      refine CW.block ?_
      refine CW.seq ?_
      refine CW.lex [.W, .W] rfl ?_
      refine RW.pure tabOk 2 rfl ?_
      refine RW.done ?_
      refine NW.next ?_
      refine CW.seq ?_
      refine CW.lex [.W, .W, .W, .W, .L, .M] rfl ?_
      refine RW.pure tabOk 3 rfl ?_
      obtain ⟨g3, H⟩ := guard_some H
      obtain ⟨ad3, A5, c_5, e3, a3, l7, h68⟩ := kTableR_at gF2_7 g3.1 g3.2
      refine RW.index tabOk g3.1 g3.2 e3 ⟨rfl, rfl, rfl, rfl⟩ rfl rfl rfl rfl rfl rfl ?_
      refine RW.load tabOk [.int .i64 ((rd p0.Tables it8_7).Dev), .int .i64 ((rd p0.Tables it8_7).Size), .slice A5 ((rd p0.Tables it8_7).List_).length c_5] a3 ⟨rfl, rfl, rfl, rfl⟩ rfl rfl rfl rfl ?_
      refine RW.callKM ent125 ⟨rfl, rfl, rfl, rfl⟩ rfl rfl rfl ?_
      refine calls_start Tryd.func125 rfl 9 rfl [.agg #[.int .i64 ((rd p0.Tables it8_7).Dev), .int .i64 ((rd p0.Tables it8_7).Size), .slice A5 ((rd p0.Tables it8_7).List_).length c_5], .pointer (some ⟨b3, 0, none⟩)] rfl ?_
      refine CW.seq ?_
      refine CW.lex [.X, .W] rfl ?_
      refine RW.box (cs := [.int .i64 ((rd p0.Tables it8_7).Dev), .int .i64 ((rd p0.Tables it8_7).Size), .slice A5 ((rd p0.Tables it8_7).List_).length c_5]) (.inl rfl) ⟨rfl, rfl, rfl, rfl⟩ rfl rfl rfl ?_
      intro b6 w20 x12 l8 h69
      have sx12 := x12.size
      have ltb6 := h69.lt
      refine RW.pure tabOk 1 rfl ?_
      refine RW.done ?_
      refine NW.next ?_
      refine CW.seq ?_
      refine CW.lex [.L, .W, .L, .L, .W, .W] rfl ?_
      have h70 := gb3_7.ext x12
      refine RW.load tabOk [.map (some b2)] (h70.at 0) ⟨rfl, rfl, rfl, rfl⟩ rfl rfl rfl rfl ?_
      refine RW.pure tabOk 1 rfl ?_
      refine RW.load tabOk [.int .i64 ((rd p0.Tables it8_7).Dev)] ((h69.at 0).take 1 rfl) ⟨rfl, rfl, rfl, rfl⟩ rfl rfl rfl rfl ?_
      have h71 := gb2_7.ext x12
      refine RW.lookup1 (z0 := false) tabOk Tryd.underlying158 Tryd.underlying3 rfl rfl h71 ⟨rfl, rfl, rfl, rfl⟩ rfl rfl rfl ?_
      refine RW.pure tabOk 2 rfl ?_
      refine RW.done ?_
      refine NW.next ?_
      refine CW.ret ?_
      refine NW.ret1 rfl (by rfl) ⟨_, rfl, ?_⟩
      refine RW.done ?_
      refine NW.next ?_
      by_cases c8 : ((mget mb2_0_0 ((rd p0.Tables it8_7).Dev)).getD false) = true
      ·
       rw [if_pos c8] at H
       refine CW.cond_f rfl (not_f (c8)) ?_
       refine CW.skip ?_
       refine NW.norm_block (NW.next ?_)
       refine CW.lex [.W, .W] rfl ?_
       refine RW.pure tabOk 2 rfl ?_
       refine RW.done ?_
       have h72 := gF2_7.ext x12
       have h73 := Ext.trans x0_7 x12
       have h74 := Ext.trans x_xc3_7 x12
       have h75 := Ext.trans x_xc4_7 x12
       exact NW.J fun a ha => ⟨n4, Nat.lt_succ_self n4, (w64 (it8_7 + 1)), ha.sub ⟨rfl, rfl, rfl, rfl, trivial⟩, by omega, h72, h73, h74, h75, h70, h71, H⟩
      ·
       rw [if_neg c8] at H
       refine CW.cond_t rfl (not_t (bool_f c8)) ?_
       refine CW.seq ?_
       refine CW.lex [.W, .W] rfl ?_
       refine RW.pure tabOk 2 rfl ?_
       refine RW.done ?_
       refine NW.next ?_
       refine CW.ret ?_
       refine NW.ret_block (NW.ret_then (NW.ret_then (NW.ret_block (NW.ret_then ?_))))
       have h76 := Ext.trans x0_7 x12
       have h77 := Ext.trans x_xc3_7 x12
       have h78 := Ext.trans x_xc4_7 x12
       exact NW.ret1 rfl (by rfl) ⟨it8_7, rfl, by omega, h76, h77, h78, H⟩
     ·
      rw [if_neg c7] at H
      refine CW.cond_f rfl (decide_eq_false c7) ?_
      refine CW.exit ?_
      refine NW.exit_then (NW.exit_then (NW.exit_hit ?_))
      refine NW.next ?_
      refine CW.seq ?_
      refine CW.lex [.W] rfl ?_
      refine RW.pure tabOk 1 rfl ?_
      refine RW.done ?_
      refine NW.next ?_
      refine CW.ret ?_
      exact NW.ret1 rfl (by rfl) ⟨(-1), rfl, by omega, x0_7, x_xc3_7, x_xc4_7, H⟩
   rintro _ w18 ⟨it7_6, rfl, hle, x0_6, x_xc3_6, x_xc4_6, H⟩
   refine ⟨_, rfl, x_xc4_6, ?_⟩
   unfold chain_tables.j3 at H
   refine RW.pure tabOk 2 rfl ?_
   refine RW.done ?_
   refine NW.next ?_
   refine CW.ret ?_
   refine NW.ret1 rfl (by rfl) ⟨_, rfl, x_xc3_6, ?_⟩
   refine RW.pure tabOk 2 rfl ?_
   refine RW.done ?_
   refine NW.next ?_
   refine CW.ret ?_
   obtain rfl := Option.some.inj H
   exact NW.ret1 rfl (by rfl) ⟨rfl, x0_6⟩

set_option maxHeartbeats 20000000 in
set_option maxRecDepth 100000 in
theorem chain_none.calls (p0 : Job) (A1 : Option Addr) (c_1 : Nat) (r : Bool) (w : World) (hs1 : Sl kEntry w.heap okAll A1 p0.Table.List_) (hl1 : p0.Table.List_.length ≤ c_1) (H : chain_none.f p0 = some r) :
    Calls Tryd.prog 126 #[.agg #[.int .i64 p0.Dev, .int .i64 p0.At, .int .i64 p0.Table.Dev, .int .i64 p0.Table.Size, .slice A1 p0.Table.List_.length c_1]] w fun e w' => e = .returned (.bool r) ∧ Ext w w' := by
 have h1 : Sl kEntry w.heap (okL [(0, some w.heap.size, none)]) A1 p0.Table.List_ := hs1.old _ rfl
 have x0 : Ext w w := Upd.refl _ w
 unfold chain_none.f at H
 refine calls_start Tryd.func126 rfl 30 rfl [.agg #[.int .i64 p0.Dev, .int .i64 p0.At, .int .i64 p0.Table.Dev, .int .i64 p0.Table.Size, .slice A1 p0.Table.List_.length c_1]] rfl ?_
 refine CW.seq ?_
 refine CW.lex [.X, .W] rfl ?_
 refine RW.box (cs := [.int .i64 p0.Dev, .int .i64 p0.At, .int .i64 p0.Table.Dev, .int .i64 p0.Table.Size, .slice A1 p0.Table.List_.length c_1]) (.inl rfl) ⟨rfl, rfl, rfl, rfl⟩ rfl rfl rfl ?_
 intro b1 w1 x1 l1 h2
 have sx1 := x1.size
 have ltb1 := h2.lt
 refine RW.pure tabOk 1 rfl ?_
 refine RW.done ?_
 refine NW.next ?_
 refine CW.seq ?_
 refine CW.lex [.W, .L, .W, .W, .W, .L, .W, .W, .W, .W, .W, .L, .W, .W, .W, .W, .W, .L, .W, .W, .W, .W, .W, .L, .W, .W, .W, .W] rfl ?_
 refine RW.pure tabOk 1 rfl ?_
 refine RW.load tabOk [.int .i64 p0.Dev] ((h2.at 0).take 1 rfl) ⟨rfl, rfl, rfl, rfl⟩ rfl rfl rfl rfl ?_
 refine RW.pure tabOk 2 rfl ?_
 by_cases c1 : p0.Dev = 0
 ·
  rw [if_pos c1] at H
  refine RW.bool 6 (b' := true) (beq_t c1) rfl ?_
  refine RW.pure tabOk 1 rfl ?_
  refine RW.load tabOk [.int .i64 p0.At] ((h2.at 1).take 1 rfl) ⟨rfl, rfl, rfl, rfl⟩ rfl rfl rfl rfl ?_
  refine RW.pure tabOk 3 rfl ?_
  by_cases c2 : p0.At = 0
  ·
   rw [if_pos c2] at H
   refine RW.bool 11 (b' := true) (beq_t c2) rfl ?_
   refine RW.pure tabOk 2 rfl ?_
   refine RW.load tabOk [.int .i64 p0.Table.Dev] ((h2.at 2).take 1 rfl) ⟨rfl, rfl, rfl, rfl⟩ rfl rfl rfl rfl ?_
   refine RW.pure tabOk 3 rfl ?_
   by_cases c3 : p0.Table.Dev = 0
   ·
    rw [if_pos c3] at H
    refine RW.bool 17 (b' := true) (beq_t c3) rfl ?_
    refine RW.pure tabOk 2 rfl ?_
    refine RW.load tabOk [.int .i64 p0.Table.Size] ((h2.at 3).take 1 rfl) ⟨rfl, rfl, rfl, rfl⟩ rfl rfl rfl rfl ?_
    refine RW.pure tabOk 3 rfl ?_
    by_cases c4 : p0.Table.Size = 0
    ·
     rw [if_pos c4] at H
     refine RW.bool 23 (b' := true) (beq_t c4) rfl ?_
     refine RW.pure tabOk 2 rfl ?_
     refine RW.load tabOk [.slice A1 p0.Table.List_.length c_1] (h2.at 4) ⟨rfl, rfl, rfl, rfl⟩ rfl rfl rfl rfl ?_
     refine RW.pure tabOk 4 rfl ?_
     refine RW.done ?_
     refine NW.next ?_
     refine CW.ret ?_
     obtain rfl := Option.some.inj H
     have h3 := Ext.trans x0 x1
     exact NW.ret1 rfl (by rfl) ⟨rfl, h3⟩
    ·
     rw [if_neg c4] at H
     refine RW.bool 23 (b' := false) (beq_f c4) rfl ?_
     refine RW.pure tabOk 7 rfl ?_
     refine RW.done ?_
     refine NW.next ?_
     refine CW.ret ?_
     obtain rfl := Option.some.inj H
     have h4 := Ext.trans x0 x1
     exact NW.ret1 rfl (by rfl) ⟨rfl, h4⟩
   ·
    rw [if_neg c3] at H
    refine RW.bool 17 (b' := false) (beq_f c3) rfl ?_
    refine RW.pure tabOk 13 rfl ?_
    refine RW.done ?_
    refine NW.next ?_
    refine CW.ret ?_
    obtain rfl := Option.some.inj H
    have h5 := Ext.trans x0 x1
    exact NW.ret1 rfl (by rfl) ⟨rfl, h5⟩
  ·
   rw [if_neg c2] at H
   refine RW.bool 11 (b' := false) (beq_f c2) rfl ?_
   refine RW.pure tabOk 19 rfl ?_
   refine RW.done ?_
   refine NW.next ?_
   refine CW.ret ?_
   obtain rfl := Option.some.inj H
   have h6 := Ext.trans x0 x1
   exact NW.ret1 rfl (by rfl) ⟨rfl, h6⟩
 ·
  rw [if_neg c1] at H
  refine RW.bool 6 (b' := false) (beq_f c1) rfl ?_
  refine RW.pure tabOk 24 rfl ?_
  refine RW.done ?_
  refine NW.next ?_
  refine CW.ret ?_
  obtain rfl := Option.some.inj H
  have h7 := Ext.trans x0 x1
  exact NW.ret1 rfl (by rfl) ⟨rfl, h7⟩

set_option maxHeartbeats 20000000 in
set_option maxRecDepth 100000 in
theorem chain_job.calls (k : Nat) (p0 : Pool) (A1 : Option Addr) (c_1 : Nat) (A2 : Option Addr) (c_2 : Nat) (A3 : Option Addr) (c_3 : Nat) (r : Bool) (w : World) (hs1 : Sl kDeviceR w.heap okAll A1 p0.Devices) (hl1 : p0.Devices.length ≤ c_1) (hs2 : Sl kTableR w.heap okAll A2 p0.Tables) (hl2 : p0.Tables.length ≤ c_2) (hs3 : Sl kEntry w.heap okAll A3 p0.Job.Table.List_) (hl3 : p0.Job.Table.List_.length ≤ c_3) (H : chain_job.f k p0 = some r) :
    Calls Tryd.prog 93 #[.agg #[.slice A1 p0.Devices.length c_1, .slice A2 p0.Tables.length c_2, .int .i64 p0.Job.Dev, .int .i64 p0.Job.At, .int .i64 p0.Job.Table.Dev, .int .i64 p0.Job.Table.Size, .slice A3 p0.Job.Table.List_.length c_3, .int .i64 p0.Next]] w fun e w' => e = .returned (.bool r) ∧ Ext w w' := by
 have h1 : Sl kDeviceR w.heap (okL [(0, some w.heap.size, none)]) A1 p0.Devices := hs1.old _ rfl
 have h2 : Sl kTableR w.heap (okL [(0, some w.heap.size, none)]) A2 p0.Tables := hs2.old _ rfl
 have h3 : Sl kEntry w.heap (okL [(0, some w.heap.size, none)]) A3 p0.Job.Table.List_ := hs3.old _ rfl
 have x0 : Ext w w := Upd.refl _ w
 unfold chain_job.f at H
 refine calls_start Tryd.func93 rfl 68 rfl [.agg #[.slice A1 p0.Devices.length c_1, .slice A2 p0.Tables.length c_2, .int .i64 p0.Job.Dev, .int .i64 p0.Job.At, .int .i64 p0.Job.Table.Dev, .int .i64 p0.Job.Table.Size, .slice A3 p0.Job.Table.List_.length c_3, .int .i64 p0.Next]] rfl ?_
 refine CW.seq ?_
 refine CW.lex [.X, .W] rfl ?_
 refine RW.box (cs := [.slice A1 p0.Devices.length c_1, .slice A2 p0.Tables.length c_2, .int .i64 p0.Job.Dev, .int .i64 p0.Job.At, .int .i64 p0.Job.Table.Dev, .int .i64 p0.Job.Table.Size, .slice A3 p0.Job.Table.List_.length c_3, .int .i64 p0.Next]) (.inl rfl) ⟨rfl, rfl, rfl, rfl⟩ rfl rfl rfl ?_
 intro b1 w1 x1 l1 h4
 have sx1 := x1.size
 have ltb1 := h4.lt
 refine RW.pure tabOk 1 rfl ?_
 refine RW.done ?_
 refine NW.next ?_
 refine CW.seq ?_
 refine CW.lex [.W, .L, .X, .M] rfl ?_
 refine RW.pure tabOk 1 rfl ?_
 refine RW.load tabOk [.int .i64 p0.Job.Dev, .int .i64 p0.Job.At, .int .i64 p0.Job.Table.Dev, .int .i64 p0.Job.Table.Size, .slice A3 p0.Job.Table.List_.length c_3] ((h4.at 2).take 5 rfl) ⟨rfl, rfl, rfl, rfl⟩ rfl rfl rfl rfl ?_
 refine RW.alloc tabOk (.inl rfl) ⟨rfl, rfl, rfl, rfl⟩ rfl rfl ?_
 intro b2 w2 x2 l2 h5
 have sx2 := x2.size
 have ltb2 := h5.lt
 refine RW.storeBox tabOk h5 [.int .i64 p0.Job.Dev, .int .i64 p0.Job.At, .int .i64 p0.Job.Table.Dev, .int .i64 p0.Job.Table.Size, .slice A3 p0.Job.Table.List_.length c_3] ⟨rfl, rfl, rfl⟩ rfl rfl rfl rfl rfl rfl rfl rfl ?_
 intro w3 x3 h6
 have h7 : Box w3.heap b2 77 [.int .i64 p0.Job.Dev, .int .i64 p0.Job.At, .int .i64 p0.Job.Table.Dev, .int .i64 p0.Job.Table.Size, .slice A3 p0.Job.Table.List_.length c_3] := h6
 have sx3 := x3.size
 refine RW.done ?_
 refine NW.next ?_
 refine CW.seq ?_
 refine CW.seq ?_
 refine CW.lex [.L, .X] rfl ?_
 refine RW.load tabOk [.int .i64 p0.Job.Dev, .int .i64 p0.Job.At, .int .i64 p0.Job.Table.Dev, .int .i64 p0.Job.Table.Size, .slice A3 p0.Job.Table.List_.length c_3] (h7.at 0) ⟨rfl, rfl, rfl, rfl⟩ rfl rfl rfl rfl ?_
 have h8 := ((h3.ext x1).ext x2).turnB x3 h5 ⟨.inr (by omega), trivial⟩
 obtain ⟨y1, h9, H⟩ := bind_some H
 refine RW.callF (.inl rfl) ent126 ⟨rfl, rfl, rfl, rfl⟩ rfl rfl (chain_none.calls p0.Job A3 c_3 _ _ h8.all hl3 h9) ?_
 rintro _ w4 ⟨rfl, x4⟩
 refine ⟨_, rfl, x4, ?_⟩
 have sx4 := x4.size
 refine RW.done ?_
 refine NW.next ?_
 by_cases c1 : y1 = true
 ·
  rw [if_pos c1] at H
  refine CW.cond_t rfl (c1) ?_
  refine CW.seq ?_
  refine CW.lex [.W] rfl ?_
  refine RW.pure tabOk 1 rfl ?_
  refine RW.done ?_
  refine NW.next ?_
  refine CW.ret ?_
  refine NW.ret_then ?_
  obtain rfl := Option.some.inj H
  have h10 := Ext.trans (Ext.turnB (Ext.trans (Ext.trans x0 x1) x2) x3 (by omega)) x4
  exact NW.ret1 rfl (by rfl) ⟨rfl, h10⟩
 ·
  rw [if_neg c1] at H
  refine CW.cond_f rfl (bool_f c1) ?_
  refine CW.skip ?_
  refine NW.next ?_
  refine CW.seq ?_
  refine CW.lex [.W, .L, .W, .L, .X, .W, .W, .W, .W, .W] rfl ?_
  refine RW.pure tabOk 1 rfl ?_
  have h11 := ((h4.ext x2).turnB x3 (by omega)).ext x4
  refine RW.load tabOk [.slice A1 p0.Devices.length c_1] ((h11.at 0).take 1 rfl) ⟨rfl, rfl, rfl, rfl⟩ rfl rfl rfl rfl ?_
  refine RW.pure tabOk 1 rfl ?_
  have h12 := h7.ext x4
  refine RW.load tabOk [.int .i64 p0.Job.Dev] ((h12.at 0).take 1 rfl) ⟨rfl, rfl, rfl, rfl⟩ rfl rfl rfl rfl ?_
  have h13 := (((h1.ext x1).ext x2).turnB x3 h5 ⟨.inr (by omega), trivial⟩).ext x4
  obtain ⟨y2, h14, H⟩ := bind_some H
  refine RW.callF (.inl rfl) ent86 ⟨rfl, rfl, rfl, rfl⟩ rfl rfl (room_Find.calls k A1 c_1 p0.Devices p0.Job.Dev _ _ h13.all hl1 h14) ?_
  rintro _ w5 ⟨rfl, x5⟩
  refine ⟨_, rfl, x5, ?_⟩
  have sx5 := x5.size
  refine RW.pure tabOk 5 rfl ?_
  refine RW.done ?_
  refine NW.next ?_
  refine CW.seq ?_
  refine CW.seqJ (fun a w6 => ∃ (bt61_0 : Bool), Sat 68 [(1, .pointer (some ⟨b1, 0, none⟩)), (3, .pointer (some ⟨b2, 0, none⟩)), (61, .bool bt61_0)] a ∧ w5.heap.size ≤ w6.heap.size ∧ Sl kDeviceR w6.heap (okL [(0, some w.heap.size, none)]) A1 p0.Devices ∧ Sl kTableR w6.heap (okL [(0, some w.heap.size, none)]) A2 p0.Tables ∧ Sl kEntry w6.heap (okL [(0, some w.heap.size, none)]) A3 p0.Job.Table.List_ ∧ Ext w w6 ∧ Box w6.heap b1 79 [.slice A1 p0.Devices.length c_1, .slice A2 p0.Tables.length c_2, .int .i64 p0.Job.Dev, .int .i64 p0.Job.At, .int .i64 p0.Job.Table.Dev, .int .i64 p0.Job.Table.Size, .slice A3 p0.Job.Table.List_.length c_3, .int .i64 p0.Next] ∧ Box w6.heap b2 77 [.int .i64 p0.Job.Dev, .int .i64 p0.Job.At, .int .i64 p0.Job.Table.Dev, .int .i64 p0.Job.Table.Size, .slice A3 p0.Job.Table.List_.length c_3] ∧ chain_job.j0 p0 k bt61_0 = some r) ?_ ?_
  ·
   refine CW.ord [0, 1, 3, 7, 15, 31, 63, 127, 255, 511, 255, 1279, 255, 7423, 15615, 31999, 65535, 131071, 262143, 524287, 1048575, 2097151, 524287, 4718591, 16777215, 33554431, 67108863, 134217727, 268435455, 536870911, 134217727, 1207959551, 134217727, 7650410495, 16240345087, 33420214271, 68719476735, 137438953471, 274877906943, 549755813887, 1099511627775, 2199023255551, 4398046511103, 8796093022207] (ofL [(0, .W), (1, .W), (2, .W), (3, .W), (4, .L), (5, .W), (6, .W), (7, .W), (8, .W), (10, .W), (12, .W), (9, .L), (11, .L), (13, .W), (14, .W), (15, .L), (16, .W), (17, .W), (18, .W), (19, .W), (20, .W), (22, .W), (21, .L), (23, .L), (24, .W), (25, .W), (26, .W), (27, .W), (28, .W), (30, .W), (32, .W), (29, .L), (31, .L), (33, .W), (34, .W), (35, .L), (36, .W), (37, .W), (38, .W), (39, .W), (40, .L), (41, .X), (42, .W), (43, .W)] .nil) mixed (by kernel_rfl) ?_
   intro w7 x6
   have sx6 := x6.size
   refine RW.pure tabOk 3 rfl ?_
   by_cases c2 : y2.2 = true
   ·
    rw [if_pos c2] at H
    refine RW.bool 20 (b' := false) (not_f (c2)) rfl ?_
    refine RW.pure tabOk 1 rfl ?_
    have h15 := (h12.ext x5).ext x6
    refine RW.load tabOk [.int .i64 p0.Job.At] ((h15.at 1).take 1 rfl) ⟨rfl, rfl, rfl, rfl⟩ rfl rfl rfl rfl ?_
    refine RW.pure tabOk 3 rfl ?_
    by_cases c3 : p0.Job.At < 0
    ·
     rw [if_pos c3] at H
     refine RW.bool 25 (b' := true) (decide_eq_true c3) rfl ?_
     refine RW.pure tabOk 36 rfl ?_
     refine RW.done ?_
     have h16 := (h13.ext x5).ext x6
     have h17 := (((((h2.ext x1).ext x2).turnB x3 h5 ⟨.inr (by omega), trivial⟩).ext x4).ext x5).ext x6
     have h18 := ((h8.ext x4).ext x5).ext x6
     have h19 := Ext.trans (Ext.trans (Ext.trans (Ext.turnB (Ext.trans (Ext.trans x0 x1) x2) x3 (by omega)) x4) x5) x6
     have h20 := (h11.ext x5).ext x6
     exact NW.J fun a ha => ⟨true, ha.sub ⟨rfl, rfl, rfl, trivial⟩, by omega, h16, h17, h18, h19, h20, h15, H⟩
    ·
     rw [if_neg c3] at H
     refine RW.bool 25 (b' := false) (decide_eq_false c3) rfl ?_
     refine RW.pure tabOk 3 rfl ?_
     refine RW.load tabOk [.int .i64 p0.Job.At] ((h15.at 1).take 1 rfl) ⟨rfl, rfl, rfl, rfl⟩ rfl rfl rfl rfl ?_
     have h21 := (h11.ext x5).ext x6
     refine RW.load tabOk [.slice A1 p0.Devices.length c_1] ((h21.at 0).take 1 rfl) ⟨rfl, rfl, rfl, rfl⟩ rfl rfl rfl rfl ?_
     obtain ⟨g1, H⟩ := guard_some H
     have h22 := (h13.ext x5).ext x6
     obtain ⟨ad1, A4, c_4, A5, c_5, e1, a1, l3, h23, l4, h24⟩ := kDeviceR_at h22 g1.1 g1.2
     refine RW.index tabOk g1.1 g1.2 e1 ⟨rfl, rfl, rfl, rfl⟩ rfl rfl rfl rfl rfl rfl ?_
     refine RW.pure tabOk 1 rfl ?_
     refine RW.load tabOk [.int .i64 ((rd p0.Devices y2.1).Size)] ((a1.fld 1).take 1 rfl) ⟨rfl, rfl, rfl, rfl⟩ rfl rfl rfl rfl ?_
     refine RW.pure tabOk 3 rfl ?_
     by_cases c4 : ((rd p0.Devices y2.1).Size) ≤ p0.Job.At
     ·
      rw [if_pos c4] at H
      refine RW.bool 36 (b' := true) (decide_eq_true c4) rfl ?_
      refine RW.pure tabOk 25 rfl ?_
      refine RW.done ?_
      have h25 := (((((h2.ext x1).ext x2).turnB x3 h5 ⟨.inr (by omega), trivial⟩).ext x4).ext x5).ext x6
      have h26 := ((h8.ext x4).ext x5).ext x6
      have h27 := Ext.trans (Ext.trans (Ext.trans (Ext.turnB (Ext.trans (Ext.trans x0 x1) x2) x3 (by omega)) x4) x5) x6
      exact NW.J fun a ha => ⟨true, ha.sub ⟨rfl, rfl, rfl, trivial⟩, by omega, h22, h25, h26, h27, h21, h15, H⟩
     ·
      rw [if_neg c4] at H
      refine RW.bool 36 (b' := false) (decide_eq_false c4) rfl ?_
      refine RW.pure tabOk 3 rfl ?_
      refine RW.load tabOk [.int .i64 p0.Job.Table.Dev] ((h15.at 2).take 1 rfl) ⟨rfl, rfl, rfl, rfl⟩ rfl rfl rfl rfl ?_
      refine RW.load tabOk [.int .i64 p0.Job.Dev] ((h15.at 0).take 1 rfl) ⟨rfl, rfl, rfl, rfl⟩ rfl rfl rfl rfl ?_
      refine RW.pure tabOk 3 rfl ?_
      by_cases c5 : p0.Job.Table.Dev = p0.Job.Dev
      ·
       rw [if_pos c5] at H
       refine RW.bool 44 (b' := false) (bne_f c5) rfl ?_
       refine RW.pure tabOk 4 rfl ?_
       refine RW.load tabOk [.int .i64 p0.Job.Table.Size] ((h15.at 3).take 1 rfl) ⟨rfl, rfl, rfl, rfl⟩ rfl rfl rfl rfl ?_
       refine RW.load tabOk [.slice A1 p0.Devices.length c_1] ((h21.at 0).take 1 rfl) ⟨rfl, rfl, rfl, rfl⟩ rfl rfl rfl rfl ?_
       obtain ⟨g2, H⟩ := guard_some H
       obtain ⟨ad2, A6, c_6, A7, c_7, e2, a2, l5, h28, l6, h29⟩ := kDeviceR_at h22 g2.1 g2.2
       refine RW.index tabOk g2.1 g2.2 e2 ⟨rfl, rfl, rfl, rfl⟩ rfl rfl rfl rfl rfl rfl ?_
       refine RW.pure tabOk 1 rfl ?_
       refine RW.load tabOk [.int .i64 ((rd p0.Devices y2.1).Size)] ((a2.fld 1).take 1 rfl) ⟨rfl, rfl, rfl, rfl⟩ rfl rfl rfl rfl ?_
       refine RW.pure tabOk 3 rfl ?_
       by_cases c6 : p0.Job.Table.Size = (rd p0.Devices y2.1).Size
       ·
        rw [if_pos c6] at H
        refine RW.bool 56 (b' := false) (bne_f c6) rfl ?_
        refine RW.pure tabOk 1 rfl ?_
        refine RW.load tabOk [.int .i64 p0.Job.Table.Dev, .int .i64 p0.Job.Table.Size, .slice A3 p0.Job.Table.List_.length c_3] (h15.at 2) ⟨rfl, rfl, rfl, rfl⟩ rfl rfl rfl rfl ?_
        have h30 := ((h8.ext x4).ext x5).ext x6
        obtain ⟨y3, h31, H⟩ := bind_some H
        refine RW.callF (.inl rfl) ent120 ⟨rfl, rfl, rfl, rfl⟩ rfl rfl (table_May.calls k p0.Job.Table A3 c_3 _ _ h30.all hl3 h31) ?_
        rintro _ w8 ⟨rfl, x7⟩
        refine ⟨_, rfl, x7, ?_⟩
        have sx7 := x7.size
        refine RW.pure tabOk 2 rfl ?_
        refine RW.done ?_
        have h32 := h22.ext x7
        have h33 := ((((((h2.ext x1).ext x2).turnB x3 h5 ⟨.inr (by omega), trivial⟩).ext x4).ext x5).ext x6).ext x7
        have h34 := h30.ext x7
        have h35 := Ext.trans (Ext.trans (Ext.trans (Ext.trans (Ext.turnB (Ext.trans (Ext.trans x0 x1) x2) x3 (by omega)) x4) x5) x6) x7
        have h36 := h21.ext x7
        have h37 := h15.ext x7
        exact NW.J fun a ha => ⟨(!y3), ha.sub ⟨rfl, rfl, rfl, trivial⟩, by omega, h32, h33, h34, h35, h36, h37, H⟩
       ·
        rw [if_neg c6] at H
        refine RW.bool 56 (b' := true) (bne_t c6) rfl ?_
        refine RW.pure tabOk 5 rfl ?_
        refine RW.done ?_
        have h38 := (((((h2.ext x1).ext x2).turnB x3 h5 ⟨.inr (by omega), trivial⟩).ext x4).ext x5).ext x6
        have h39 := ((h8.ext x4).ext x5).ext x6
        have h40 := Ext.trans (Ext.trans (Ext.trans (Ext.turnB (Ext.trans (Ext.trans x0 x1) x2) x3 (by omega)) x4) x5) x6
        exact NW.J fun a ha => ⟨true, ha.sub ⟨rfl, rfl, rfl, trivial⟩, by omega, h22, h38, h39, h40, h21, h15, H⟩
      ·
       rw [if_neg c5] at H
       refine RW.bool 44 (b' := true) (bne_t c5) rfl ?_
       refine RW.pure tabOk 17 rfl ?_
       refine RW.done ?_
       have h41 := (((((h2.ext x1).ext x2).turnB x3 h5 ⟨.inr (by omega), trivial⟩).ext x4).ext x5).ext x6
       have h42 := ((h8.ext x4).ext x5).ext x6
       have h43 := Ext.trans (Ext.trans (Ext.trans (Ext.turnB (Ext.trans (Ext.trans x0 x1) x2) x3 (by omega)) x4) x5) x6
       exact NW.J fun a ha => ⟨true, ha.sub ⟨rfl, rfl, rfl, trivial⟩, by omega, h22, h41, h42, h43, h21, h15, H⟩
   ·
    rw [if_neg c2] at H
    refine RW.bool 20 (b' := true) (not_t (bool_f c2)) rfl ?_
    refine RW.pure tabOk 41 rfl ?_
    refine RW.done ?_
    have h44 := (h13.ext x5).ext x6
    have h45 := (((((h2.ext x1).ext x2).turnB x3 h5 ⟨.inr (by omega), trivial⟩).ext x4).ext x5).ext x6
    have h46 := ((h8.ext x4).ext x5).ext x6
    have h47 := Ext.trans (Ext.trans (Ext.trans (Ext.turnB (Ext.trans (Ext.trans x0 x1) x2) x3 (by omega)) x4) x5) x6
    have h48 := (h11.ext x5).ext x6
    have h49 := (h12.ext x5).ext x6
    exact NW.J fun a ha => ⟨true, ha.sub ⟨rfl, rfl, rfl, trivial⟩, by omega, h44, h45, h46, h47, h48, h49, H⟩
  intro a w6 hJ hp
  obtain ⟨bt61_0, hS, hle, gF1_0, gF2_0, gF3_0, x0_0, gb1_0, gb2_0, H⟩ := hJ
  unfold chain_job.j0 at H
  refine CW.go hp hS ?_
  by_cases c7 : bt61_0 = true
  ·
   rw [if_pos c7] at H
   refine CW.cond_t rfl (c7) ?_
   refine CW.seq ?_
   refine CW.lex [.W] rfl ?_
   refine RW.pure tabOk 1 rfl ?_
   refine RW.done ?_
   refine NW.next ?_
   refine CW.ret ?_
   refine NW.ret_then ?_
   obtain rfl := Option.some.inj H
   exact NW.ret1 rfl (by rfl) ⟨rfl, x0_0⟩
  ·
   rw [if_neg c7] at H
   refine CW.cond_f rfl (bool_f c7) ?_
   refine CW.skip ?_
   refine NW.next ?_
   refine CW.seq ?_
   refine CW.lex [.W, .W, .L, .W, .X, .W, .W] rfl ?_
   refine RW.pure tabOk 2 rfl ?_
   refine RW.load tabOk [.slice A3 p0.Job.Table.List_.length c_3] (gb2_0.at 4) ⟨rfl, rfl, rfl, rfl⟩ rfl rfl rfl rfl ?_
   refine RW.pure tabOk 1 rfl ?_
   have xc1 : Ext w6 w6 := Upd.refl _ _
   refine RW.callK (.inl rfl) ent123 ⟨rfl, rfl, rfl, rfl⟩ rfl rfl rfl ?_
   refine calls_start Tryd.func123 rfl 9 rfl [.slice A3 p0.Job.Table.List_.length c_3, .func (.func 127) #[] #[.pointer (some ⟨b2, 0, none⟩), .pointer (some ⟨b1, 0, none⟩)]] rfl ?_
   refine CW.seq ?_
   refine CW.lex [.W] rfl ?_
   refine RW.pure tabOk 1 rfl ?_
   refine RW.done ?_
   refine NW.next ?_
   refine CW.seq ?_
   refine CW.lex [.W, .W, .X, .W, .W] rfl ?_
   refine RW.pure tabOk 2 rfl ?_
   have xc2 : Ext w6 w6 := Upd.refl _ _
   refine RW.callV (R := fun e w9 => ∃ (it7_1 : Int), e = .returned (.int .i64 it7_1) ∧ w6.heap.size ≤ w9.heap.size ∧ Ext w w9 ∧ Ext w6 w9 ∧ Ext w6 w9 ∧ chain_job.j1 it7_1 = some r) (.inl rfl) ent138 ⟨rfl, rfl, rfl, rfl⟩ rfl rfl rfl ?_ ?_
   ·
    refine calls_start Tryd.func138 rfl 19 rfl [.slice A3 p0.Job.Table.List_.length c_3, .func (.func 127) #[] #[.pointer (some ⟨b2, 0, none⟩), .pointer (some ⟨b1, 0, none⟩)]] rfl ?_
    refine CW.seq ?_
    refine CW.lex [.W] rfl ?_
    refine RW.pure tabOk 1 rfl ?_
    refine RW.done ?_
    refine NW.next ?_
    refine CW.seq ?_
    refine CW.seq ?_
    refine CW.lex [.W, .W, .W] rfl ?_
    refine RW.pure tabOk 3 rfl ?_
    refine RW.done ?_
    refine NW.next ?_
    refine CW.block ?_
    refine CW.loop (fun n1 a w10 => ∃ (it8_2 : Int), Sat 19 [(0, .slice A3 p0.Job.Table.List_.length c_3), (1, .func (.func 127) #[] #[.pointer (some ⟨b2, 0, none⟩), .pointer (some ⟨b1, 0, none⟩)]), (7, .int .i64 (p0.Job.Table.List_.length : Int)), (8, .int .i64 it8_2)] a ∧ w6.heap.size ≤ w10.heap.size ∧ Sl kEntry w10.heap (okL [(0, some w.heap.size, none)]) A3 p0.Job.Table.List_ ∧ Sl kDeviceR w10.heap (okL [(0, some w.heap.size, none)]) A1 p0.Devices ∧ Sl kTableR w10.heap (okL [(0, some w.heap.size, none)]) A2 p0.Tables ∧ Ext w w10 ∧ Ext w6 w10 ∧ Ext w6 w10 ∧ Box w10.heap b2 77 [.int .i64 p0.Job.Dev, .int .i64 p0.Job.At, .int .i64 p0.Job.Table.Dev, .int .i64 p0.Job.Table.Size, .slice A3 p0.Job.Table.List_.length c_3] ∧ Box w10.heap b1 79 [.slice A1 p0.Devices.length c_1, .slice A2 p0.Tables.length c_2, .int .i64 p0.Job.Dev, .int .i64 p0.Job.At, .int .i64 p0.Job.Table.Dev, .int .i64 p0.Job.Table.Size, .slice A3 p0.Job.Table.List_.length c_3, .int .i64 p0.Next] ∧ chain_job.l0 p0 k n1 it8_2 = some r) k ?_ ?_
    · exact fun a ha => ⟨0, ha.sub ⟨rfl, rfl, rfl, rfl, trivial⟩, by omega, gF3_0, gF1_0, gF2_0, x0_0, xc1, xc2, gb2_0, gb1_0, H⟩
    intro n1 a w10 hI hp
    obtain ⟨it8_2, hS, hle, gF3_2, gF1_2, gF2_2, x0_2, x_xc1_2, x_xc2_2, gb2_2, gb1_2, H⟩ := hI
    cases n1 with
    | zero => cases H
    | succ n1 =>
     rw [chain_job.l0] at H
     refine CW.go hp hS ?_
     refine CW.seq ?_
     refine CW.lex [.W] rfl ?_
     refine RW.pure tabOk 1 rfl ?_
     refine RW.done ?_
     refine NW.next ?_
     refine CW.seq ?_
     by_cases c8 : it8_2 < (p0.Job.Table.List_.length : Int)
     ·
      rw [if_pos c8] at H
      refine CW.cond_t rfl (decide_eq_true c8) ?_
      refine CW.skip ?_
      refine NW.next ?_
      refine CW.seq ?_
      refine CW.block ?_
      refine CW.seq ?_
      refine CW.lex [.W, .W] rfl ?_
      refine RW.pure tabOk 2 rfl ?_
      refine RW.done ?_
      refine NW.next ?_
      refine CW.seq ?_
      refine CW.lex [.W, .W, .W, .W, .L, .M] rfl ?_
      refine RW.pure tabOk 3 rfl ?_
      obtain ⟨g3, H⟩ := guard_some H
      obtain ⟨ad3, e3, a3⟩ := kEntry_at gF3_2 g3.1 g3.2
      refine RW.index tabOk g3.1 g3.2 e3 ⟨rfl, rfl, rfl, rfl⟩ rfl rfl rfl rfl rfl rfl ?_
      refine RW.load tabOk [.int .i64 ((rd p0.Job.Table.List_ it8_2).From), .int .i64 ((rd p0.Job.Table.List_ it8_2).Len), .int .i64 ((rd p0.Job.Table.List_ it8_2).Dev), .int .i64 ((rd p0.Job.Table.List_ it8_2).To), .int .i64 ((rd p0.Job.Table.List_ it8_2).Stale)] a3 ⟨rfl, rfl, rfl, rfl⟩ rfl rfl rfl rfl ?_
      refine RW.callFM (R := fun e w11 => ∃ (bt16_3 : Bool), e = .returned (.bool bt16_3) ∧ w10.heap.size ≤ w11.heap.size ∧ Sl kEntry w11.heap (okL [(0, some w.heap.size, none)]) A3 p0.Job.Table.List_ ∧ Sl kDeviceR w11.heap (okL [(0, some w.heap.size, none)]) A1 p0.Devices ∧ Sl kTableR w11.heap (okL [(0, some w.heap.size, none)]) A2 p0.Tables ∧ Ext w w11 ∧ Ext w6 w11 ∧ Ext w6 w11 ∧ Box w11.heap b2 77 [.int .i64 p0.Job.Dev, .int .i64 p0.Job.At, .int .i64 p0.Job.Table.Dev, .int .i64 p0.Job.Table.Size, .slice A3 p0.Job.Table.List_.length c_3] ∧ Box w11.heap b1 79 [.slice A1 p0.Devices.length c_1, .slice A2 p0.Tables.length c_2, .int .i64 p0.Job.Dev, .int .i64 p0.Job.At, .int .i64 p0.Job.Table.Dev, .int .i64 p0.Job.Table.Size, .slice A3 p0.Job.Table.List_.length c_3, .int .i64 p0.Next] ∧ chain_job.j2 it8_2 (chain_job.l0 p0 k n1) bt16_3 = some r) ent127 ⟨rfl, rfl, rfl, rfl⟩ rfl rfl rfl ?_ ?_
      ·
       refine calls_start Tryd.func127 rfl 20 rfl [.agg #[.int .i64 ((rd p0.Job.Table.List_ it8_2).From), .int .i64 ((rd p0.Job.Table.List_ it8_2).Len), .int .i64 ((rd p0.Job.Table.List_ it8_2).Dev), .int .i64 ((rd p0.Job.Table.List_ it8_2).To), .int .i64 ((rd p0.Job.Table.List_ it8_2).Stale)], .pointer (some ⟨b2, 0, none⟩), .pointer (some ⟨b1, 0, none⟩)] rfl ?_
       refine CW.seq ?_
       refine CW.lex [.X, .W] rfl ?_
       refine RW.box (cs := [.int .i64 ((rd p0.Job.Table.List_ it8_2).From), .int .i64 ((rd p0.Job.Table.List_ it8_2).Len), .int .i64 ((rd p0.Job.Table.List_ it8_2).Dev), .int .i64 ((rd p0.Job.Table.List_ it8_2).To), .int .i64 ((rd p0.Job.Table.List_ it8_2).Stale)]) (.inl rfl) ⟨rfl, rfl, rfl, rfl⟩ rfl rfl rfl ?_
       intro b3 w12 x8 l7 h50
       have sx8 := x8.size
       have ltb3 := h50.lt
       refine RW.pure tabOk 1 rfl ?_
       refine RW.done ?_
       refine NW.next ?_
       refine CW.seq ?_
       refine CW.lex [.W, .L, .W, .L, .W, .W, .L, .W, .W, .L, .W, .L, .X, .W, .W, .W] rfl ?_
       refine RW.pure tabOk 1 rfl ?_
       refine RW.load tabOk [.int .i64 ((rd p0.Job.Table.List_ it8_2).From)] ((h50.at 0).take 1 rfl) ⟨rfl, rfl, rfl, rfl⟩ rfl rfl rfl rfl ?_
       refine RW.pure tabOk 1 rfl ?_
       refine RW.load tabOk [.int .i64 ((rd p0.Job.Table.List_ it8_2).Len)] ((h50.at 1).take 1 rfl) ⟨rfl, rfl, rfl, rfl⟩ rfl rfl rfl rfl ?_
       refine RW.pure tabOk 2 rfl ?_
       have h51 := gb2_2.ext x8
       refine RW.load tabOk [.int .i64 p0.Job.At] ((h51.at 1).take 1 rfl) ⟨rfl, rfl, rfl, rfl⟩ rfl rfl rfl rfl ?_
       refine RW.pure tabOk 2 rfl ?_
       by_cases c9 : p0.Job.At < (w64 (((rd p0.Job.Table.List_ it8_2).From) + ((rd p0.Job.Table.List_ it8_2).Len)))
       ·
        rw [if_pos c9] at H
        refine RW.bool 13 (b' := true) (decide_eq_true c9) rfl ?_
        refine RW.pure tabOk 7 rfl ?_
        refine RW.done ?_
        refine NW.next ?_
        refine CW.ret ?_
        have h52 := gF3_2.ext x8
        have h53 := gF1_2.ext x8
        have h54 := gF2_2.ext x8
        have h55 := Ext.trans x0_2 x8
        have h56 := Ext.trans x_xc1_2 x8
        have h57 := Ext.trans x_xc2_2 x8
        have h58 := gb1_2.ext x8
        exact NW.ret1 rfl (by rfl) ⟨true, rfl, by omega, h52, h53, h54, h55, h56, h57, h51, h58, H⟩
       ·
        rw [if_neg c9] at H
        refine RW.bool 13 (b' := false) (decide_eq_false c9) rfl ?_
        have h59 := gb1_2.ext x8
        refine RW.load tabOk [.slice A1 p0.Devices.length c_1, .slice A2 p0.Tables.length c_2, .int .i64 p0.Job.Dev, .int .i64 p0.Job.At, .int .i64 p0.Job.Table.Dev, .int .i64 p0.Job.Table.Size, .slice A3 p0.Job.Table.List_.length c_3, .int .i64 p0.Next] (h59.at 0) ⟨rfl, rfl, rfl, rfl⟩ rfl rfl rfl rfl ?_
        refine RW.pure tabOk 1 rfl ?_
        refine RW.load tabOk [.int .i64 ((rd p0.Job.Table.List_ it8_2).Dev)] ((h50.at 2).take 1 rfl) ⟨rfl, rfl, rfl, rfl⟩ rfl rfl rfl rfl ?_
        have h60 := gF1_2.ext x8
        have h61 := gF2_2.ext x8
        have h62 := gF3_2.ext x8
        obtain ⟨y4, h63, H⟩ := bind_some H
        refine RW.callF (.inl rfl) ent117 ⟨rfl, rfl, rfl, rfl⟩ rfl rfl (chain_device.calls k p0 A1 c_1 A2 c_2 A3 c_3 ((rd p0.Job.Table.List_ it8_2).Dev) _ _ h60.all hl1 h61.all hl2 h62.all hl3 h63) ?_
        rintro _ w13 ⟨rfl, x9⟩
        refine ⟨_, rfl, x9, ?_⟩
        have sx9 := x9.size
        refine RW.pure tabOk 3 rfl ?_
        refine RW.done ?_
        refine NW.next ?_
        refine CW.ret ?_
        have h64 := h62.ext x9
        have h65 := h60.ext x9
        have h66 := h61.ext x9
        have h67 := Ext.trans (Ext.trans x0_2 x8) x9
        have h68 := Ext.trans (Ext.trans x_xc1_2 x8) x9
        have h69 := Ext.trans (Ext.trans x_xc2_2 x8) x9
        have h70 := h51.ext x9
        have h71 := h59.ext x9
        exact NW.ret1 rfl (by rfl) ⟨(!y4), rfl, by omega, h64, h65, h66, h67, h68, h69, h70, h71, H⟩
      rintro _ w11 ⟨bt16_3, rfl, hle, gF3_3, gF1_3, gF2_3, x0_3, x_xc1_3, x_xc2_3, gb2_3, gb1_3, H⟩
      refine ⟨_, rfl, ?_⟩
      unfold chain_job.j2 at H
      refine RW.done ?_
      refine NW.next ?_
      by_cases c10 : bt16_3 = true
      ·
       rw [if_pos c10] at H
       refine CW.cond_t rfl (c10) ?_
       refine CW.seq ?_
       refine CW.lex [.W, .W] rfl ?_
       refine RW.pure tabOk 2 rfl ?_
       refine RW.done ?_
       refine NW.next ?_
       refine CW.ret ?_
       refine NW.ret_block (NW.ret_then (NW.ret_then (NW.ret_block (NW.ret_then ?_))))
       exact NW.ret1 rfl (by rfl) ⟨it8_2, rfl, by omega, x0_3, x_xc1_3, x_xc2_3, H⟩
      ·
       rw [if_neg c10] at H
       refine CW.cond_f rfl (bool_f c10) ?_
       refine CW.skip ?_
       refine NW.norm_block (NW.next ?_)
       refine CW.lex [.W, .W] rfl ?_
       refine RW.pure tabOk 2 rfl ?_
       refine RW.done ?_
       exact NW.J fun a ha => ⟨n1, Nat.lt_succ_self n1, (w64 (it8_2 + 1)), ha.sub ⟨rfl, rfl, rfl, rfl, trivial⟩, by omega, gF3_3, gF1_3, gF2_3, x0_3, x_xc1_3, x_xc2_3, gb2_3, gb1_3, H⟩
     ·
      rw [if_neg c8] at H
      refine CW.cond_f rfl (decide_eq_false c8) ?_
      refine CW.exit ?_
      refine NW.exit_then (NW.exit_then (NW.exit_hit ?_))
      refine NW.next ?_
      refine CW.seq ?_
      refine CW.lex [.W] rfl ?_
      refine RW.pure tabOk 1 rfl ?_
      refine RW.done ?_
      refine NW.next ?_
      refine CW.ret ?_
      exact NW.ret1 rfl (by rfl) ⟨(-1), rfl, by omega, x0_2, x_xc1_2, x_xc2_2, H⟩
   rintro _ w9 ⟨it7_1, rfl, hle, x0_1, x_xc1_1, x_xc2_1, H⟩
   refine ⟨_, rfl, x_xc2_1, ?_⟩
   unfold chain_job.j1 at H
   refine RW.pure tabOk 2 rfl ?_
   refine RW.done ?_
   refine NW.next ?_
   refine CW.ret ?_
   refine NW.ret1 rfl (by rfl) ⟨_, rfl, x_xc1_1, ?_⟩
   refine RW.pure tabOk 2 rfl ?_
   refine RW.done ?_
   refine NW.next ?_
   refine CW.ret ?_
   obtain rfl := Option.some.inj H
   exact NW.ret1 rfl (by rfl) ⟨rfl, x0_1⟩

set_option maxHeartbeats 20000000 in
set_option maxRecDepth 100000 in
theorem chain_May.calls (k : Nat) (p0 : Pool) (A1 : Option Addr) (c_1 : Nat) (A2 : Option Addr) (c_2 : Nat) (A3 : Option Addr) (c_3 : Nat) (r : Bool) (w : World) (hs1 : Sl kDeviceR w.heap okAll A1 p0.Devices) (hl1 : p0.Devices.length ≤ c_1) (hs2 : Sl kTableR w.heap okAll A2 p0.Tables) (hl2 : p0.Tables.length ≤ c_2) (hs3 : Sl kEntry w.heap okAll A3 p0.Job.Table.List_) (hl3 : p0.Job.Table.List_.length ≤ c_3) (H : chain_May.f k p0 = some r) :
    Calls Tryd.prog 76 #[.agg #[.slice A1 p0.Devices.length c_1, .slice A2 p0.Tables.length c_2, .int .i64 p0.Job.Dev, .int .i64 p0.Job.At, .int .i64 p0.Job.Table.Dev, .int .i64 p0.Job.Table.Size, .slice A3 p0.Job.Table.List_.length c_3, .int .i64 p0.Next]] w fun e w' => e = .returned (.bool r) ∧ Ext w w' := by
 have h1 : Sl kDeviceR w.heap (okL [(0, some w.heap.size, none)]) A1 p0.Devices := hs1.old _ rfl
 have h2 : Sl kTableR w.heap (okL [(0, some w.heap.size, none)]) A2 p0.Tables := hs2.old _ rfl
 have h3 : Sl kEntry w.heap (okL [(0, some w.heap.size, none)]) A3 p0.Job.Table.List_ := hs3.old _ rfl
 have x0 : Ext w w := Upd.refl _ w
 unfold chain_May.f at H
 refine calls_start Tryd.func76 rfl 44 rfl [.agg #[.slice A1 p0.Devices.length c_1, .slice A2 p0.Tables.length c_2, .int .i64 p0.Job.Dev, .int .i64 p0.Job.At, .int .i64 p0.Job.Table.Dev, .int .i64 p0.Job.Table.Size, .slice A3 p0.Job.Table.List_.length c_3, .int .i64 p0.Next]] rfl ?_
 refine CW.seq ?_
 refine CW.lex [.X, .W] rfl ?_
 refine RW.box (cs := [.slice A1 p0.Devices.length c_1, .slice A2 p0.Tables.length c_2, .int .i64 p0.Job.Dev, .int .i64 p0.Job.At, .int .i64 p0.Job.Table.Dev, .int .i64 p0.Job.Table.Size, .slice A3 p0.Job.Table.List_.length c_3, .int .i64 p0.Next]) (.inl rfl) ⟨rfl, rfl, rfl, rfl⟩ rfl rfl rfl ?_
 intro b1 w1 x1 l1 h4
 have sx1 := x1.size
 have ltb1 := h4.lt
 refine RW.pure tabOk 1 rfl ?_
 refine RW.done ?_
 refine NW.next ?_
 refine CW.seq ?_
 refine CW.seqJ (fun a w2 => ∃ (bt39_0 : Bool), Sat 44 [(1, .pointer (some ⟨b1, 0, none⟩)), (39, .bool bt39_0)] a ∧ w1.heap.size ≤ w2.heap.size ∧ Sl kDeviceR w2.heap (okL [(0, some w.heap.size, none)]) A1 p0.Devices ∧ Sl kTableR w2.heap (okL [(0, some w.heap.size, none)]) A2 p0.Tables ∧ Sl kEntry w2.heap (okL [(0, some w.heap.size, none)]) A3 p0.Job.Table.List_ ∧ Ext w w2 ∧ Box w2.heap b1 79 [.slice A1 p0.Devices.length c_1, .slice A2 p0.Tables.length c_2, .int .i64 p0.Job.Dev, .int .i64 p0.Job.At, .int .i64 p0.Job.Table.Dev, .int .i64 p0.Job.Table.Size, .slice A3 p0.Job.Table.List_.length c_3, .int .i64 p0.Next] ∧ chain_May.j0 p0 k bt39_0 = some r) ?_ ?_
 ·
  refine CW.lex [.W, .L, .X, .W, .W, .W, .L, .W, .W, .W, .W, .W, .W, .L, .W, .W, .W, .L, .W, .W, .W, .W, .W, .L, .X, .W, .W, .W, .L, .X, .W, .W, .W, .L, .X, .W, .W] rfl ?_
  refine RW.pure tabOk 1 rfl ?_
  refine RW.load tabOk [.slice A1 p0.Devices.length c_1] ((h4.at 0).take 1 rfl) ⟨rfl, rfl, rfl, rfl⟩ rfl rfl rfl rfl ?_
  have h5 := h1.ext x1
  obtain ⟨y1, h6, H⟩ := bind_some H
  refine RW.callF (.inl rfl) ent66 ⟨rfl, rfl, rfl, rfl⟩ rfl rfl (room_May.calls k A1 c_1 p0.Devices _ _ h5.all hl1 h6) ?_
  rintro _ w3 ⟨rfl, x2⟩
  refine ⟨_, rfl, x2, ?_⟩
  have sx2 := x2.size
  refine RW.pure tabOk 2 rfl ?_
  by_cases c1 : y1 = true
  ·
   rw [if_pos c1] at H
   refine RW.bool 7 (b' := false) (not_f (c1)) rfl ?_
   refine RW.pure tabOk 1 rfl ?_
   have h7 := h4.ext x2
   refine RW.load tabOk [.slice A2 p0.Tables.length c_2] ((h7.at 1).take 1 rfl) ⟨rfl, rfl, rfl, rfl⟩ rfl rfl rfl rfl ?_
   refine RW.pure tabOk 4 rfl ?_
   by_cases c2 : 12 < (p0.Tables.length : Int)
   ·
    rw [if_pos c2] at H
    refine RW.bool 13 (b' := true) (decide_eq_true c2) rfl ?_
    refine RW.pure tabOk 26 rfl ?_
    refine RW.done ?_
    have h8 := h5.ext x2
    have h9 := (h2.ext x1).ext x2
    have h10 := (h3.ext x1).ext x2
    have h11 := Ext.trans (Ext.trans x0 x1) x2
    exact NW.J fun a ha => ⟨true, ha.sub ⟨rfl, rfl, trivial⟩, by omega, h8, h9, h10, h11, h7, H⟩
   ·
    rw [if_neg c2] at H
    refine RW.bool 13 (b' := false) (decide_eq_false c2) rfl ?_
    refine RW.pure tabOk 2 rfl ?_
    refine RW.load tabOk [.int .i64 p0.Job.Dev] ((h7.at 2).take 1 rfl) ⟨rfl, rfl, rfl, rfl⟩ rfl rfl rfl rfl ?_
    refine RW.pure tabOk 2 rfl ?_
    by_cases c3 : p0.Job.Dev = 0
    ·
     rw [if_pos c3] at H
     refine RW.bool 18 (b' := false) (bne_f c3) rfl ?_
     refine RW.pure tabOk 7 rfl ?_
     refine RW.load tabOk [.slice A1 p0.Devices.length c_1, .slice A2 p0.Tables.length c_2, .int .i64 p0.Job.Dev, .int .i64 p0.Job.At, .int .i64 p0.Job.Table.Dev, .int .i64 p0.Job.Table.Size, .slice A3 p0.Job.Table.List_.length c_3, .int .i64 p0.Next] (h7.at 0) ⟨rfl, rfl, rfl, rfl⟩ rfl rfl rfl rfl ?_
     have h12 := h5.ext x2
     have h13 := (h2.ext x1).ext x2
     have h14 := (h3.ext x1).ext x2
     obtain ⟨y2, h15, H⟩ := bind_some H
     refine RW.callF (.inl rfl) ent91 ⟨rfl, rfl, rfl, rfl⟩ rfl rfl (chain_ids.calls k p0 A1 c_1 A2 c_2 A3 c_3 _ _ h12.all hl1 h13.all hl2 h14.all hl3 h15) ?_
     rintro _ w4 ⟨rfl, x3⟩
     refine ⟨_, rfl, x3, ?_⟩
     have sx3 := x3.size
     refine RW.pure tabOk 3 rfl ?_
     by_cases c4 : y2 = true
     ·
      rw [if_pos c4] at H
      refine RW.bool 30 (b' := false) (not_f (c4)) rfl ?_
      have h16 := h7.ext x3
      refine RW.load tabOk [.slice A1 p0.Devices.length c_1, .slice A2 p0.Tables.length c_2, .int .i64 p0.Job.Dev, .int .i64 p0.Job.At, .int .i64 p0.Job.Table.Dev, .int .i64 p0.Job.Table.Size, .slice A3 p0.Job.Table.List_.length c_3, .int .i64 p0.Next] (h16.at 0) ⟨rfl, rfl, rfl, rfl⟩ rfl rfl rfl rfl ?_
      have h17 := h12.ext x3
      have h18 := h13.ext x3
      have h19 := h14.ext x3
      obtain ⟨y3, h20, H⟩ := bind_some H
      refine RW.callF (.inl rfl) ent92 ⟨rfl, rfl, rfl, rfl⟩ rfl rfl (chain_tables.calls k p0 A1 c_1 A2 c_2 A3 c_3 _ _ h17.all hl1 h18.all hl2 h19.all hl3 h20) ?_
      rintro _ w5 ⟨rfl, x4⟩
      refine ⟨_, rfl, x4, ?_⟩
      have sx4 := x4.size
      refine RW.pure tabOk 3 rfl ?_
      by_cases c5 : y3 = true
      ·
       rw [if_pos c5] at H
       refine RW.bool 35 (b' := false) (not_f (c5)) rfl ?_
       have h21 := h16.ext x4
       refine RW.load tabOk [.slice A1 p0.Devices.length c_1, .slice A2 p0.Tables.length c_2, .int .i64 p0.Job.Dev, .int .i64 p0.Job.At, .int .i64 p0.Job.Table.Dev, .int .i64 p0.Job.Table.Size, .slice A3 p0.Job.Table.List_.length c_3, .int .i64 p0.Next] (h21.at 0) ⟨rfl, rfl, rfl, rfl⟩ rfl rfl rfl rfl ?_
       have h22 := h17.ext x4
       have h23 := h18.ext x4
       have h24 := h19.ext x4
       obtain ⟨y4, h25, H⟩ := bind_some H
       refine RW.callF (.inl rfl) ent93 ⟨rfl, rfl, rfl, rfl⟩ rfl rfl (chain_job.calls k p0 A1 c_1 A2 c_2 A3 c_3 _ _ h22.all hl1 h23.all hl2 h24.all hl3 h25) ?_
       rintro _ w6 ⟨rfl, x5⟩
       refine ⟨_, rfl, x5, ?_⟩
       have sx5 := x5.size
       refine RW.pure tabOk 2 rfl ?_
       refine RW.done ?_
       have h26 := h22.ext x5
       have h27 := h23.ext x5
       have h28 := h24.ext x5
       have h29 := Ext.trans (Ext.trans (Ext.trans (Ext.trans (Ext.trans x0 x1) x2) x3) x4) x5
       have h30 := h21.ext x5
       exact NW.J fun a ha => ⟨(!y4), ha.sub ⟨rfl, rfl, trivial⟩, by omega, h26, h27, h28, h29, h30, H⟩
      ·
       rw [if_neg c5] at H
       refine RW.bool 35 (b' := true) (not_t (bool_f c5)) rfl ?_
       refine RW.pure tabOk 4 rfl ?_
       refine RW.done ?_
       have h31 := h17.ext x4
       have h32 := h18.ext x4
       have h33 := h19.ext x4
       have h34 := Ext.trans (Ext.trans (Ext.trans (Ext.trans x0 x1) x2) x3) x4
       have h35 := h16.ext x4
       exact NW.J fun a ha => ⟨true, ha.sub ⟨rfl, rfl, trivial⟩, by omega, h31, h32, h33, h34, h35, H⟩
     ·
      rw [if_neg c4] at H
      refine RW.bool 30 (b' := true) (not_t (bool_f c4)) rfl ?_
      refine RW.pure tabOk 9 rfl ?_
      refine RW.done ?_
      have h36 := h12.ext x3
      have h37 := h13.ext x3
      have h38 := h14.ext x3
      have h39 := Ext.trans (Ext.trans (Ext.trans x0 x1) x2) x3
      have h40 := h7.ext x3
      exact NW.J fun a ha => ⟨true, ha.sub ⟨rfl, rfl, trivial⟩, by omega, h36, h37, h38, h39, h40, H⟩
    ·
     rw [if_neg c3] at H
     refine RW.bool 18 (b' := true) (bne_t c3) rfl ?_
     refine RW.pure tabOk 1 rfl ?_
     refine RW.load tabOk [.slice A2 p0.Tables.length c_2] ((h7.at 1).take 1 rfl) ⟨rfl, rfl, rfl, rfl⟩ rfl rfl rfl rfl ?_
     refine RW.pure tabOk 5 rfl ?_
     by_cases c6 : 12 ≤ (p0.Tables.length : Int)
     ·
      rw [if_pos c6] at H
      refine RW.bool 25 (b' := true) (decide_eq_true c6) rfl ?_
      refine RW.pure tabOk 14 rfl ?_
      refine RW.done ?_
      have h41 := h5.ext x2
      have h42 := (h2.ext x1).ext x2
      have h43 := (h3.ext x1).ext x2
      have h44 := Ext.trans (Ext.trans x0 x1) x2
      exact NW.J fun a ha => ⟨true, ha.sub ⟨rfl, rfl, trivial⟩, by omega, h41, h42, h43, h44, h7, H⟩
     ·
      rw [if_neg c6] at H
      refine RW.bool 25 (b' := false) (decide_eq_false c6) rfl ?_
      refine RW.load tabOk [.slice A1 p0.Devices.length c_1, .slice A2 p0.Tables.length c_2, .int .i64 p0.Job.Dev, .int .i64 p0.Job.At, .int .i64 p0.Job.Table.Dev, .int .i64 p0.Job.Table.Size, .slice A3 p0.Job.Table.List_.length c_3, .int .i64 p0.Next] (h7.at 0) ⟨rfl, rfl, rfl, rfl⟩ rfl rfl rfl rfl ?_
      have h45 := h5.ext x2
      have h46 := (h2.ext x1).ext x2
      have h47 := (h3.ext x1).ext x2
      obtain ⟨y5, h48, H⟩ := bind_some H
      refine RW.callF (.inl rfl) ent91 ⟨rfl, rfl, rfl, rfl⟩ rfl rfl (chain_ids.calls k p0 A1 c_1 A2 c_2 A3 c_3 _ _ h45.all hl1 h46.all hl2 h47.all hl3 h48) ?_
      rintro _ w7 ⟨rfl, x6⟩
      refine ⟨_, rfl, x6, ?_⟩
      have sx6 := x6.size
      refine RW.pure tabOk 3 rfl ?_
      by_cases c7 : y5 = true
      ·
       rw [if_pos c7] at H
       refine RW.bool 30 (b' := false) (not_f (c7)) rfl ?_
       have h49 := h7.ext x6
       refine RW.load tabOk [.slice A1 p0.Devices.length c_1, .slice A2 p0.Tables.length c_2, .int .i64 p0.Job.Dev, .int .i64 p0.Job.At, .int .i64 p0.Job.Table.Dev, .int .i64 p0.Job.Table.Size, .slice A3 p0.Job.Table.List_.length c_3, .int .i64 p0.Next] (h49.at 0) ⟨rfl, rfl, rfl, rfl⟩ rfl rfl rfl rfl ?_
       have h50 := h45.ext x6
       have h51 := h46.ext x6
       have h52 := h47.ext x6
       obtain ⟨y6, h53, H⟩ := bind_some H
       refine RW.callF (.inl rfl) ent92 ⟨rfl, rfl, rfl, rfl⟩ rfl rfl (chain_tables.calls k p0 A1 c_1 A2 c_2 A3 c_3 _ _ h50.all hl1 h51.all hl2 h52.all hl3 h53) ?_
       rintro _ w8 ⟨rfl, x7⟩
       refine ⟨_, rfl, x7, ?_⟩
       have sx7 := x7.size
       refine RW.pure tabOk 3 rfl ?_
       by_cases c8 : y6 = true
       ·
        rw [if_pos c8] at H
        refine RW.bool 35 (b' := false) (not_f (c8)) rfl ?_
        have h54 := h49.ext x7
        refine RW.load tabOk [.slice A1 p0.Devices.length c_1, .slice A2 p0.Tables.length c_2, .int .i64 p0.Job.Dev, .int .i64 p0.Job.At, .int .i64 p0.Job.Table.Dev, .int .i64 p0.Job.Table.Size, .slice A3 p0.Job.Table.List_.length c_3, .int .i64 p0.Next] (h54.at 0) ⟨rfl, rfl, rfl, rfl⟩ rfl rfl rfl rfl ?_
        have h55 := h50.ext x7
        have h56 := h51.ext x7
        have h57 := h52.ext x7
        obtain ⟨y7, h58, H⟩ := bind_some H
        refine RW.callF (.inl rfl) ent93 ⟨rfl, rfl, rfl, rfl⟩ rfl rfl (chain_job.calls k p0 A1 c_1 A2 c_2 A3 c_3 _ _ h55.all hl1 h56.all hl2 h57.all hl3 h58) ?_
        rintro _ w9 ⟨rfl, x8⟩
        refine ⟨_, rfl, x8, ?_⟩
        have sx8 := x8.size
        refine RW.pure tabOk 2 rfl ?_
        refine RW.done ?_
        have h59 := h55.ext x8
        have h60 := h56.ext x8
        have h61 := h57.ext x8
        have h62 := Ext.trans (Ext.trans (Ext.trans (Ext.trans (Ext.trans x0 x1) x2) x6) x7) x8
        have h63 := h54.ext x8
        exact NW.J fun a ha => ⟨(!y7), ha.sub ⟨rfl, rfl, trivial⟩, by omega, h59, h60, h61, h62, h63, H⟩
       ·
        rw [if_neg c8] at H
        refine RW.bool 35 (b' := true) (not_t (bool_f c8)) rfl ?_
        refine RW.pure tabOk 4 rfl ?_
        refine RW.done ?_
        have h64 := h50.ext x7
        have h65 := h51.ext x7
        have h66 := h52.ext x7
        have h67 := Ext.trans (Ext.trans (Ext.trans (Ext.trans x0 x1) x2) x6) x7
        have h68 := h49.ext x7
        exact NW.J fun a ha => ⟨true, ha.sub ⟨rfl, rfl, trivial⟩, by omega, h64, h65, h66, h67, h68, H⟩
      ·
       rw [if_neg c7] at H
       refine RW.bool 30 (b' := true) (not_t (bool_f c7)) rfl ?_
       refine RW.pure tabOk 9 rfl ?_
       refine RW.done ?_
       have h69 := h45.ext x6
       have h70 := h46.ext x6
       have h71 := h47.ext x6
       have h72 := Ext.trans (Ext.trans (Ext.trans x0 x1) x2) x6
       have h73 := h7.ext x6
       exact NW.J fun a ha => ⟨true, ha.sub ⟨rfl, rfl, trivial⟩, by omega, h69, h70, h71, h72, h73, H⟩
  ·
   rw [if_neg c1] at H
   refine RW.bool 7 (b' := true) (not_t (bool_f c1)) rfl ?_
   refine RW.pure tabOk 32 rfl ?_
   refine RW.done ?_
   have h74 := h5.ext x2
   have h75 := (h2.ext x1).ext x2
   have h76 := (h3.ext x1).ext x2
   have h77 := Ext.trans (Ext.trans x0 x1) x2
   have h78 := h4.ext x2
   exact NW.J fun a ha => ⟨true, ha.sub ⟨rfl, rfl, trivial⟩, by omega, h74, h75, h76, h77, h78, H⟩
 intro a w2 hJ hp
 obtain ⟨bt39_0, hS, hle, gF1_0, gF2_0, gF3_0, x0_0, gb1_0, H⟩ := hJ
 unfold chain_May.j0 at H
 refine CW.go hp hS ?_
 by_cases c9 : bt39_0 = true
 ·
  rw [if_pos c9] at H
  refine CW.cond_t rfl (c9) ?_
  refine CW.seq ?_
  refine CW.lex [.W] rfl ?_
  refine RW.pure tabOk 1 rfl ?_
  refine RW.done ?_
  refine NW.next ?_
  refine CW.ret ?_
  refine NW.ret_then ?_
  obtain rfl := Option.some.inj H
  exact NW.ret1 rfl (by rfl) ⟨rfl, x0_0⟩
 ·
  rw [if_neg c9] at H
  refine CW.cond_f rfl (bool_f c9) ?_
  refine CW.skip ?_
  refine NW.next ?_
  refine CW.seq ?_
  refine CW.lex [.W, .L, .W, .X, .W] rfl ?_
  refine RW.pure tabOk 1 rfl ?_
  refine RW.load tabOk [.slice A1 p0.Devices.length c_1] ((gb1_0.at 0).take 1 rfl) ⟨rfl, rfl, rfl, rfl⟩ rfl rfl rfl rfl ?_
  refine RW.pure tabOk 1 rfl ?_
  have xc1 : Ext w2 w2 := Upd.refl _ _
  refine RW.callK (.inl rfl) ent94 ⟨rfl, rfl, rfl, rfl⟩ rfl rfl rfl ?_
  refine calls_start Tryd.func94 rfl 9 rfl [.slice A1 p0.Devices.length c_1, .func (.func 95) #[] #[.pointer (some ⟨b1, 0, none⟩)]] rfl ?_
  refine CW.seq ?_
  refine CW.lex [.W] rfl ?_
  refine RW.pure tabOk 1 rfl ?_
  refine RW.done ?_
  refine NW.next ?_
  refine CW.seq ?_
  refine CW.lex [.W, .W, .X, .W, .W] rfl ?_
  refine RW.pure tabOk 2 rfl ?_
  have xc2 : Ext w2 w2 := Upd.refl _ _
  refine RW.callV (R := fun e w10 => ∃ (it7_1 : Int), e = .returned (.int .i64 it7_1) ∧ w2.heap.size ≤ w10.heap.size ∧ Ext w w10 ∧ Ext w2 w10 ∧ Ext w2 w10 ∧ chain_May.j1 it7_1 = some r) (.inl rfl) ent128 ⟨rfl, rfl, rfl, rfl⟩ rfl rfl rfl ?_ ?_
  ·
   refine calls_start Tryd.func128 rfl 19 rfl [.slice A1 p0.Devices.length c_1, .func (.func 95) #[] #[.pointer (some ⟨b1, 0, none⟩)]] rfl ?_
   refine CW.seq ?_
   refine CW.lex [.W] rfl ?_
   refine RW.pure tabOk 1 rfl ?_
   refine RW.done ?_
   refine NW.next ?_
   refine CW.seq ?_
   refine CW.seq ?_
   refine CW.lex [.W, .W, .W] rfl ?_
   refine RW.pure tabOk 3 rfl ?_
   refine RW.done ?_
   refine NW.next ?_
   refine CW.block ?_
   refine CW.loop (fun n1 a w11 => ∃ (it8_2 : Int), Sat 19 [(0, .slice A1 p0.Devices.length c_1), (1, .func (.func 95) #[] #[.pointer (some ⟨b1, 0, none⟩)]), (7, .int .i64 (p0.Devices.length : Int)), (8, .int .i64 it8_2)] a ∧ w2.heap.size ≤ w11.heap.size ∧ Sl kDeviceR w11.heap (okL [(0, some w.heap.size, none)]) A1 p0.Devices ∧ Sl kTableR w11.heap (okL [(0, some w.heap.size, none)]) A2 p0.Tables ∧ Sl kEntry w11.heap (okL [(0, some w.heap.size, none)]) A3 p0.Job.Table.List_ ∧ Ext w w11 ∧ Ext w2 w11 ∧ Ext w2 w11 ∧ Box w11.heap b1 79 [.slice A1 p0.Devices.length c_1, .slice A2 p0.Tables.length c_2, .int .i64 p0.Job.Dev, .int .i64 p0.Job.At, .int .i64 p0.Job.Table.Dev, .int .i64 p0.Job.Table.Size, .slice A3 p0.Job.Table.List_.length c_3, .int .i64 p0.Next] ∧ chain_May.l0 p0 n1 it8_2 = some r) k ?_ ?_
   · exact fun a ha => ⟨0, ha.sub ⟨rfl, rfl, rfl, rfl, trivial⟩, by omega, gF1_0, gF2_0, gF3_0, x0_0, xc1, xc2, gb1_0, H⟩
   intro n1 a w11 hI hp
   obtain ⟨it8_2, hS, hle, gF1_2, gF2_2, gF3_2, x0_2, x_xc1_2, x_xc2_2, gb1_2, H⟩ := hI
   cases n1 with
   | zero => cases H
   | succ n1 =>
    rw [chain_May.l0] at H
    refine CW.go hp hS ?_
    refine CW.seq ?_
    refine CW.lex [.W] rfl ?_
    refine RW.pure tabOk 1 rfl ?_
    refine RW.done ?_
    refine NW.next ?_
    refine CW.seq ?_
    by_cases c10 : it8_2 < (p0.Devices.length : Int)
    ·
     rw [if_pos c10] at H
     refine CW.cond_t rfl (decide_eq_true c10) ?_
     refine CW.skip ?_
     refine NW.next ?_
     refine CW.seq ?_
     refine CW.block ?_
     refine CW.seq ?_
     refine CW.lex [.W, .W] rfl ?_
     refine RW.pure tabOk 2 rfl ?_
     refine RW.done ?_
     refine NW.next ?_
     refine CW.seq ?_
     refine CW.lex [.W, .W, .W, .W, .L, .M] rfl ?_
     refine RW.pure tabOk 3 rfl ?_
     obtain ⟨g1, H⟩ := guard_some H
     obtain ⟨ad1, A4, c_4, A5, c_5, e1, a1, l2, h79, l3, h80⟩ := kDeviceR_at gF1_2 g1.1 g1.2
     refine RW.index tabOk g1.1 g1.2 e1 ⟨rfl, rfl, rfl, rfl⟩ rfl rfl rfl rfl rfl rfl ?_
     refine RW.load tabOk [.int .i64 ((rd p0.Devices it8_2).ID), .int .i64 ((rd p0.Devices it8_2).Size), .slice A4 ((rd p0.Devices it8_2).Free).length c_4, .slice A5 ((rd p0.Devices it8_2).Late).length c_5] a1 ⟨rfl, rfl, rfl, rfl⟩ rfl rfl rfl rfl ?_
     refine RW.callKM ent95 ⟨rfl, rfl, rfl, rfl⟩ rfl rfl rfl ?_
     refine calls_start Tryd.func95 rfl 10 rfl [.agg #[.int .i64 ((rd p0.Devices it8_2).ID), .int .i64 ((rd p0.Devices it8_2).Size), .slice A4 ((rd p0.Devices it8_2).Free).length c_4, .slice A5 ((rd p0.Devices it8_2).Late).length c_5], .pointer (some ⟨b1, 0, none⟩)] rfl ?_
     refine CW.seq ?_
     refine CW.lex [.X, .W] rfl ?_
     refine RW.box (cs := [.int .i64 ((rd p0.Devices it8_2).ID), .int .i64 ((rd p0.Devices it8_2).Size), .slice A4 ((rd p0.Devices it8_2).Free).length c_4, .slice A5 ((rd p0.Devices it8_2).Late).length c_5]) (.inl rfl) ⟨rfl, rfl, rfl, rfl⟩ rfl rfl rfl ?_
     intro b2 w12 x9 l4 h81
     have sx9 := x9.size
     have ltb2 := h81.lt
     refine RW.pure tabOk 1 rfl ?_
     refine RW.done ?_
     refine NW.next ?_
     refine CW.seq ?_
     refine CW.lex [.W, .L, .W, .W, .L, .W, .W] rfl ?_
     refine RW.pure tabOk 1 rfl ?_
     refine RW.load tabOk [.int .i64 ((rd p0.Devices it8_2).ID)] ((h81.at 0).take 1 rfl) ⟨rfl, rfl, rfl, rfl⟩ rfl rfl rfl rfl ?_
     refine RW.pure tabOk 2 rfl ?_
     have h82 := gb1_2.ext x9
     refine RW.load tabOk [.int .i64 p0.Job.Dev] ((h82.at 2).take 1 rfl) ⟨rfl, rfl, rfl, rfl⟩ rfl rfl rfl rfl ?_
     refine RW.pure tabOk 2 rfl ?_
     refine RW.done ?_
     refine NW.next ?_
     refine CW.ret ?_
     refine NW.ret1 rfl (by rfl) ⟨_, rfl, ?_⟩
     refine RW.done ?_
     refine NW.next ?_
     by_cases c11 : (rd p0.Devices it8_2).ID = p0.Job.Dev
     ·
      rw [if_pos c11] at H
      refine CW.cond_f rfl (bne_f c11) ?_
      refine CW.skip ?_
      refine NW.norm_block (NW.next ?_)
      refine CW.lex [.W, .W] rfl ?_
      refine RW.pure tabOk 2 rfl ?_
      refine RW.done ?_
      have h83 := gF1_2.ext x9
      have h84 := gF2_2.ext x9
      have h85 := gF3_2.ext x9
      have h86 := Ext.trans x0_2 x9
      have h87 := Ext.trans x_xc1_2 x9
      have h88 := Ext.trans x_xc2_2 x9
      exact NW.J fun a ha => ⟨n1, Nat.lt_succ_self n1, (w64 (it8_2 + 1)), ha.sub ⟨rfl, rfl, rfl, rfl, trivial⟩, by omega, h83, h84, h85, h86, h87, h88, h82, H⟩
     ·
      rw [if_neg c11] at H
      refine CW.cond_t rfl (bne_t c11) ?_
      refine CW.seq ?_
      refine CW.lex [.W, .W] rfl ?_
      refine RW.pure tabOk 2 rfl ?_
      refine RW.done ?_
      refine NW.next ?_
      refine CW.ret ?_
      refine NW.ret_block (NW.ret_then (NW.ret_then (NW.ret_block (NW.ret_then ?_))))
      have h89 := Ext.trans x0_2 x9
      have h90 := Ext.trans x_xc1_2 x9
      have h91 := Ext.trans x_xc2_2 x9
      exact NW.ret1 rfl (by rfl) ⟨it8_2, rfl, by omega, h89, h90, h91, H⟩
    ·
     rw [if_neg c10] at H
     refine CW.cond_f rfl (decide_eq_false c10) ?_
     refine CW.exit ?_
     refine NW.exit_then (NW.exit_then (NW.exit_hit ?_))
     refine NW.next ?_
     refine CW.seq ?_
     refine CW.lex [.W] rfl ?_
     refine RW.pure tabOk 1 rfl ?_
     refine RW.done ?_
     refine NW.next ?_
     refine CW.ret ?_
     exact NW.ret1 rfl (by rfl) ⟨(-1), rfl, by omega, x0_2, x_xc1_2, x_xc2_2, H⟩
  rintro _ w10 ⟨it7_1, rfl, hle, x0_1, x_xc1_1, x_xc2_1, H⟩
  refine ⟨_, rfl, x_xc2_1, ?_⟩
  unfold chain_May.j1 at H
  refine RW.pure tabOk 2 rfl ?_
  refine RW.done ?_
  refine NW.next ?_
  refine CW.ret ?_
  refine NW.ret1 rfl (by rfl) ⟨_, rfl, x_xc1_1, ?_⟩
  refine RW.pure tabOk 1 rfl ?_
  refine RW.done ?_
  refine NW.next ?_
  refine CW.ret ?_
  obtain rfl := Option.some.inj H
  exact NW.ret1 rfl (by rfl) ⟨rfl, x0_1⟩

set_option maxHeartbeats 20000000 in
set_option maxRecDepth 100000 in
theorem chain_Find_1.calls (p0 : Table) (A1 : Option Addr) (c_1 : Nat) (p1 : Int) (r : Int) (w : World) (hs1 : Sl kEntry w.heap okAll A1 p0.List_) (hl1 : p0.List_.length ≤ c_1) (H : chain_Find_1.f p0 p1 = some r) :
    Calls Tryd.prog 131 #[.agg #[.int .i64 p0.Dev, .int .i64 p0.Size, .slice A1 p0.List_.length c_1], .int .i64 p1] w fun e w' => e = .returned (.int .i64 r) ∧ Ext w w' := by
 have h1 : Sl kEntry w.heap (okL [(0, some w.heap.size, none)]) A1 p0.List_ := hs1.old _ rfl
 have x0 : Ext w w := Upd.refl _ w
 unfold chain_Find_1.f at H
 refine calls_start Tryd.func131 rfl 9 rfl [.agg #[.int .i64 p0.Dev, .int .i64 p0.Size, .slice A1 p0.List_.length c_1], .int .i64 p1] rfl ?_
 refine CW.seq ?_
 refine CW.lex [.X, .W] rfl ?_
 refine RW.box (cs := [.int .i64 p0.Dev, .int .i64 p0.Size, .slice A1 p0.List_.length c_1]) (.inl rfl) ⟨rfl, rfl, rfl, rfl⟩ rfl rfl rfl ?_
 intro b1 w1 x1 l1 h2
 have sx1 := x1.size
 have ltb1 := h2.lt
 refine RW.pure tabOk 1 rfl ?_
 refine RW.done ?_
 refine NW.next ?_
 refine CW.seq ?_
 refine CW.lex [.W, .L, .W, .W, .W] rfl ?_
 refine RW.pure tabOk 1 rfl ?_
 refine RW.load tabOk [.int .i64 p0.Dev] ((h2.at 0).take 1 rfl) ⟨rfl, rfl, rfl, rfl⟩ rfl rfl rfl rfl ?_
 refine RW.pure tabOk 3 rfl ?_
 refine RW.done ?_
 refine NW.next ?_
 refine CW.ret ?_
 obtain rfl := Option.some.inj H
 have h3 := Ext.trans x0 x1
 exact NW.ret1 rfl (by rfl) ⟨rfl, h3⟩

set_option maxHeartbeats 20000000 in
set_option maxRecDepth 100000 in
theorem chain_Find.calls (k : Nat) (p0 : Pool) (A1 : Option Addr) (c_1 : Nat) (A2 : Option Addr) (c_2 : Nat) (A3 : Option Addr) (c_3 : Nat) (p1 : Int) (r : Int × Bool) (w : World) (hs1 : Sl kDeviceR w.heap okAll A1 p0.Devices) (hl1 : p0.Devices.length ≤ c_1) (hs2 : Sl kTableR w.heap okAll A2 p0.Tables) (hl2 : p0.Tables.length ≤ c_2) (hs3 : Sl kEntry w.heap okAll A3 p0.Job.Table.List_) (hl3 : p0.Job.Table.List_.length ≤ c_3) (H : chain_Find.f k p0 p1 = some r) :
    Calls Tryd.prog 98 #[.agg #[.slice A1 p0.Devices.length c_1, .slice A2 p0.Tables.length c_2, .int .i64 p0.Job.Dev, .int .i64 p0.Job.At, .int .i64 p0.Job.Table.Dev, .int .i64 p0.Job.Table.Size, .slice A3 p0.Job.Table.List_.length c_3, .int .i64 p0.Next], .int .i64 p1] w fun e w' => e = .returned (.tuple #[.int .i64 r.1, .bool r.2]) ∧ Ext w w' := by
 have h1 : Sl kDeviceR w.heap (okL [(0, some w.heap.size, none)]) A1 p0.Devices := hs1.old _ rfl
 have h2 : Sl kTableR w.heap (okL [(0, some w.heap.size, none)]) A2 p0.Tables := hs2.old _ rfl
 have h3 : Sl kEntry w.heap (okL [(0, some w.heap.size, none)]) A3 p0.Job.Table.List_ := hs3.old _ rfl
 have x0 : Ext w w := Upd.refl _ w
 unfold chain_Find.f at H
 refine calls_start Tryd.func98 rfl 12 rfl [.agg #[.slice A1 p0.Devices.length c_1, .slice A2 p0.Tables.length c_2, .int .i64 p0.Job.Dev, .int .i64 p0.Job.At, .int .i64 p0.Job.Table.Dev, .int .i64 p0.Job.Table.Size, .slice A3 p0.Job.Table.List_.length c_3, .int .i64 p0.Next], .int .i64 p1] rfl ?_
 refine CW.seq ?_
 refine CW.lex [.X, .W, .W] rfl ?_
 refine RW.box (cs := [.slice A1 p0.Devices.length c_1, .slice A2 p0.Tables.length c_2, .int .i64 p0.Job.Dev, .int .i64 p0.Job.At, .int .i64 p0.Job.Table.Dev, .int .i64 p0.Job.Table.Size, .slice A3 p0.Job.Table.List_.length c_3, .int .i64 p0.Next]) (.inl rfl) ⟨rfl, rfl, rfl, rfl⟩ rfl rfl rfl ?_
 intro b1 w1 x1 l1 h4
 have sx1 := x1.size
 have ltb1 := h4.lt
 refine RW.pure tabOk 2 rfl ?_
 refine RW.done ?_
 refine NW.next ?_
 refine CW.seq ?_
 refine CW.lex [.W, .L, .W, .X, .W, .W, .W, .W] rfl ?_
 refine RW.pure tabOk 1 rfl ?_
 refine RW.load tabOk [.slice A2 p0.Tables.length c_2] ((h4.at 1).take 1 rfl) ⟨rfl, rfl, rfl, rfl⟩ rfl rfl rfl rfl ?_
 refine RW.pure tabOk 1 rfl ?_
 have xc1 : Ext w1 w1 := Upd.refl _ _
 refine RW.callV (R := fun e w2 => ∃ (it9_0_0 : Int) (bt9_1_0 : Bool), e = .returned (.tuple #[.int .i64 it9_0_0, .bool bt9_1_0]) ∧ w1.heap.size ≤ w2.heap.size ∧ Ext w w2 ∧ Ext w1 w2 ∧ chain_Find.j0 it9_0_0 bt9_1_0 = some r) (.inl rfl) ent130 ⟨rfl, rfl, rfl, rfl⟩ rfl rfl rfl ?_ ?_
 ·
  refine calls_start Tryd.func130 rfl 49 rfl [.slice A2 p0.Tables.length c_2, .int .i64 p1, .func (.func 131) #[] #[]] rfl ?_
  refine CW.seq ?_
  refine CW.lex [.W, .W] rfl ?_
  refine RW.pure tabOk 2 rfl ?_
  refine RW.done ?_
  refine NW.next ?_
  refine CW.seq ?_
  refine CW.lex [.W, .W, .W] rfl ?_
  refine RW.pure tabOk 3 rfl ?_
  refine RW.done ?_
  refine NW.next ?_
  refine CW.seq ?_
  refine CW.lex [.W, .W, .W] rfl ?_
  refine RW.pure tabOk 3 rfl ?_
  refine RW.done ?_
  refine NW.next ?_
  refine CW.seq ?_
  refine CW.block ?_
  refine CW.loop (fun n1 a w3 => ∃ (it9_1 : Int) (it10_1 : Int), Sat 49 [(0, .slice A2 p0.Tables.length c_2), (1, .int .i64 p1), (2, .func (.func 131) #[] #[]), (8, .int .i64 (p0.Tables.length : Int)), (9, .int .i64 it9_1), (10, .int .i64 it10_1)] a ∧ w1.heap.size ≤ w3.heap.size ∧ Sl kTableR w3.heap (okL [(0, some w.heap.size, none)]) A2 p0.Tables ∧ Ext w w3 ∧ Ext w1 w3 ∧ chain_Find.l0 p0 p1 n1 it9_1 it10_1 = some r) k ?_ ?_
  have h5 := h2.ext x1
  have h6 := Ext.trans x0 x1
  · exact fun a ha => ⟨0, (p0.Tables.length : Int), ha.sub ⟨rfl, rfl, rfl, rfl, rfl, rfl, trivial⟩, by omega, h5, h6, xc1, H⟩
  intro n1 a w3 hI hp
  obtain ⟨it9_1, it10_1, hS, hle, gF2_1, x0_1, x_xc1_1, H⟩ := hI
  cases n1 with
  | zero => cases H
  | succ n1 =>
   rw [chain_Find.l0] at H
   refine CW.go hp hS ?_
   refine CW.seq ?_
   refine CW.seq ?_
   refine CW.lex [.W, .W, .W] rfl ?_
   refine RW.pure tabOk 3 rfl ?_
   refine RW.done ?_
   refine NW.next ?_
   by_cases c1 : it9_1 < it10_1
   ·
    rw [if_pos c1] at H
    refine CW.cond_t rfl (decide_eq_true c1) ?_
    refine CW.skip ?_
    refine NW.next ?_
    refine CW.block ?_
    refine CW.seq ?_
    refine CW.lex [.W, .W, .W, .W, .W, .W, .W] rfl ?_
    refine RW.pure tabOk 4 rfl ?_
    refine RW.shift (by omega) ⟨rfl, rfl, rfl, rfl⟩ rfl rfl rfl rfl ?_
    refine RW.pure tabOk 2 rfl ?_
    refine RW.done ?_
    refine NW.next ?_
    refine CW.seq ?_
    refine CW.lex [.W, .W, .W, .W, .L, .W, .M, .W] rfl ?_
    refine RW.pure tabOk 3 rfl ?_
    obtain ⟨g1, H⟩ := guard_some H
    obtain ⟨ad1, A4, c_4, e1, a1, l2, h7⟩ := kTableR_at gF2_1 g1.1 g1.2
    refine RW.index tabOk g1.1 g1.2 e1 ⟨rfl, rfl, rfl, rfl⟩ rfl rfl rfl rfl rfl rfl ?_
    refine RW.load tabOk [.int .i64 ((rd p0.Tables (w64 ((wu64 (w64 (it9_1 + it10_1))).fdiv (2 ^ min (1 : Int).toNat 64)))).Dev), .int .i64 ((rd p0.Tables (w64 ((wu64 (w64 (it9_1 + it10_1))).fdiv (2 ^ min (1 : Int).toNat 64)))).Size), .slice A4 ((rd p0.Tables (w64 ((wu64 (w64 (it9_1 + it10_1))).fdiv (2 ^ min (1 : Int).toNat 64)))).List_).length c_4] a1 ⟨rfl, rfl, rfl, rfl⟩ rfl rfl rfl rfl ?_
    refine RW.pure tabOk 1 rfl ?_
    obtain ⟨y1, h8, H⟩ := bind_some H
    refine RW.callV (cap := []) (.inr rfl) ent131 ⟨rfl, rfl, rfl, rfl⟩ rfl rfl rfl (chain_Find_1.calls (rd p0.Tables (w64 ((wu64 (w64 (it9_1 + it10_1))).fdiv (2 ^ min (1 : Int).toNat 64)))) A4 c_4 p1 _ _ h7.all l2 h8) ?_
    rintro _ w4 ⟨rfl, x2⟩
    refine ⟨_, rfl, x2, ?_⟩
    have sx2 := x2.size
    refine RW.pure tabOk 1 rfl ?_
    refine RW.done ?_
    refine NW.next ?_
    by_cases c2 : y1 < 0
    ·
     rw [if_pos c2] at H
     refine CW.cond_t rfl (decide_eq_true c2) ?_
     refine CW.lex [.W, .W, .W] rfl ?_
     refine RW.pure tabOk 3 rfl ?_
     refine RW.done ?_
     refine NW.norm_block ?_
     have h9 := gF2_1.ext x2
     have h10 := Ext.trans x0_1 x2
     have h11 := Ext.trans x_xc1_1 x2
     exact NW.J fun a ha => ⟨n1, Nat.lt_succ_self n1, (w64 ((w64 ((wu64 (w64 (it9_1 + it10_1))).fdiv (2 ^ min (1 : Int).toNat 64))) + 1)), it10_1, ha.sub ⟨rfl, rfl, rfl, rfl, rfl, rfl, trivial⟩, by omega, h9, h10, h11, H⟩
    ·
     rw [if_neg c2] at H
     refine CW.cond_f rfl (decide_eq_false c2) ?_
     refine CW.lex [.W, .W] rfl ?_
     refine RW.pure tabOk 2 rfl ?_
     refine RW.done ?_
     refine NW.norm_block ?_
     have h12 := gF2_1.ext x2
     have h13 := Ext.trans x0_1 x2
     have h14 := Ext.trans x_xc1_1 x2
     exact NW.J fun a ha => ⟨n1, Nat.lt_succ_self n1, it9_1, (w64 ((wu64 (w64 (it9_1 + it10_1))).fdiv (2 ^ min (1 : Int).toNat 64))), ha.sub ⟨rfl, rfl, rfl, rfl, rfl, rfl, trivial⟩, by omega, h12, h13, h14, H⟩
   ·
    rw [if_neg c1] at H
    refine CW.cond_f rfl (decide_eq_false c1) ?_
    refine CW.exit ?_
    refine NW.exit_then (NW.exit_then (NW.exit_hit ?_))
    refine NW.next ?_
    refine CW.seq ?_
    refine CW.lex [.W, .W, .W, .W, .W, .W, .W, .W, .W, .L, .W, .M, .W, .W, .W, .W] rfl ?_
    refine RW.pure tabOk 5 rfl ?_
    by_cases c3 : it9_1 < (p0.Tables.length : Int)
    ·
     rw [if_pos c3] at H
     refine RW.bool 39 (b' := true) (decide_eq_true c3) rfl ?_
     refine RW.pure tabOk 3 rfl ?_
     obtain ⟨g2, H⟩ := guard_some H
     obtain ⟨ad2, A5, c_5, e2, a2, l3, h15⟩ := kTableR_at gF2_1 g2.1 g2.2
     refine RW.index tabOk g2.1 g2.2 e2 ⟨rfl, rfl, rfl, rfl⟩ rfl rfl rfl rfl rfl rfl ?_
     refine RW.load tabOk [.int .i64 ((rd p0.Tables it9_1).Dev), .int .i64 ((rd p0.Tables it9_1).Size), .slice A5 ((rd p0.Tables it9_1).List_).length c_5] a2 ⟨rfl, rfl, rfl, rfl⟩ rfl rfl rfl rfl ?_
     refine RW.pure tabOk 1 rfl ?_
     obtain ⟨y2, h16, H⟩ := bind_some H
     refine RW.callV (cap := []) (.inr rfl) ent131 ⟨rfl, rfl, rfl, rfl⟩ rfl rfl rfl (chain_Find_1.calls (rd p0.Tables it9_1) A5 c_5 p1 _ _ h15.all l3 h16) ?_
     rintro _ w5 ⟨rfl, x3⟩
     refine ⟨_, rfl, x3, ?_⟩
     have sx3 := x3.size
     refine RW.pure tabOk 4 rfl ?_
     refine RW.done ?_
     refine NW.next ?_
     refine CW.ret ?_
     have h17 := Ext.trans x0_1 x3
     have h18 := Ext.trans x_xc1_1 x3
     exact NW.ret2 rfl (by rfl) (by rfl) ⟨it9_1, (y2 == 0), rfl, by omega, h17, h18, H⟩
    ·
     rw [if_neg c3] at H
     refine RW.bool 39 (b' := false) (decide_eq_false c3) rfl ?_
     refine RW.pure tabOk 11 rfl ?_
     refine RW.done ?_
     refine NW.next ?_
     refine CW.ret ?_
     exact NW.ret2 rfl (by rfl) (by rfl) ⟨it9_1, false, rfl, by omega, x0_1, x_xc1_1, H⟩
 rintro _ w2 ⟨it9_0_0, bt9_1_0, rfl, hle, x0_0, x_xc1_0, H⟩
 refine ⟨_, rfl, x_xc1_0, ?_⟩
 unfold chain_Find.j0 at H
 refine RW.pure tabOk 4 rfl ?_
 refine RW.done ?_
 refine NW.next ?_
 refine CW.ret ?_
 obtain rfl := Option.some.inj H
 exact NW.ret2 rfl (by rfl) (by rfl) ⟨rfl, x0_0⟩

set_option maxHeartbeats 20000000 in
set_option maxRecDepth 100000 in
theorem table_At.calls (k : Nat) (p0 : Table) (A1 : Option Addr) (c_1 : Nat) (p1 : Int) (r : Int) (w : World) (hs1 : Sl kEntry w.heap okAll A1 p0.List_) (hl1 : p0.List_.length ≤ c_1) (H : table_At.f k p0 p1 = some r) :
    Calls Tryd.prog 132 #[.agg #[.int .i64 p0.Dev, .int .i64 p0.Size, .slice A1 p0.List_.length c_1], .int .i64 p1] w fun e w' => e = .returned (.int .i64 r) ∧ Ext w w' := by
 have h1 : Sl kEntry w.heap (okL [(0, some w.heap.size, none)]) A1 p0.List_ := hs1.old _ rfl
 have x0 : Ext w w := Upd.refl _ w
 unfold table_At.f at H
 refine calls_start Tryd.func132 rfl 9 rfl [.agg #[.int .i64 p0.Dev, .int .i64 p0.Size, .slice A1 p0.List_.length c_1], .int .i64 p1] rfl ?_
 refine CW.seq ?_
 refine CW.lex [.X, .X, .W] rfl ?_
 refine RW.box (cs := [.int .i64 p0.Dev, .int .i64 p0.Size, .slice A1 p0.List_.length c_1]) (.inl rfl) ⟨rfl, rfl, rfl, rfl⟩ rfl rfl rfl ?_
 intro b1 w1 x1 l1 h2
 have sx1 := x1.size
 have ltb1 := h2.lt
 refine RW.box (cs := [.int .i64 p1]) (.inl rfl) ⟨rfl, rfl, rfl, rfl⟩ rfl rfl rfl ?_
 intro b2 w2 x2 l2 h3
 have sx2 := x2.size
 have ltb2 := h3.lt
 refine RW.pure tabOk 1 rfl ?_
 refine RW.done ?_
 refine NW.next ?_
 refine CW.seq ?_
 refine CW.lex [.W, .L, .W, .X, .W] rfl ?_
 refine RW.pure tabOk 1 rfl ?_
 have h4 := h2.ext x2
 refine RW.load tabOk [.slice A1 p0.List_.length c_1] (h4.at 2) ⟨rfl, rfl, rfl, rfl⟩ rfl rfl rfl rfl ?_
 refine RW.pure tabOk 1 rfl ?_
 have xc1 : Ext w2 w2 := Upd.refl _ _
 refine RW.callV (R := fun e w3 => ∃ (it8_0 : Int), e = .returned (.int .i64 it8_0) ∧ w2.heap.size ≤ w3.heap.size ∧ Ext w w3 ∧ Ext w2 w3 ∧ table_At.j0 it8_0 = some r) (.inl rfl) ent138 ⟨rfl, rfl, rfl, rfl⟩ rfl rfl rfl ?_ ?_
 ·
  refine calls_start Tryd.func138 rfl 19 rfl [.slice A1 p0.List_.length c_1, .func (.func 140) #[] #[.pointer (some ⟨b2, 0, none⟩)]] rfl ?_
  refine CW.seq ?_
  refine CW.lex [.W] rfl ?_
  refine RW.pure tabOk 1 rfl ?_
  refine RW.done ?_
  refine NW.next ?_
  refine CW.seq ?_
  refine CW.seq ?_
  refine CW.lex [.W, .W, .W] rfl ?_
  refine RW.pure tabOk 3 rfl ?_
  refine RW.done ?_
  refine NW.next ?_
  refine CW.block ?_
  refine CW.loop (fun n1 a w4 => ∃ (it8_1 : Int), Sat 19 [(0, .slice A1 p0.List_.length c_1), (1, .func (.func 140) #[] #[.pointer (some ⟨b2, 0, none⟩)]), (7, .int .i64 (p0.List_.length : Int)), (8, .int .i64 it8_1)] a ∧ w2.heap.size ≤ w4.heap.size ∧ Sl kEntry w4.heap (okL [(0, some w.heap.size, none)]) A1 p0.List_ ∧ Ext w w4 ∧ Ext w2 w4 ∧ Box w4.heap b2 3 [.int .i64 p1] ∧ table_At.l0 p0 p1 n1 it8_1 = some r) k ?_ ?_
  have h5 := (h1.ext x1).ext x2
  have h6 := Ext.trans (Ext.trans x0 x1) x2
  · exact fun a ha => ⟨0, ha.sub ⟨rfl, rfl, rfl, rfl, trivial⟩, by omega, h5, h6, xc1, h3, H⟩
  intro n1 a w4 hI hp
  obtain ⟨it8_1, hS, hle, gF1_1, x0_1, x_xc1_1, gb2_1, H⟩ := hI
  cases n1 with
  | zero => cases H
  | succ n1 =>
   rw [table_At.l0] at H
   refine CW.go hp hS ?_
   refine CW.seq ?_
   refine CW.lex [.W] rfl ?_
   refine RW.pure tabOk 1 rfl ?_
   refine RW.done ?_
   refine NW.next ?_
   refine CW.seq ?_
   by_cases c1 : it8_1 < (p0.List_.length : Int)
   ·
    rw [if_pos c1] at H
    refine CW.cond_t rfl (decide_eq_true c1) ?_
    refine CW.skip ?_
    refine NW.next ?_
    refine CW.seq ?_
    refine CW.block ?_
    refine CW.seq ?_
    refine CW.lex [.W, .W] rfl ?_
    refine RW.pure tabOk 2 rfl ?_
    refine RW.done ?_
    refine NW.next ?_
    refine CW.seq ?_
    refine CW.lex [.W, .W, .W, .W, .L, .M] rfl ?_
    refine RW.pure tabOk 3 rfl ?_
    obtain ⟨g1, H⟩ := guard_some H
    obtain ⟨ad1, e1, a1⟩ := kEntry_at gF1_1 g1.1 g1.2
    refine RW.index tabOk g1.1 g1.2 e1 ⟨rfl, rfl, rfl, rfl⟩ rfl rfl rfl rfl rfl rfl ?_
    refine RW.load tabOk [.int .i64 ((rd p0.List_ it8_1).From), .int .i64 ((rd p0.List_ it8_1).Len), .int .i64 ((rd p0.List_ it8_1).Dev), .int .i64 ((rd p0.List_ it8_1).To), .int .i64 ((rd p0.List_ it8_1).Stale)] a1 ⟨rfl, rfl, rfl, rfl⟩ rfl rfl rfl rfl ?_
    refine RW.callFM (R := fun e w5 => ∃ (bt16_2 : Bool), e = .returned (.bool bt16_2) ∧ w4.heap.size ≤ w5.heap.size ∧ Sl kEntry w5.heap (okL [(0, some w.heap.size, none)]) A1 p0.List_ ∧ Ext w w5 ∧ Ext w2 w5 ∧ Box w5.heap b2 3 [.int .i64 p1] ∧ table_At.j1 it8_1 (table_At.l0 p0 p1 n1) bt16_2 = some r) ent140 ⟨rfl, rfl, rfl, rfl⟩ rfl rfl rfl ?_ ?_
    ·
     refine calls_start Tryd.func140 rfl 14 rfl [.agg #[.int .i64 ((rd p0.List_ it8_1).From), .int .i64 ((rd p0.List_ it8_1).Len), .int .i64 ((rd p0.List_ it8_1).Dev), .int .i64 ((rd p0.List_ it8_1).To), .int .i64 ((rd p0.List_ it8_1).Stale)], .pointer (some ⟨b2, 0, none⟩)] rfl ?_
     refine CW.seq ?_
     refine CW.lex [.X, .W] rfl ?_
     refine RW.box (cs := [.int .i64 ((rd p0.List_ it8_1).From), .int .i64 ((rd p0.List_ it8_1).Len), .int .i64 ((rd p0.List_ it8_1).Dev), .int .i64 ((rd p0.List_ it8_1).To), .int .i64 ((rd p0.List_ it8_1).Stale)]) (.inl rfl) ⟨rfl, rfl, rfl, rfl⟩ rfl rfl rfl ?_
     intro b3 w6 x3 l3 h7
     have sx3 := x3.size
     have ltb3 := h7.lt
     refine RW.pure tabOk 1 rfl ?_
     refine RW.done ?_
     refine NW.next ?_
     refine CW.seq ?_
     refine CW.ord [0, 0, 2, 7, 15, 31, 31, 95, 255, 511, 1023] (ofL [(1, .W), (0, .L), (2, .L), (3, .W), (4, .W), (5, .L), (6, .L), (7, .X), (8, .W), (9, .W), (10, .W)] .nil) mixed (by kernel_rfl) ?_
     intro w7 x4
     have sx4 := x4.size
     refine RW.pure tabOk 1 rfl ?_
     have h8 := (gb2_1.ext x3).ext x4
     refine RW.load tabOk [.int .i64 p1] (h8.at 0) ⟨rfl, rfl, rfl, rfl⟩ rfl rfl rfl rfl ?_
     have h9 := h7.ext x4
     refine RW.load tabOk [.int .i64 ((rd p0.List_ it8_1).From)] ((h9.at 0).take 1 rfl) ⟨rfl, rfl, rfl, rfl⟩ rfl rfl rfl rfl ?_
     refine RW.pure tabOk 2 rfl ?_
     by_cases c2 : ((rd p0.List_ it8_1).From) ≤ p1
     ·
      rw [if_pos c2] at H
      refine RW.bool 8 (b' := true) (decide_eq_true c2) rfl ?_
      refine RW.load tabOk [.int .i64 p1] (h8.at 0) ⟨rfl, rfl, rfl, rfl⟩ rfl rfl rfl rfl ?_
      refine RW.load tabOk [.int .i64 ((rd p0.List_ it8_1).From), .int .i64 ((rd p0.List_ it8_1).Len), .int .i64 ((rd p0.List_ it8_1).Dev), .int .i64 ((rd p0.List_ it8_1).To), .int .i64 ((rd p0.List_ it8_1).Stale)] (h9.at 0) ⟨rfl, rfl, rfl, rfl⟩ rfl rfl rfl rfl ?_
      obtain ⟨y1, h10, H⟩ := bind_some H
      refine RW.callF (.inl rfl) ent137 ⟨rfl, rfl, rfl, rfl⟩ rfl rfl (table_end.calls (rd p0.List_ it8_1) _ _ h10) ?_
      rintro _ w8 ⟨rfl, x5⟩
      refine ⟨_, rfl, x5, ?_⟩
      have sx5 := x5.size
      refine RW.pure tabOk 3 rfl ?_
      refine RW.done ?_
      refine NW.next ?_
      refine CW.ret ?_
      have h11 := ((gF1_1.ext x3).ext x4).ext x5
      have h12 := Ext.trans (Ext.trans (Ext.trans x0_1 x3) x4) x5
      have h13 := Ext.trans (Ext.trans (Ext.trans x_xc1_1 x3) x4) x5
      have h14 := h8.ext x5
      exact NW.ret1 rfl (by rfl) ⟨(decide (p1 < y1)), rfl, by omega, h11, h12, h13, h14, H⟩
     ·
      rw [if_neg c2] at H
      refine RW.bool 8 (b' := false) (decide_eq_false c2) rfl ?_
      refine RW.pure tabOk 6 rfl ?_
      refine RW.done ?_
      refine NW.next ?_
      refine CW.ret ?_
      have h15 := (gF1_1.ext x3).ext x4
      have h16 := Ext.trans (Ext.trans x0_1 x3) x4
      have h17 := Ext.trans (Ext.trans x_xc1_1 x3) x4
      exact NW.ret1 rfl (by rfl) ⟨false, rfl, by omega, h15, h16, h17, h8, H⟩
    rintro _ w5 ⟨bt16_2, rfl, hle, gF1_2, x0_2, x_xc1_2, gb2_2, H⟩
    refine ⟨_, rfl, ?_⟩
    unfold table_At.j1 at H
    refine RW.done ?_
    refine NW.next ?_
    by_cases c3 : bt16_2 = true
    ·
     rw [if_pos c3] at H
     refine CW.cond_t rfl (c3) ?_
     refine CW.seq ?_
     refine CW.lex [.W, .W] rfl ?_
     refine RW.pure tabOk 2 rfl ?_
     refine RW.done ?_
     refine NW.next ?_
     refine CW.ret ?_
     refine NW.ret_block (NW.ret_then (NW.ret_then (NW.ret_block (NW.ret_then ?_))))
     exact NW.ret1 rfl (by rfl) ⟨it8_1, rfl, by omega, x0_2, x_xc1_2, H⟩
    ·
     rw [if_neg c3] at H
     refine CW.cond_f rfl (bool_f c3) ?_
     refine CW.skip ?_
     refine NW.norm_block (NW.next ?_)
     refine CW.lex [.W, .W] rfl ?_
     refine RW.pure tabOk 2 rfl ?_
     refine RW.done ?_
     exact NW.J fun a ha => ⟨n1, Nat.lt_succ_self n1, (w64 (it8_1 + 1)), ha.sub ⟨rfl, rfl, rfl, rfl, trivial⟩, by omega, gF1_2, x0_2, x_xc1_2, gb2_2, H⟩
   ·
    rw [if_neg c1] at H
    refine CW.cond_f rfl (decide_eq_false c1) ?_
    refine CW.exit ?_
    refine NW.exit_then (NW.exit_then (NW.exit_hit ?_))
    refine NW.next ?_
    refine CW.seq ?_
    refine CW.lex [.W] rfl ?_
    refine RW.pure tabOk 1 rfl ?_
    refine RW.done ?_
    refine NW.next ?_
    refine CW.ret ?_
    exact NW.ret1 rfl (by rfl) ⟨(-1), rfl, by omega, x0_1, x_xc1_1, H⟩
 rintro _ w3 ⟨it8_0, rfl, hle, x0_0, x_xc1_0, H⟩
 refine ⟨_, rfl, x_xc1_0, ?_⟩
 unfold table_At.j0 at H
 refine RW.pure tabOk 1 rfl ?_
 refine RW.done ?_
 refine NW.next ?_
 refine CW.ret ?_
 obtain rfl := Option.some.inj H
 exact NW.ret1 rfl (by rfl) ⟨rfl, x0_0⟩

set_option maxHeartbeats 20000000 in
set_option maxRecDepth 100000 in
theorem table_Find.calls (k : Nat) (p0 : Table) (A1 : Option Addr) (c_1 : Nat) (p1 : Int) (r : Ptr × Bool) (w : World) (hs1 : Sl kEntry w.heap okAll A1 p0.List_) (hl1 : p0.List_.length ≤ c_1) (H : table_Find.f k p0 p1 = some r) :
    Calls Tryd.prog 134 #[.agg #[.int .i64 p0.Dev, .int .i64 p0.Size, .slice A1 p0.List_.length c_1], .int .i64 p1] w fun e w' => e = .returned (.tuple #[.agg #[.int .i64 r.1.Dev, .int .i64 r.1.At], .bool r.2]) ∧ Ext w w' := by
 have h1 : Sl kEntry w.heap (okL [(0, some w.heap.size, none)]) A1 p0.List_ := hs1.old _ rfl
 have x0 : Ext w w := Upd.refl _ w
 unfold table_Find.f at H
 refine calls_start Tryd.func134 rfl 29 rfl [.agg #[.int .i64 p0.Dev, .int .i64 p0.Size, .slice A1 p0.List_.length c_1], .int .i64 p1] rfl ?_
 refine CW.seq ?_
 refine CW.lex [.X, .X, .W] rfl ?_
 refine RW.box (cs := [.int .i64 p0.Dev, .int .i64 p0.Size, .slice A1 p0.List_.length c_1]) (.inl rfl) ⟨rfl, rfl, rfl, rfl⟩ rfl rfl rfl ?_
 intro b1 w1 x1 l1 h2
 have sx1 := x1.size
 have ltb1 := h2.lt
 refine RW.alloc tabOk (.inl rfl) ⟨rfl, rfl, rfl, rfl⟩ rfl rfl ?_
 intro b2 w2 x2 l2 h3
 have sx2 := x2.size
 have ltb2 := h3.lt
 refine RW.pure tabOk 1 rfl ?_
 refine RW.done ?_
 refine NW.next ?_
 refine CW.seq ?_
 refine CW.lex [.L, .W, .X, .W] rfl ?_
 have h4 := h2.ext x2
 refine RW.load tabOk [.int .i64 p0.Dev, .int .i64 p0.Size, .slice A1 p0.List_.length c_1] (h4.at 0) ⟨rfl, rfl, rfl, rfl⟩ rfl rfl rfl rfl ?_
 refine RW.pure tabOk 1 rfl ?_
 have h5 := (h1.ext x1).ext x2
 obtain ⟨y1, h6, H⟩ := bind_some H
 refine RW.callF (.inl rfl) ent132 ⟨rfl, rfl, rfl, rfl⟩ rfl rfl (table_At.calls k p0 A1 c_1 p1 _ _ h5.all hl1 h6) ?_
 rintro _ w3 ⟨rfl, x3⟩
 refine ⟨_, rfl, x3, ?_⟩
 have sx3 := x3.size
 refine RW.pure tabOk 1 rfl ?_
 refine RW.done ?_
 refine NW.next ?_
 refine CW.seq ?_
 refine CW.seq ?_
 refine CW.lex [.W, .W] rfl ?_
 refine RW.pure tabOk 2 rfl ?_
 refine RW.done ?_
 refine NW.next ?_
 by_cases c1 : y1 < 0
 ·
  rw [if_pos c1] at H
  refine CW.cond_t rfl (decide_eq_true c1) ?_
  refine CW.seq ?_
  refine CW.lex [.W, .M, .W] rfl ?_
  refine RW.pure tabOk 1 rfl ?_
  have h7 := h3.ext x3
  refine RW.storeBox tabOk h7 [.int .i64 0, .int .i64 0] ⟨rfl, rfl, rfl⟩ rfl rfl rfl rfl rfl rfl rfl rfl ?_
  intro w4 x4 h8
  have h9 : Box w4.heap b2 70 [.int .i64 0, .int .i64 0] := h8
  have sx4 := x4.size
  refine RW.pure tabOk 1 rfl ?_
  refine RW.done ?_
  refine NW.next ?_
  refine CW.ret ?_
  refine NW.ret_then ?_
  obtain rfl := Option.some.inj H
  have h10 := Ext.turnB (Ext.trans (Ext.trans (Ext.trans x0 x1) x2) x3) x4 (by omega)
  exact NW.ret2 rfl (resOne_cell tabOk (h9.at 0) rfl rfl rfl) (by rfl) ⟨rfl, h10⟩
 ·
  rw [if_neg c1] at H
  refine CW.cond_f rfl (decide_eq_false c1) ?_
  refine CW.skip ?_
  refine NW.next ?_
  refine CW.seq ?_
  refine CW.lex [.W, .L, .W, .W, .L, .X, .M] rfl ?_
  refine RW.pure tabOk 1 rfl ?_
  have h11 := h4.ext x3
  refine RW.load tabOk [.slice A1 p0.List_.length c_1] (h11.at 2) ⟨rfl, rfl, rfl, rfl⟩ rfl rfl rfl rfl ?_
  refine RW.pure tabOk 1 rfl ?_
  obtain ⟨g1, H⟩ := guard_some H
  have h12 := h5.ext x3
  obtain ⟨ad1, e1, a1⟩ := kEntry_at h12 g1.1 g1.2
  refine RW.index tabOk g1.1 g1.2 e1 ⟨rfl, rfl, rfl, rfl⟩ rfl rfl rfl rfl rfl rfl ?_
  refine RW.load tabOk [.int .i64 ((rd p0.List_ y1).From), .int .i64 ((rd p0.List_ y1).Len), .int .i64 ((rd p0.List_ y1).Dev), .int .i64 ((rd p0.List_ y1).To), .int .i64 ((rd p0.List_ y1).Stale)] a1 ⟨rfl, rfl, rfl, rfl⟩ rfl rfl rfl rfl ?_
  refine RW.alloc tabOk (.inl rfl) ⟨rfl, rfl, rfl, rfl⟩ rfl rfl ?_
  intro b3 w5 x5 l3 h13
  have sx5 := x5.size
  have ltb3 := h13.lt
  refine RW.storeBox tabOk h13 [.int .i64 ((rd p0.List_ y1).From), .int .i64 ((rd p0.List_ y1).Len), .int .i64 ((rd p0.List_ y1).Dev), .int .i64 ((rd p0.List_ y1).To), .int .i64 ((rd p0.List_ y1).Stale)] ⟨rfl, rfl, rfl⟩ rfl rfl rfl rfl rfl rfl rfl rfl ?_
  intro w6 x6 h14
  have h15 : Box w6.heap b3 86 [.int .i64 ((rd p0.List_ y1).From), .int .i64 ((rd p0.List_ y1).Len), .int .i64 ((rd p0.List_ y1).Dev), .int .i64 ((rd p0.List_ y1).To), .int .i64 ((rd p0.List_ y1).Stale)] := h14
  have sx6 := x6.size
  refine RW.done ?_
  refine NW.next ?_
  refine CW.seq ?_
  refine CW.lex [.W, .L, .W, .L, .W, .W, .W, .L, .W, .W, .M, .W] rfl ?_
  refine RW.pure tabOk 1 rfl ?_
  refine RW.load tabOk [.int .i64 ((rd p0.List_ y1).Dev)] ((h15.at 2).take 1 rfl) ⟨rfl, rfl, rfl, rfl⟩ rfl rfl rfl rfl ?_
  refine RW.pure tabOk 1 rfl ?_
  refine RW.load tabOk [.int .i64 ((rd p0.List_ y1).To)] ((h15.at 3).take 1 rfl) ⟨rfl, rfl, rfl, rfl⟩ rfl rfl rfl rfl ?_
  refine RW.pure tabOk 3 rfl ?_
  refine RW.load tabOk [.int .i64 ((rd p0.List_ y1).From)] ((h15.at 0).take 1 rfl) ⟨rfl, rfl, rfl, rfl⟩ rfl rfl rfl rfl ?_
  refine RW.pure tabOk 2 rfl ?_
  have h16 := ((h3.ext x3).ext x5).turnB x6 (by omega)
  refine RW.storeBox tabOk h16 [.int .i64 ((rd p0.List_ y1).Dev), .int .i64 (w64 ((w64 (((rd p0.List_ y1).To) + p1)) - ((rd p0.List_ y1).From)))] ⟨rfl, rfl, rfl⟩ rfl rfl rfl rfl rfl rfl rfl rfl ?_
  intro w7 x7 h17
  have h18 : Box w7.heap b2 70 [.int .i64 ((rd p0.List_ y1).Dev), .int .i64 (w64 ((w64 (((rd p0.List_ y1).To) + p1)) - ((rd p0.List_ y1).From)))] := h17
  have sx7 := x7.size
  refine RW.pure tabOk 1 rfl ?_
  refine RW.done ?_
  refine NW.next ?_
  refine CW.ret ?_
  obtain rfl := Option.some.inj H
  have h19 := Ext.turnB (Ext.turnB (Ext.trans (Ext.trans (Ext.trans (Ext.trans x0 x1) x2) x3) x5) x6 (by omega)) x7 (by omega)
  exact NW.ret2 rfl (resOne_cell tabOk (h18.at 0) rfl rfl rfl) (by rfl) ⟨rfl, h19⟩

end Go.Proofs.YtnaajldlloglkaaDoor.W
