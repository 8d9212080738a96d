/- Walks; printed by a program of the claim. -/
import Derived.Test.YtnaajldlloglkaaDoorSegW
set_option linter.unusedVariables false
set_option linter.unusedSimpArgs false
namespace Go.Proofs.YtnaajldlloglkaaDoor.W
open Go.H Go.Proofs
set_option maxHeartbeats 4000000 in
set_option maxRecDepth 100000 in
theorem hermitagelaw1_Heavy.calls (k : Nat) (p0 : hermitagelaw1Ask) (A1 : Option Addr) (c_1 : Nat) (A2 : Option Addr) (c_2 : Nat) (r : Bool) (w : World) (hs1 : Sl (Kd.sl kSeg) w.heap okAll A1 p0.L) (hl1 : p0.L.length ≤ c_1) (hs2 : Sl (Kd.int .i64) w.heap okAll A2 p0.N) (hl2 : p0.N.length ≤ c_2) (H : hermitagelaw1_Heavy.f k p0 = some r) :
    Calls Tryd.prog 11 #[.agg #[.slice A1 p0.L.length c_1, .slice A2 p0.N.length c_2]] w fun e w' => e = .returned (.bool r) ∧ Ext w w' := by
  have h1 : Sl (Kd.sl kSeg) w.heap (okL [(0, some w.heap.size, none)]) A1 p0.L := hs1.old _ rfl
  have h2 : Sl (Kd.int .i64) w.heap (okL [(0, some w.heap.size, none)]) A2 p0.N := hs2.old _ rfl
  have x0 : Ext w w := Upd.refl _ w
  unfold hermitagelaw1_Heavy.f at H
  refine calls_start Tryd.func11 rfl 33 rfl [.agg #[.slice A1 p0.L.length c_1, .slice A2 p0.N.length c_2]] rfl ?_
  refine CW.seq ?_
  refine CW.lex [.X, .W] rfl ?_
  refine RW.box (cs := [.slice A1 p0.L.length c_1, .slice A2 p0.N.length c_2]) (.inl rfl) ⟨rfl, rfl, rfl, rfl⟩ rfl rfl rfl ?_
  intro b1 w1 x1 l1 h3
  have sx1 := x1.size
  have ltb1 := h3.lt
  refine RW.pure tabOk 1 rfl ?_
  refine RW.done ?_
  refine NW.next ?_
  refine CW.seq ?_
  refine CW.lex [.W, .L, .W, .W, .L, .W, .W, .W] rfl ?_
  refine RW.pure tabOk 1 rfl ?_
  refine RW.load tabOk [.slice A1 p0.L.length c_1] ((h3.at 0).take 1 rfl) ⟨rfl, rfl, rfl, rfl⟩ rfl rfl rfl rfl ?_
  refine RW.pure tabOk 2 rfl ?_
  refine RW.load tabOk [.slice A2 p0.N.length c_2] (h3.at 1) ⟨rfl, rfl, rfl, rfl⟩ rfl rfl rfl rfl ?_
  refine RW.pure tabOk 3 rfl ?_
  refine RW.done ?_
  refine NW.next ?_
  refine CW.seq ?_
  refine CW.seq ?_
  refine CW.lex [.W] rfl ?_
  refine RW.pure tabOk 1 rfl ?_
  refine RW.done ?_
  refine NW.next ?_
  refine CW.block ?_
  refine CW.loop (fun n1 a w2 => ∃ (it3_0 : Int) (it4_0 : Int), Sat 33 [(1, .pointer (some ⟨b1, 0, none⟩)), (3, .int .i64 it3_0), (4, .int .i64 it4_0)] a ∧ w1.heap.size ≤ w2.heap.size ∧ Sl (Kd.sl kSeg) w2.heap (okL [(0, some w.heap.size, none)]) A1 p0.L ∧ Sl (Kd.int .i64) w2.heap (okL [(0, some w.heap.size, none)]) A2 p0.N ∧ Ext w w2 ∧ Box w2.heap b1 25 [.slice A1 p0.L.length c_1, .slice A2 p0.N.length c_2] ∧ hermitagelaw1_Heavy.l0 p0 n1 it3_0 it4_0 = some r) k ?_ ?_
  have h4 := h1.ext x1
  have h5 := h2.ext x1
  have h6 := Ext.trans x0 x1
  · exact fun a ha => ⟨(w64 ((p0.L.length : Int) + (p0.N.length : Int))), 0, ha.sub ⟨rfl, rfl, rfl, trivial⟩, by omega, h4, h5, h6, h3, H⟩
  intro n1 a w2 hI hp
  obtain ⟨it3_0, it4_0, hS, hle, gF1_0, gF2_0, x0_0, gb1_0, H⟩ := hI
  cases n1 with
  | zero => cases H
  | succ n1 =>
    rw [hermitagelaw1_Heavy.l0] at H
    refine CW.go hp hS ?_
    refine CW.seq ?_
    refine CW.seqJ (fun a w3 => ∃ (bt20_1 : Bool), Sat 33 [(1, .pointer (some ⟨b1, 0, none⟩)), (3, .int .i64 it3_0), (4, .int .i64 it4_0), (20, .bool bt20_1)] a ∧ w2.heap.size ≤ w3.heap.size ∧ Sl (Kd.sl kSeg) w3.heap (okL [(0, some w.heap.size, none)]) A1 p0.L ∧ Sl (Kd.int .i64) w3.heap (okL [(0, some w.heap.size, none)]) A2 p0.N ∧ Ext w w3 ∧ Box w3.heap b1 25 [.slice A1 p0.L.length c_1, .slice A2 p0.N.length c_2] ∧ hermitagelaw1_Heavy.j0 p0 it3_0 it4_0 (hermitagelaw1_Heavy.l0 p0 n1) bt20_1 = some r) ?_ ?_
    ·
      refine CW.lex [.W, .W, .L, .W, .W, .W, .W, .W, .W] rfl ?_
      refine RW.pure tabOk 2 rfl ?_
      refine RW.load tabOk [.slice A1 p0.L.length c_1] ((gb1_0.at 0).take 1 rfl) ⟨rfl, rfl, rfl, rfl⟩ rfl rfl rfl rfl ?_
      refine RW.pure tabOk 3 rfl ?_
      by_cases c1 : it4_0 < (p0.L.length : Int)
      · rw [if_pos c1] at H
        refine RW.bool 17 (b' := true) (decide_eq_true c1) rfl ?_
        refine RW.pure tabOk 3 rfl ?_
        refine RW.done ?_
        exact NW.J fun a ha => ⟨(decide (it3_0 < 1048576)), ha.sub ⟨rfl, rfl, rfl, rfl, trivial⟩, by omega, gF1_0, gF2_0, x0_0, gb1_0, H⟩
      · rw [if_neg c1] at H
        refine RW.bool 17 (b' := false) (decide_eq_false c1) rfl ?_
        refine RW.pure tabOk 3 rfl ?_
        refine RW.done ?_
        exact NW.J fun a ha => ⟨false, ha.sub ⟨rfl, rfl, rfl, rfl, trivial⟩, by omega, gF1_0, gF2_0, x0_0, gb1_0, H⟩
    intro a w3 hJ hp
    obtain ⟨bt20_1, hS, hle, gF1_1, gF2_1, x0_1, gb1_1, H⟩ := hJ
    unfold hermitagelaw1_Heavy.j0 at H
    refine CW.go hp hS ?_
    by_cases c2 : bt20_1 = true
    · rw [if_pos c2] at H
      refine CW.cond_t rfl (c2) ?_
      refine CW.skip ?_
      refine NW.next ?_
      refine CW.seq ?_
      refine CW.block ?_
      refine CW.lex [.W, .W, .L, .W, .W, .L, .W, .W, .W] rfl ?_
      refine RW.pure tabOk 2 rfl ?_
      refine RW.load tabOk [.slice A1 p0.L.length c_1] ((gb1_1.at 0).take 1 rfl) ⟨rfl, rfl, rfl, rfl⟩ rfl rfl rfl rfl ?_
      refine RW.pure tabOk 1 rfl ?_
      obtain ⟨g1, H⟩ := guard_some H
      obtain ⟨ad1, A3, c_3, e1, a1, l2, h7⟩ := sl_at gF1_1 g1.1 g1.2
      refine RW.index tabOk g1.1 g1.2 e1 ⟨rfl, rfl, rfl, rfl⟩ rfl rfl rfl rfl rfl rfl ?_
      refine RW.load tabOk [.slice A3 (rd p0.L it4_0).length c_3] a1 ⟨rfl, rfl, rfl, rfl⟩ rfl rfl rfl rfl ?_
      refine RW.pure tabOk 3 rfl ?_
      refine RW.done ?_
      refine NW.norm_block (NW.next ?_)
      refine CW.lex [.W, .W, .W] rfl ?_
      refine RW.pure tabOk 3 rfl ?_
      refine RW.done ?_
      exact NW.J fun a ha => ⟨n1, Nat.lt_succ_self n1, (w64 (it3_0 + ((rd p0.L it4_0).length : Int))), (w64 (it4_0 + 1)), ha.sub ⟨rfl, rfl, rfl, trivial⟩, by omega, gF1_1, gF2_1, x0_1, gb1_1, H⟩
    · rw [if_neg c2] at H
      refine CW.cond_f rfl (bool_f c2) ?_
      refine CW.exit ?_
      refine NW.exit_then (NW.exit_then (NW.exit_hit ?_))
      refine NW.next ?_
      refine CW.seq ?_
      refine CW.lex [.W, .W, .W] rfl ?_
      refine RW.pure tabOk 3 rfl ?_
      refine RW.done ?_
      refine NW.next ?_
      refine CW.ret ?_
      obtain rfl := Option.some.inj H
      exact NW.ret1 rfl (by rfl) ⟨rfl, x0_1⟩

set_option maxHeartbeats 4000000 in
set_option maxRecDepth 100000 in
theorem hermitageref1_Segs.calls (k : Nat) (A1 : Option Addr) (c_1 : Nat) (p0 : List Seg) (r : Bool) (w : World) (hs1 : Sl kSeg w.heap okAll A1 p0) (hl1 : p0.length ≤ c_1) (H : hermitageref1_Segs.f k p0 = some r) :
    Calls Tryd.prog 12 #[.slice A1 p0.length c_1] w fun e w' => e = .returned (.bool r) ∧ Ext w w' := by
  have h1 : Sl kSeg w.heap (okL [(0, some w.heap.size, none)]) A1 p0 := hs1.old _ rfl
  have x0 : Ext w w := Upd.refl _ w
  unfold hermitageref1_Segs.f at H
  refine calls_start Tryd.func12 rfl 71 rfl [.slice A1 p0.length c_1] rfl ?_
  refine CW.seq ?_
  refine CW.lex [.W] rfl ?_
  refine RW.pure tabOk 1 rfl ?_
  refine RW.done ?_
  refine NW.next ?_
  refine CW.seq ?_
  refine CW.seq ?_
  refine CW.lex [.W] rfl ?_
  refine RW.pure tabOk 1 rfl ?_
  refine RW.done ?_
  refine NW.next ?_
  refine CW.block ?_
  refine CW.loop (fun n1 a w1 => ∃ (it3_0 : Int), Sat 71 [(0, .slice A1 p0.length c_1), (3, .int .i64 it3_0)] a ∧ w.heap.size ≤ w1.heap.size ∧ Sl kSeg w1.heap (okL [(0, some w.heap.size, none)]) A1 p0 ∧ Ext w w1 ∧ hermitageref1_Segs.l0 p0 n1 it3_0 = some r) k ?_ ?_
  · exact fun a ha => ⟨0, ha.sub ⟨rfl, rfl, trivial⟩, by omega, h1, x0, H⟩
  intro n1 a w1 hI hp
  obtain ⟨it3_0, hS, hle, gF1_0, x0_0, H⟩ := hI
  cases n1 with
  | zero => cases H
  | succ n1 =>
    rw [hermitageref1_Segs.l0] at H
    refine CW.go hp hS ?_
    refine CW.seq ?_
    refine CW.seq ?_
    refine CW.lex [.W, .W, .W, .W] rfl ?_
    refine RW.pure tabOk 4 rfl ?_
    refine RW.done ?_
    refine NW.next ?_
    by_cases c1 : it3_0 < (p0.length : Int)
    · rw [if_pos c1] at H
      refine CW.cond_t rfl (decide_eq_true c1) ?_
      refine CW.skip ?_
      refine NW.next ?_
      refine CW.seq ?_
      refine CW.block ?_
      refine CW.seqJ (fun a w2 => ∃ (bt70_1 : Bool), Sat 71 [(0, .slice A1 p0.length c_1), (3, .int .i64 it3_0), (70, .bool bt70_1)] a ∧ w1.heap.size ≤ w2.heap.size ∧ Sl kSeg w2.heap (okL [(0, some w.heap.size, none)]) A1 p0 ∧ Ext w w2 ∧ hermitageref1_Segs.j0 it3_0 (hermitageref1_Segs.l0 p0 n1) bt70_1 = some r) ?_ ?_
      ·
        refine CW.ord [0, 0, 3, 7, 15, 31, 63, 127, 127, 511, 1023, 2047, 4095, 8191, 16383, 32767, 32767, 131071, 262143, 524287, 1048575, 2097151, 4194303, 8388607, 8388607, 33554431, 67108863, 134217727, 8388607, 8388607, 813694975, 1887436799, 4034920447, 8329887743, 17179869183, 34359738367, 68719476735, 137438953471, 274877906943, 549755813887, 1099511627775, 1099511627775, 3298534883327, 8796093022207, 17592186044415, 35184372088831, 1099511627775, 1099511627775, 141836999983103, 493680720871423, 1056630674292735, 2182530581135359, 4503599627370495, 1099511627775, 1099511627775, 27022697275850751, 63051494294814719, 135109088332742655, 288230376151711743, 576460752303423487, 1152921504606846975] [(0, .W), (1, .W), (2, .W), (3, .W), (4, .L), (5, .W), (6, .W), (7, .W), (8, .W), (9, .W), (10, .W), (11, .L), (12, .W), (13, .W), (14, .W), (15, .W), (16, .W), (17, .W), (18, .W), (19, .L), (20, .W), (21, .W), (22, .W), (23, .W), (24, .W), (25, .W), (26, .W), (28, .W), (29, .W), (30, .W), (31, .W), (27, .L), (32, .L), (33, .W), (34, .W), (35, .W), (36, .W), (37, .W), (38, .W), (39, .W), (40, .W), (41, .W), (42, .W), (43, .W), (44, .W), (46, .W), (47, .W), (48, .W), (49, .W), (50, .W), (53, .W), (54, .W), (55, .W), (56, .W), (45, .L), (51, .L), (52, .W), (57, .L), (58, .W), (59, .W), (60, .W)] mixed (by kernel_rfl) ?_
        intro w3 x1
        have sx1 := x1.size
        refine RW.pure tabOk 2 rfl ?_
        obtain ⟨g1, H⟩ := guard_some H
        have h2 := gF1_0.ext x1
        obtain ⟨ad1, e1, a1⟩ := kSeg_at h2 g1.1 g1.2
        refine RW.index tabOk g1.1 g1.2 e1 ⟨rfl, rfl, rfl, rfl⟩ rfl rfl rfl rfl rfl rfl ?_
        refine RW.pure tabOk 1 rfl ?_
        refine RW.load tabOk [.int .i64 ((rd p0 it3_0).At)] ((a1.fld 0).take 1 rfl) ⟨rfl, rfl, rfl, rfl⟩ rfl rfl rfl rfl ?_
        refine RW.pure tabOk 2 rfl ?_
        by_cases c2 : ((rd p0 it3_0).At) < 0
        · rw [if_pos c2] at H
          refine RW.bool 16 (b' := true) (decide_eq_true c2) rfl ?_
          refine RW.pure tabOk 54 rfl ?_
          refine RW.done ?_
          have h3 := Ext.trans x0_0 x1
          exact NW.J fun a ha => ⟨true, ha.sub ⟨rfl, rfl, rfl, trivial⟩, by omega, h2, h3, H⟩
        · rw [if_neg c2] at H
          refine RW.bool 16 (b' := false) (decide_eq_false c2) rfl ?_
          refine RW.pure tabOk 2 rfl ?_
          obtain ⟨g2, H⟩ := guard_some H
          obtain ⟨ad2, e2, a2⟩ := kSeg_at h2 g2.1 g2.2
          refine RW.index tabOk g2.1 g2.2 e2 ⟨rfl, rfl, rfl, rfl⟩ rfl rfl rfl rfl rfl rfl ?_
          refine RW.pure tabOk 1 rfl ?_
          refine RW.load tabOk [.int .i64 ((rd p0 it3_0).Len)] (a2.fld 1) ⟨rfl, rfl, rfl, rfl⟩ rfl rfl rfl rfl ?_
          refine RW.pure tabOk 3 rfl ?_
          by_cases c3 : ((rd p0 it3_0).Len) < 1
          · rw [if_pos c3] at H
            refine RW.bool 24 (b' := true) (decide_eq_true c3) rfl ?_
            refine RW.pure tabOk 46 rfl ?_
            refine RW.done ?_
            have h4 := Ext.trans x0_0 x1
            exact NW.J fun a ha => ⟨true, ha.sub ⟨rfl, rfl, rfl, trivial⟩, by omega, h2, h4, H⟩
          · rw [if_neg c3] at H
            refine RW.bool 24 (b' := false) (decide_eq_false c3) rfl ?_
            refine RW.pure tabOk 2 rfl ?_
            obtain ⟨g3, H⟩ := guard_some H
            obtain ⟨ad3, e3, a3⟩ := kSeg_at h2 g3.1 g3.2
            refine RW.index tabOk g3.1 g3.2 e3 ⟨rfl, rfl, rfl, rfl⟩ rfl rfl rfl rfl rfl rfl ?_
            refine RW.pure tabOk 1 rfl ?_
            refine RW.load tabOk [.int .i64 ((rd p0 it3_0).At)] ((a3.fld 0).take 1 rfl) ⟨rfl, rfl, rfl, rfl⟩ rfl rfl rfl rfl ?_
            refine RW.pure tabOk 3 rfl ?_
            by_cases c4 : 64 < ((rd p0 it3_0).At)
            · rw [if_pos c4] at H
              refine RW.bool 32 (b' := true) (decide_eq_true c4) rfl ?_
              refine RW.pure tabOk 38 rfl ?_
              refine RW.done ?_
              have h5 := Ext.trans x0_0 x1
              exact NW.J fun a ha => ⟨true, ha.sub ⟨rfl, rfl, rfl, trivial⟩, by omega, h2, h5, H⟩
            · rw [if_neg c4] at H
              refine RW.bool 32 (b' := false) (decide_eq_false c4) rfl ?_
              refine RW.pure tabOk 2 rfl ?_
              obtain ⟨g4, H⟩ := guard_some H
              obtain ⟨ad4, e4, a4⟩ := kSeg_at h2 g4.1 g4.2
              refine RW.index tabOk g4.1 g4.2 e4 ⟨rfl, rfl, rfl, rfl⟩ rfl rfl rfl rfl rfl rfl ?_
              refine RW.pure tabOk 3 rfl ?_
              obtain ⟨g5, H⟩ := guard_some H
              obtain ⟨ad5, e5, a5⟩ := kSeg_at h2 g5.1 g5.2
              refine RW.index tabOk g5.1 g5.2 e5 ⟨rfl, rfl, rfl, rfl⟩ rfl rfl rfl rfl rfl rfl ?_
              refine RW.pure tabOk 1 rfl ?_
              refine RW.load tabOk [.int .i64 ((rd p0 it3_0).Len)] (a4.fld 1) ⟨rfl, rfl, rfl, rfl⟩ rfl rfl rfl rfl ?_
              refine RW.load tabOk [.int .i64 ((rd p0 it3_0).At)] ((a5.fld 0).take 1 rfl) ⟨rfl, rfl, rfl, rfl⟩ rfl rfl rfl rfl ?_
              refine RW.pure tabOk 4 rfl ?_
              by_cases c5 : (w64 (64 - ((rd p0 it3_0).At))) < ((rd p0 it3_0).Len)
              · rw [if_pos c5] at H
                refine RW.bool 46 (b' := true) (decide_eq_true c5) rfl ?_
                refine RW.pure tabOk 24 rfl ?_
                refine RW.done ?_
                have h6 := Ext.trans x0_0 x1
                exact NW.J fun a ha => ⟨true, ha.sub ⟨rfl, rfl, rfl, trivial⟩, by omega, h2, h6, H⟩
              · rw [if_neg c5] at H
                refine RW.bool 46 (b' := false) (decide_eq_false c5) rfl ?_
                refine RW.pure tabOk 3 rfl ?_
                by_cases c6 : 0 < it3_0
                · rw [if_pos c6] at H
                  refine RW.bool 49 (b' := true) (decide_eq_true c6) rfl ?_
                  refine RW.pure tabOk 3 rfl ?_
                  obtain ⟨g6, H⟩ := guard_some H
                  obtain ⟨ad6, e6, a6⟩ := kSeg_at h2 g6.1 g6.2
                  refine RW.index tabOk g6.1 g6.2 e6 ⟨rfl, rfl, rfl, rfl⟩ rfl rfl rfl rfl rfl rfl ?_
                  refine RW.pure tabOk 4 rfl ?_
                  obtain ⟨g7, H⟩ := guard_some H
                  obtain ⟨ad7, e7, a7⟩ := kSeg_at h2 g7.1 g7.2
                  refine RW.index tabOk g7.1 g7.2 e7 ⟨rfl, rfl, rfl, rfl⟩ rfl rfl rfl rfl rfl rfl ?_
                  refine RW.pure tabOk 3 rfl ?_
                  obtain ⟨g8, H⟩ := guard_some H
                  obtain ⟨ad8, e8, a8⟩ := kSeg_at h2 g8.1 g8.2
                  refine RW.index tabOk g8.1 g8.2 e8 ⟨rfl, rfl, rfl, rfl⟩ rfl rfl rfl rfl rfl rfl ?_
                  refine RW.pure tabOk 1 rfl ?_
                  refine RW.load tabOk [.int .i64 ((rd p0 (w64 (it3_0 - 1))).At)] ((a6.fld 0).take 1 rfl) ⟨rfl, rfl, rfl, rfl⟩ rfl rfl rfl rfl ?_
                  refine RW.load tabOk [.int .i64 ((rd p0 (w64 (it3_0 - 1))).Len)] (a7.fld 1) ⟨rfl, rfl, rfl, rfl⟩ rfl rfl rfl rfl ?_
                  refine RW.pure tabOk 1 rfl ?_
                  refine RW.load tabOk [.int .i64 ((rd p0 it3_0).At)] ((a8.fld 0).take 1 rfl) ⟨rfl, rfl, rfl, rfl⟩ rfl rfl rfl rfl ?_
                  refine RW.pure tabOk 3 rfl ?_
                  refine RW.done ?_
                  have h7 := Ext.trans x0_0 x1
                  exact NW.J fun a ha => ⟨(decide (((rd p0 it3_0).At) ≤ (w64 (((rd p0 (w64 (it3_0 - 1))).At) + ((rd p0 (w64 (it3_0 - 1))).Len))))), ha.sub ⟨rfl, rfl, rfl, trivial⟩, by omega, h2, h7, H⟩
                · rw [if_neg c6] at H
                  refine RW.bool 49 (b' := false) (decide_eq_false c6) rfl ?_
                  refine RW.pure tabOk 21 rfl ?_
                  refine RW.done ?_
                  have h8 := Ext.trans x0_0 x1
                  exact NW.J fun a ha => ⟨false, ha.sub ⟨rfl, rfl, rfl, trivial⟩, by omega, h2, h8, H⟩
      intro a w2 hJ hp
      obtain ⟨bt70_1, hS, hle, gF1_1, x0_1, H⟩ := hJ
      unfold hermitageref1_Segs.j0 at H
      refine CW.go hp hS ?_
      by_cases c7 : bt70_1 = true
      · rw [if_pos c7] at H
        refine CW.cond_t rfl (c7) ?_
        refine CW.seq ?_
        refine CW.lex [.W] rfl ?_
        refine RW.pure tabOk 1 rfl ?_
        refine RW.done ?_
        refine NW.next ?_
        refine CW.ret ?_
        refine NW.ret_block (NW.ret_then (NW.ret_then (NW.ret_block (NW.ret_then ?_))))
        obtain rfl := Option.some.inj H
        exact NW.ret1 rfl (by rfl) ⟨rfl, x0_1⟩
      · rw [if_neg c7] at H
        refine CW.cond_f rfl (bool_f c7) ?_
        refine CW.skip ?_
        refine NW.norm_block (NW.next ?_)
        refine CW.lex [.W, .W, .W] rfl ?_
        refine RW.pure tabOk 3 rfl ?_
        refine RW.done ?_
        exact NW.J fun a ha => ⟨n1, Nat.lt_succ_self n1, (w64 (it3_0 + 1)), ha.sub ⟨rfl, rfl, trivial⟩, by omega, gF1_1, x0_1, H⟩
    · rw [if_neg c1] at H
      refine CW.cond_f rfl (decide_eq_false c1) ?_
      refine CW.exit ?_
      refine NW.exit_then (NW.exit_then (NW.exit_hit ?_))
      refine NW.next ?_
      refine CW.seq ?_
      refine CW.lex [.W] rfl ?_
      refine RW.pure tabOk 1 rfl ?_
      refine RW.done ?_
      refine NW.next ?_
      refine CW.ret ?_
      obtain rfl := Option.some.inj H
      exact NW.ret1 rfl (by rfl) ⟨rfl, x0_0⟩

set_option maxHeartbeats 4000000 in
set_option maxRecDepth 100000 in
theorem seg_May.calls (k : Nat) (A1 : Option Addr) (c_1 : Nat) (p0 : List Seg) (r : Bool) (w : World) (hs1 : Sl kSeg w.heap okAll A1 p0) (hl1 : p0.length ≤ c_1) (H : seg_May.f k p0 = some r) :
    Calls Tryd.prog 51 #[.slice A1 p0.length c_1] w fun e w' => e = .returned (.bool r) ∧ Ext w w' := by
  have h1 : Sl kSeg w.heap (okL [(0, some w.heap.size, none)]) A1 p0 := hs1.old _ rfl
  have x0 : Ext w w := Upd.refl _ w
  unfold seg_May.f at H
  refine calls_start Tryd.func51 rfl 56 rfl [.slice A1 p0.length c_1] rfl ?_
  refine CW.seq ?_
  refine CW.lex [.W] rfl ?_
  refine RW.pure tabOk 1 rfl ?_
  refine RW.done ?_
  refine NW.next ?_
  refine CW.seq ?_
  refine CW.seq ?_
  refine CW.lex [.W, .W, .W] rfl ?_
  refine RW.pure tabOk 3 rfl ?_
  refine RW.done ?_
  refine NW.next ?_
  refine CW.block ?_
  refine CW.loop (fun n1 a w1 => ∃ (it7_0 : Int), Sat 56 [(0, .slice A1 p0.length c_1), (5, .slice A1 p0.length c_1), (6, .int .i64 (p0.length : Int)), (7, .int .i64 it7_0)] a ∧ w.heap.size ≤ w1.heap.size ∧ Sl kSeg w1.heap (okL [(0, some w.heap.size, none)]) A1 p0 ∧ Ext w w1 ∧ seg_May.l0 p0 n1 it7_0 = some r) k ?_ ?_
  · exact fun a ha => ⟨0, ha.sub ⟨rfl, rfl, rfl, rfl, trivial⟩, by omega, h1, x0, H⟩
  intro n1 a w1 hI hp
  obtain ⟨it7_0, hS, hle, gF1_0, x0_0, H⟩ := hI
  cases n1 with
  | zero => cases H
  | succ n1 =>
    rw [seg_May.l0] at H
    refine CW.go hp hS ?_
    refine CW.seq ?_
    refine CW.lex [.W] rfl ?_
    refine RW.pure tabOk 1 rfl ?_
    refine RW.done ?_
    refine NW.next ?_
    refine CW.seq ?_
    by_cases c1 : it7_0 < (p0.length : Int)
    · rw [if_pos c1] at H
      refine CW.cond_t rfl (decide_eq_true c1) ?_
      refine CW.skip ?_
      refine NW.next ?_
      refine CW.seq ?_
      refine CW.block ?_
      refine CW.seq ?_
      refine CW.lex [.W, .W, .L, .X, .W, .M] rfl ?_
      refine RW.pure tabOk 1 rfl ?_
      obtain ⟨g1, H⟩ := guard_some H
      obtain ⟨ad1, e1, a1⟩ := kSeg_at gF1_0 g1.1 g1.2
      refine RW.index tabOk g1.1 g1.2 e1 ⟨rfl, rfl, rfl, rfl⟩ rfl rfl rfl rfl rfl rfl ?_
      refine RW.load tabOk [.int .i64 ((rd p0 it7_0).At), .int .i64 ((rd p0 it7_0).Len)] a1 ⟨rfl, rfl, rfl, rfl⟩ rfl rfl rfl rfl ?_
      refine RW.alloc tabOk (.inl rfl) ⟨rfl, rfl, rfl, rfl⟩ rfl rfl ?_
      intro b1 w2 x1 l1 h2
      have sx1 := x1.size
      have ltb1 := h2.lt
      refine RW.pure tabOk 1 rfl ?_
      refine RW.storeBox tabOk h2 [.int .i64 ((rd p0 it7_0).At), .int .i64 ((rd p0 it7_0).Len)] ⟨rfl, rfl, rfl⟩ rfl rfl rfl rfl rfl rfl rfl rfl ?_
      intro w3 x2 h3
      have h4 : Box w3.heap b1 93 [.int .i64 ((rd p0 it7_0).At), .int .i64 ((rd p0 it7_0).Len)] := h3
      have sx2 := x2.size
      refine RW.done ?_
      refine NW.next ?_
      refine CW.seqJ (fun a w4 => ∃ (bt54_1 : Bool), Sat 56 [(0, .slice A1 p0.length c_1), (5, .slice A1 p0.length c_1), (6, .int .i64 (p0.length : Int)), (7, .int .i64 it7_0), (54, .bool bt54_1)] a ∧ w3.heap.size ≤ w4.heap.size ∧ Sl kSeg w4.heap (okL [(0, some w.heap.size, none)]) A1 p0 ∧ Ext w w4 ∧ seg_May.j0 it7_0 (seg_May.l0 p0 n1) bt54_1 = some r) ?_ ?_
      ·
        refine CW.ord [0, 1, 3, 7, 15, 31, 63, 127, 255, 511, 1023, 2047, 4095, 8191, 16383, 32767, 16383, 81919, 212991, 524287, 1048575, 2097151, 4194303, 8388607, 16777215, 33554431, 67108863, 33554431, 33554431, 301989887, 973078527, 2046820351, 4194303999, 33554431, 33554431, 17213423615, 60163096575, 128882573311, 266321526783, 549655150591, 1099511627775, 2199023255551, 4398046511103] [(0, .W), (1, .L), (2, .W), (3, .W), (4, .W), (5, .L), (6, .W), (7, .W), (8, .W), (9, .W), (10, .L), (11, .W), (12, .W), (13, .W), (14, .W), (16, .W), (15, .L), (17, .L), (18, .W), (19, .W), (20, .W), (21, .W), (22, .W), (23, .W), (24, .W), (25, .W), (27, .W), (28, .W), (29, .W), (30, .W), (31, .W), (33, .W), (34, .W), (35, .W), (36, .W), (37, .W), (26, .L), (32, .L), (38, .L), (39, .W), (40, .W), (41, .W), (42, .W)] mixed (by kernel_rfl) ?_
        intro w5 x3
        have sx3 := x3.size
        refine RW.pure tabOk 1 rfl ?_
        have h5 := h4.ext x3
        refine RW.load tabOk [.int .i64 ((rd p0 it7_0).At)] ((h5.at 0).take 1 rfl) ⟨rfl, rfl, rfl, rfl⟩ rfl rfl rfl rfl ?_
        refine RW.pure tabOk 2 rfl ?_
        by_cases c2 : ((rd p0 it7_0).At) < 0
        · rw [if_pos c2] at H
          refine RW.bool 15 (b' := true) (decide_eq_true c2) rfl ?_
          refine RW.pure tabOk 39 rfl ?_
          refine RW.done ?_
          have h6 := ((gF1_0.ext x1).turnB x2 h2 ⟨.inr (by omega), trivial⟩).ext x3
          have h7 := Ext.trans (Ext.turnB (Ext.trans x0_0 x1) x2 (by omega)) x3
          exact NW.J fun a ha => ⟨true, ha.sub ⟨rfl, rfl, rfl, rfl, rfl, trivial⟩, by omega, h6, h7, H⟩
        · rw [if_neg c2] at H
          refine RW.bool 15 (b' := false) (decide_eq_false c2) rfl ?_
          refine RW.pure tabOk 1 rfl ?_
          refine RW.load tabOk [.int .i64 ((rd p0 it7_0).Len)] (h5.at 1) ⟨rfl, rfl, rfl, rfl⟩ rfl rfl rfl rfl ?_
          refine RW.pure tabOk 3 rfl ?_
          by_cases c3 : ((rd p0 it7_0).Len) < 1
          · rw [if_pos c3] at H
            refine RW.bool 20 (b' := true) (decide_eq_true c3) rfl ?_
            refine RW.pure tabOk 34 rfl ?_
            refine RW.done ?_
            have h8 := ((gF1_0.ext x1).turnB x2 h2 ⟨.inr (by omega), trivial⟩).ext x3
            have h9 := Ext.trans (Ext.turnB (Ext.trans x0_0 x1) x2 (by omega)) x3
            exact NW.J fun a ha => ⟨true, ha.sub ⟨rfl, rfl, rfl, rfl, rfl, trivial⟩, by omega, h8, h9, H⟩
          · rw [if_neg c3] at H
            refine RW.bool 20 (b' := false) (decide_eq_false c3) rfl ?_
            refine RW.pure tabOk 1 rfl ?_
            refine RW.load tabOk [.int .i64 ((rd p0 it7_0).At)] ((h5.at 0).take 1 rfl) ⟨rfl, rfl, rfl, rfl⟩ rfl rfl rfl rfl ?_
            refine RW.pure tabOk 3 rfl ?_
            by_cases c4 : 64 < ((rd p0 it7_0).At)
            · rw [if_pos c4] at H
              refine RW.bool 25 (b' := true) (decide_eq_true c4) rfl ?_
              refine RW.pure tabOk 29 rfl ?_
              refine RW.done ?_
              have h10 := ((gF1_0.ext x1).turnB x2 h2 ⟨.inr (by omega), trivial⟩).ext x3
              have h11 := Ext.trans (Ext.turnB (Ext.trans x0_0 x1) x2 (by omega)) x3
              exact NW.J fun a ha => ⟨true, ha.sub ⟨rfl, rfl, rfl, rfl, rfl, trivial⟩, by omega, h10, h11, H⟩
            · rw [if_neg c4] at H
              refine RW.bool 25 (b' := false) (decide_eq_false c4) rfl ?_
              refine RW.pure tabOk 2 rfl ?_
              refine RW.load tabOk [.int .i64 ((rd p0 it7_0).Len)] (h5.at 1) ⟨rfl, rfl, rfl, rfl⟩ rfl rfl rfl rfl ?_
              refine RW.load tabOk [.int .i64 ((rd p0 it7_0).At)] ((h5.at 0).take 1 rfl) ⟨rfl, rfl, rfl, rfl⟩ rfl rfl rfl rfl ?_
              refine RW.pure tabOk 4 rfl ?_
              by_cases c5 : (w64 (64 - ((rd p0 it7_0).At))) < ((rd p0 it7_0).Len)
              · rw [if_pos c5] at H
                refine RW.bool 33 (b' := true) (decide_eq_true c5) rfl ?_
                refine RW.pure tabOk 21 rfl ?_
                refine RW.done ?_
                have h12 := ((gF1_0.ext x1).turnB x2 h2 ⟨.inr (by omega), trivial⟩).ext x3
                have h13 := Ext.trans (Ext.turnB (Ext.trans x0_0 x1) x2 (by omega)) x3
                exact NW.J fun a ha => ⟨true, ha.sub ⟨rfl, rfl, rfl, rfl, rfl, trivial⟩, by omega, h12, h13, H⟩
              · rw [if_neg c5] at H
                refine RW.bool 33 (b' := false) (decide_eq_false c5) rfl ?_
                refine RW.pure tabOk 3 rfl ?_
                by_cases c6 : 0 < it7_0
                · rw [if_pos c6] at H
                  refine RW.bool 36 (b' := true) (decide_eq_true c6) rfl ?_
                  refine RW.pure tabOk 4 rfl ?_
                  obtain ⟨g2, H⟩ := guard_some H
                  have h14 := ((gF1_0.ext x1).turnB x2 h2 ⟨.inr (by omega), trivial⟩).ext x3
                  obtain ⟨ad2, e2, a2⟩ := kSeg_at h14 g2.1 g2.2
                  refine RW.index tabOk g2.1 g2.2 e2 ⟨rfl, rfl, rfl, rfl⟩ rfl rfl rfl rfl rfl rfl ?_
                  refine RW.pure tabOk 4 rfl ?_
                  obtain ⟨g3, H⟩ := guard_some H
                  obtain ⟨ad3, e3, a3⟩ := kSeg_at h14 g3.1 g3.2
                  refine RW.index tabOk g3.1 g3.2 e3 ⟨rfl, rfl, rfl, rfl⟩ rfl rfl rfl rfl rfl rfl ?_
                  refine RW.pure tabOk 1 rfl ?_
                  refine RW.load tabOk [.int .i64 ((rd p0 it7_0).At)] ((h5.at 0).take 1 rfl) ⟨rfl, rfl, rfl, rfl⟩ rfl rfl rfl rfl ?_
                  refine RW.load tabOk [.int .i64 ((rd p0 (w64 (it7_0 - 1))).At)] ((a2.fld 0).take 1 rfl) ⟨rfl, rfl, rfl, rfl⟩ rfl rfl rfl rfl ?_
                  refine RW.load tabOk [.int .i64 ((rd p0 (w64 (it7_0 - 1))).Len)] (a3.fld 1) ⟨rfl, rfl, rfl, rfl⟩ rfl rfl rfl rfl ?_
                  refine RW.pure tabOk 4 rfl ?_
                  refine RW.done ?_
                  have h15 := Ext.trans (Ext.turnB (Ext.trans x0_0 x1) x2 (by omega)) x3
                  exact NW.J fun a ha => ⟨(decide (((rd p0 it7_0).At) ≤ (w64 (((rd p0 (w64 (it7_0 - 1))).At) + ((rd p0 (w64 (it7_0 - 1))).Len))))), ha.sub ⟨rfl, rfl, rfl, rfl, rfl, trivial⟩, by omega, h14, h15, H⟩
                · rw [if_neg c6] at H
                  refine RW.bool 36 (b' := false) (decide_eq_false c6) rfl ?_
                  refine RW.pure tabOk 18 rfl ?_
                  refine RW.done ?_
                  have h16 := ((gF1_0.ext x1).turnB x2 h2 ⟨.inr (by omega), trivial⟩).ext x3
                  have h17 := Ext.trans (Ext.turnB (Ext.trans x0_0 x1) x2 (by omega)) x3
                  exact NW.J fun a ha => ⟨false, ha.sub ⟨rfl, rfl, rfl, rfl, rfl, trivial⟩, by omega, h16, h17, H⟩
      intro a w4 hJ hp
      obtain ⟨bt54_1, hS, hle, gF1_1, x0_1, H⟩ := hJ
      unfold seg_May.j0 at H
      refine CW.go hp hS ?_
      by_cases c7 : bt54_1 = true
      · rw [if_pos c7] at H
        refine CW.cond_t rfl (c7) ?_
        refine CW.seq ?_
        refine CW.lex [.W] rfl ?_
        refine RW.pure tabOk 1 rfl ?_
        refine RW.done ?_
        refine NW.next ?_
        refine CW.ret ?_
        refine NW.ret_block (NW.ret_then (NW.ret_then (NW.ret_block (NW.ret_then ?_))))
        obtain rfl := Option.some.inj H
        exact NW.ret1 rfl (by rfl) ⟨rfl, x0_1⟩
      · rw [if_neg c7] at H
        refine CW.cond_f rfl (bool_f c7) ?_
        refine CW.skip ?_
        refine NW.norm_block (NW.next ?_)
        refine CW.lex [.W, .W] rfl ?_
        refine RW.pure tabOk 2 rfl ?_
        refine RW.done ?_
        exact NW.J fun a ha => ⟨n1, Nat.lt_succ_self n1, (w64 (it7_0 + 1)), ha.sub ⟨rfl, rfl, rfl, rfl, trivial⟩, by omega, gF1_1, x0_1, H⟩
    · rw [if_neg c1] at H
      refine CW.cond_f rfl (decide_eq_false c1) ?_
      refine CW.exit ?_
      refine NW.exit_then (NW.exit_then (NW.exit_hit ?_))
      refine NW.next ?_
      refine CW.seq ?_
      refine CW.lex [.W] rfl ?_
      refine RW.pure tabOk 1 rfl ?_
      refine RW.done ?_
      refine NW.next ?_
      refine CW.ret ?_
      obtain rfl := Option.some.inj H
      exact NW.ret1 rfl (by rfl) ⟨rfl, x0_0⟩

set_option maxHeartbeats 4000000 in
set_option maxRecDepth 100000 in
theorem seg_To.calls (p0 : Int) (r : Int) (w : World) (H : seg_To.f p0 = some r) :
    Calls Tryd.prog 58 #[.int .i64 p0] w fun e w' => e = .returned (.int .u64 r) ∧ Ext w w' := by
  have x0 : Ext w w := Upd.refl _ w
  unfold seg_To.f at H
  refine calls_start Tryd.func58 rfl 8 rfl [.int .i64 p0] rfl ?_
  refine CW.seq ?_
  refine CW.lex [.W] rfl ?_
  refine RW.pure tabOk 1 rfl ?_
  refine RW.done ?_
  refine NW.next ?_
  refine CW.seq ?_
  refine CW.seq ?_
  refine CW.lex [.W, .W] rfl ?_
  refine RW.pure tabOk 2 rfl ?_
  refine RW.done ?_
  refine NW.next ?_
  by_cases c1 : 64 ≤ p0
  · rw [if_pos c1] at H
    refine CW.cond_t rfl (decide_eq_true c1) ?_
    refine CW.seq ?_
    refine CW.lex [.W] rfl ?_
    refine RW.pure tabOk 1 rfl ?_
    refine RW.done ?_
    refine NW.next ?_
    refine CW.ret ?_
    refine NW.ret_then ?_
    obtain rfl := Option.some.inj H
    exact NW.ret1 rfl (by rfl) ⟨rfl, x0⟩
  · rw [if_neg c1] at H
    refine CW.cond_f rfl (decide_eq_false c1) ?_
    refine CW.skip ?_
    refine NW.next ?_
    refine CW.seq ?_
    refine CW.lex [.W, .W, .W, .W] rfl ?_
    refine RW.pure tabOk 1 rfl ?_
    obtain ⟨g1, H⟩ := guard_some H
    refine RW.shift g1 ⟨rfl, rfl, rfl, rfl⟩ rfl rfl rfl rfl ?_
    refine RW.pure tabOk 2 rfl ?_
    refine RW.done ?_
    refine NW.next ?_
    refine CW.ret ?_
    obtain rfl := Option.some.inj H
    exact NW.ret1 rfl (by rfl) ⟨rfl, x0⟩

set_option maxHeartbeats 4000000 in
set_option maxRecDepth 100000 in
theorem seg_Make.calls (k : Nat) (A1 : Option Addr) (c_1 : Nat) (p0 : List Seg) (r : Int) (w : World) (hs1 : Sl kSeg w.heap okAll A1 p0) (hl1 : p0.length ≤ c_1) (H : seg_Make.f k p0 = some r) :
    Calls Tryd.prog 52 #[.slice A1 p0.length c_1] w fun e w' => e = .returned (.int .u64 r) ∧ Ext w w' := by
  have h1 : Sl kSeg w.heap (okL [(0, some w.heap.size, none)]) A1 p0 := hs1.old _ rfl
  have x0 : Ext w w := Upd.refl _ w
  unfold seg_Make.f at H
  refine calls_start Tryd.func52 rfl 26 rfl [.slice A1 p0.length c_1] rfl ?_
  refine CW.seq ?_
  refine CW.lex [.W] rfl ?_
  refine RW.pure tabOk 1 rfl ?_
  refine RW.done ?_
  refine NW.next ?_
  refine CW.seq ?_
  refine CW.lex [.W] rfl ?_
  refine RW.pure tabOk 1 rfl ?_
  refine RW.done ?_
  refine NW.next ?_
  refine CW.seq ?_
  refine CW.seq ?_
  refine CW.lex [.W, .W, .W] rfl ?_
  refine RW.pure tabOk 3 rfl ?_
  refine RW.done ?_
  refine NW.next ?_
  refine CW.block ?_
  refine CW.loop (fun n1 a w1 => ∃ (it3_0 : Int) (it8_0 : Int), Sat 26 [(3, .int .u64 it3_0), (6, .slice A1 p0.length c_1), (7, .int .i64 (p0.length : Int)), (8, .int .i64 it8_0)] a ∧ w.heap.size ≤ w1.heap.size ∧ Sl kSeg w1.heap (okL [(0, some w.heap.size, none)]) A1 p0 ∧ Ext w w1 ∧ seg_Make.l0 p0 n1 it3_0 it8_0 = some r) k ?_ ?_
  · exact fun a ha => ⟨0, 0, ha.sub ⟨rfl, rfl, rfl, rfl, trivial⟩, by omega, h1, x0, H⟩
  intro n1 a w1 hI hp
  obtain ⟨it3_0, it8_0, hS, hle, gF1_0, x0_0, H⟩ := hI
  cases n1 with
  | zero => cases H
  | succ n1 =>
    rw [seg_Make.l0] at H
    refine CW.go hp hS ?_
    refine CW.seq ?_
    refine CW.lex [.W] rfl ?_
    refine RW.pure tabOk 1 rfl ?_
    refine RW.done ?_
    refine NW.next ?_
    refine CW.seq ?_
    by_cases c1 : it8_0 < (p0.length : Int)
    · rw [if_pos c1] at H
      refine CW.cond_t rfl (decide_eq_true c1) ?_
      refine CW.skip ?_
      refine NW.next ?_
      refine CW.seq ?_
      refine CW.block ?_
      refine CW.seq ?_
      refine CW.lex [.W, .L, .X, .M] rfl ?_
      obtain ⟨g1, H⟩ := guard_some H
      obtain ⟨ad1, e1, a1⟩ := kSeg_at gF1_0 g1.1 g1.2
      refine RW.index tabOk g1.1 g1.2 e1 ⟨rfl, rfl, rfl, rfl⟩ rfl rfl rfl rfl rfl rfl ?_
      refine RW.load tabOk [.int .i64 ((rd p0 it8_0).At), .int .i64 ((rd p0 it8_0).Len)] a1 ⟨rfl, rfl, rfl, rfl⟩ rfl rfl rfl rfl ?_
      refine RW.alloc tabOk (.inl rfl) ⟨rfl, rfl, rfl, rfl⟩ rfl rfl ?_
      intro b1 w2 x1 l1 h2
      have sx1 := x1.size
      have ltb1 := h2.lt
      refine RW.storeBox tabOk h2 [.int .i64 ((rd p0 it8_0).At), .int .i64 ((rd p0 it8_0).Len)] ⟨rfl, rfl, rfl⟩ rfl rfl rfl rfl rfl rfl rfl rfl ?_
      intro w3 x2 h3
      have h4 : Box w3.heap b1 93 [.int .i64 ((rd p0 it8_0).At), .int .i64 ((rd p0 it8_0).Len)] := h3
      have sx2 := x2.size
      refine RW.done ?_
      refine NW.next ?_
      refine CW.ord [0, 0, 2, 0, 8, 30, 62, 0, 128, 510, 1022, 2047, 4095] [(0, .W), (1, .W), (3, .W), (7, .W), (2, .L), (4, .L), (5, .W), (8, .L), (6, .X), (9, .X), (10, .W), (11, .W), (12, .W)] mixed (by kernel_rfl) ?_
      intro w4 x3
      have sx3 := x3.size
      refine RW.pure tabOk 4 rfl ?_
      have h5 := h4.ext x3
      refine RW.load tabOk [.int .i64 ((rd p0 it8_0).At)] ((h5.at 0).take 1 rfl) ⟨rfl, rfl, rfl, rfl⟩ rfl rfl rfl rfl ?_
      refine RW.load tabOk [.int .i64 ((rd p0 it8_0).Len)] (h5.at 1) ⟨rfl, rfl, rfl, rfl⟩ rfl rfl rfl rfl ?_
      refine RW.pure tabOk 1 rfl ?_
      refine RW.load tabOk [.int .i64 ((rd p0 it8_0).At)] ((h5.at 0).take 1 rfl) ⟨rfl, rfl, rfl, rfl⟩ rfl rfl rfl rfl ?_
      obtain ⟨y1, h6, H⟩ := bind_some H
      refine RW.callF (.inl rfl) ent58 ⟨rfl, rfl, rfl, rfl⟩ rfl rfl (seg_To.calls (w64 (((rd p0 it8_0).At) + ((rd p0 it8_0).Len))) _ _ h6) ?_
      rintro _ w5 ⟨rfl, x4⟩
      refine ⟨_, rfl, x4, ?_⟩
      have sx4 := x4.size
      obtain ⟨y2, h7, H⟩ := bind_some H
      refine RW.callF (.inl rfl) ent58 ⟨rfl, rfl, rfl, rfl⟩ rfl rfl (seg_To.calls ((rd p0 it8_0).At) _ _ h7) ?_
      rintro _ w6 ⟨rfl, x5⟩
      refine ⟨_, rfl, x5, ?_⟩
      have sx5 := x5.size
      refine RW.pure tabOk 3 rfl ?_
      refine RW.done ?_
      refine NW.norm_block (NW.next ?_)
      refine CW.lex [.W, .W] rfl ?_
      refine RW.pure tabOk 2 rfl ?_
      refine RW.done ?_
      have h8 := ((((gF1_0.ext x1).turnB x2 h2 ⟨.inr (by omega), trivial⟩).ext x3).ext x4).ext x5
      have h9 := Ext.trans (Ext.trans (Ext.trans (Ext.turnB (Ext.trans x0_0 x1) x2 (by omega)) x3) x4) x5
      exact NW.J fun a ha => ⟨n1, Nat.lt_succ_self n1, (uor it3_0 (uandn y1 y2)), (w64 (it8_0 + 1)), ha.sub ⟨rfl, rfl, rfl, rfl, trivial⟩, by omega, h8, h9, H⟩
    · rw [if_neg c1] at H
      refine CW.cond_f rfl (decide_eq_false c1) ?_
      refine CW.exit ?_
      refine NW.exit_then (NW.exit_then (NW.exit_hit ?_))
      refine NW.next ?_
      refine CW.seq ?_
      refine CW.lex [.W, .W] rfl ?_
      refine RW.pure tabOk 2 rfl ?_
      refine RW.done ?_
      refine NW.next ?_
      refine CW.ret ?_
      obtain rfl := Option.some.inj H
      exact NW.ret1 rfl (by rfl) ⟨rfl, x0_0⟩

set_option maxHeartbeats 4000000 in
set_option maxRecDepth 100000 in
theorem math_bits_TrailingZeros64.calls (p0 : Int) (r : Int) (w : World) {gT : Nat} (hG : Box w.heap 0 gT (arrI .u8 64 tz)) (H : math_bits_TrailingZeros64.f p0 = some r) :
    Calls Tryd.prog 100 #[.int .u64 p0] w fun e w' => e = .returned (.int .i64 r) ∧ Ext w w' := by
  have hG0 : 0 < w.heap.size := hG.lt
  have x0 : Ext w w := Upd.refl _ w
  unfold math_bits_TrailingZeros64.f at H
  refine calls_start Tryd.func100 rfl 14 rfl [.int .u64 p0] rfl ?_
  refine CW.seq ?_
  refine CW.lex [.W] rfl ?_
  refine RW.pure tabOk 1 rfl ?_
  refine RW.done ?_
  refine NW.next ?_
  refine CW.seq ?_
  refine CW.seq ?_
  refine CW.lex [.W, .W] rfl ?_
  refine RW.pure tabOk 2 rfl ?_
  refine RW.done ?_
  refine NW.next ?_
  by_cases c1 : p0 = 0
  · rw [if_pos c1] at H
    refine CW.cond_t rfl (beq_t c1) ?_
    refine CW.seq ?_
    refine CW.lex [.W] rfl ?_
    refine RW.pure tabOk 1 rfl ?_
    refine RW.done ?_
    refine NW.next ?_
    refine CW.ret ?_
    refine NW.ret_then ?_
    obtain rfl := Option.some.inj H
    exact NW.ret1 rfl (by rfl) ⟨rfl, x0⟩
  · rw [if_neg c1] at H
    refine CW.cond_f rfl (beq_f c1) ?_
    refine CW.skip ?_
    refine NW.next ?_
    refine CW.seq ?_
    refine CW.lex [.W, .W, .W, .W, .W, .W, .W, .L, .W, .W] rfl ?_
    refine RW.pure tabOk 2 rfl ?_
    refine RW.neg ⟨rfl, rfl, rfl, rfl⟩ rfl rfl ?_
    refine RW.pure tabOk 2 rfl ?_
    refine RW.shift (by omega) ⟨rfl, rfl, rfl, rfl⟩ rfl rfl rfl rfl ?_
    obtain ⟨g1, H⟩ := guard_some H
    refine RW.indexBox tabOk g1.1 g1.2 ⟨rfl, rfl, rfl, rfl⟩ rfl rfl rfl rfl rfl rfl rfl ?_
    refine RW.load tabOk [.int .u8 (tz ((wu64 ((uand p0 (wu64 (0 - p0))) * 285870213051353865)).fdiv (2 ^ min (58 : Int).toNat 64)).toNat)] (hG.elF (by have := g1; omega)) ⟨rfl, rfl, rfl, rfl⟩ rfl rfl rfl rfl ?_
    refine RW.pure tabOk 2 rfl ?_
    refine RW.done ?_
    refine NW.next ?_
    refine CW.ret ?_
    obtain rfl := Option.some.inj H
    exact NW.ret1 rfl (by rfl) ⟨rfl, x0⟩

set_option maxHeartbeats 4000000 in
set_option maxRecDepth 100000 in
theorem seg_Set_Least.calls (p0 : Int) (r : Int) (w : World) {gT : Nat} (hG : Box w.heap 0 gT (arrI .u8 64 tz)) (H : seg_Set_Least.f p0 = some r) :
    Calls Tryd.prog 80 #[.int .u64 p0] w fun e w' => e = .returned (.int .i64 r) ∧ Ext w w' := by
  have hG0 : 0 < w.heap.size := hG.lt
  have x0 : Ext w w := Upd.refl _ w
  unfold seg_Set_Least.f at H
  refine calls_start Tryd.func80 rfl 5 rfl [.int .u64 p0] rfl ?_
  refine CW.seq ?_
  refine CW.lex [.W] rfl ?_
  refine RW.pure tabOk 1 rfl ?_
  refine RW.done ?_
  refine NW.next ?_
  refine CW.seq ?_
  refine CW.lex [.W, .X, .W] rfl ?_
  refine RW.pure tabOk 1 rfl ?_
  obtain ⟨y1, h1, H⟩ := bind_some H
  refine RW.callF (.inl rfl) ent100 ⟨rfl, rfl, rfl, rfl⟩ rfl rfl (math_bits_TrailingZeros64.calls p0 _ _ hG h1) ?_
  rintro _ w1 ⟨rfl, x1⟩
  refine ⟨_, rfl, x1, ?_⟩
  have sx1 := x1.size
  refine RW.pure tabOk 1 rfl ?_
  refine RW.done ?_
  refine NW.next ?_
  refine CW.ret ?_
  obtain rfl := Option.some.inj H
  have h2 := Ext.trans x0 x1
  exact NW.ret1 rfl (by rfl) ⟨rfl, h2⟩

set_option maxHeartbeats 4000000 in
set_option maxRecDepth 100000 in
theorem seg_Set_Sectors.calls (k : Nat) (p0 : Int) (r : (List Int)) (w : World) {gT : Nat} (hG : Box w.heap 0 gT (arrI .u8 64 tz)) (H : seg_Set_Sectors.f k p0 = some r) :
    Calls Tryd.prog 60 #[.int .u64 p0] w fun e w' => ∃ (B1 : Option Addr) (d1 : Nat), e = .returned (.slice B1 r.length d1) ∧ Ext w w' ∧ Ow (Kd.int .i64) 3 w'.heap (okL [(w.heap.size, none, some 3)]) (okL []) B1 d1 r := by
  have hG0 : 0 < w.heap.size := hG.lt
  have x0 : Ext w w := Upd.refl _ w
  unfold seg_Set_Sectors.f at H
  refine calls_start Tryd.func60 rfl 15 rfl [.int .u64 p0] rfl ?_
  refine CW.seq ?_
  refine CW.lex [.W] rfl ?_
  refine RW.pure tabOk 1 rfl ?_
  refine RW.done ?_
  refine NW.next ?_
  refine CW.seq ?_
  refine CW.block ?_
  refine CW.loop (fun n1 a w1 => ∃ (it0_0 : Int) (lt2_0 : List Int) (At2_0 : Option Addr) (ct2_0 : Nat), Sat 15 [(0, .int .u64 it0_0), (2, .slice At2_0 lt2_0.length ct2_0)] a ∧ w.heap.size ≤ w1.heap.size ∧ Ow (Kd.int .i64) 3 w1.heap (okL [(w.heap.size, none, some 3)]) (okL []) At2_0 ct2_0 lt2_0 ∧ Ext w w1 ∧ Box w1.heap 0 gT (arrI .u8 64 tz) ∧ seg_Set_Sectors.l0 n1 it0_0 lt2_0 = some r) k ?_ ?_
  · exact fun a ha => ⟨p0, ([] : List Int), none, 0, ha.sub ⟨rfl, rfl, trivial⟩, by omega, Ow.nil, x0, hG, H⟩
  intro n1 a w1 hI hp
  obtain ⟨it0_0, lt2_0, At2_0, ct2_0, hS, hle, ft2_0, x0_0, g0_0, H⟩ := hI
  cases n1 with
  | zero => cases H
  | succ n1 =>
    rw [seg_Set_Sectors.l0] at H
    refine CW.go hp hS ?_
    have h1 : Ow (Kd.int .i64) 3 w1.heap (okL [(w.heap.size, some w1.heap.size, some 3)]) (okL []) At2_0 ct2_0 lt2_0 := ft2_0.close
    refine CW.seq ?_
    refine CW.seq ?_
    refine CW.lex [.W, .W] rfl ?_
    refine RW.pure tabOk 2 rfl ?_
    refine RW.done ?_
    refine NW.next ?_
    by_cases c1 : it0_0 = 0
    · rw [if_pos c1] at H
      refine CW.cond_f rfl (bne_f c1) ?_
      refine CW.exit ?_
      refine NW.exit_then (NW.exit_then (NW.exit_hit ?_))
      refine NW.next ?_
      refine CW.seq ?_
      refine CW.lex [.W, .W] rfl ?_
      refine RW.pure tabOk 2 rfl ?_
      refine RW.done ?_
      refine NW.next ?_
      refine CW.ret ?_
      obtain rfl := Option.some.inj H
      exact NW.ret1 rfl (by rfl) ⟨At2_0, ct2_0, rfl, x0_0, (h1.sub (l' := [(w.heap.size, none, some 3)]) (li' := []) ⟨(.inl ⟨by omega, trivial, rfl⟩), trivial⟩ trivial)⟩
    · rw [if_neg c1] at H
      refine CW.cond_t rfl (bne_t c1) ?_
      refine CW.skip ?_
      refine NW.next ?_
      refine CW.seq ?_
      refine CW.block ?_
      refine CW.lex [.W, .W, .X, .X, .M, .W] rfl ?_
      refine RW.pure tabOk 2 rfl ?_
      obtain ⟨y1, h2, H⟩ := bind_some H
      refine RW.callF (.inl rfl) ent80 ⟨rfl, rfl, rfl, rfl⟩ rfl rfl (seg_Set_Least.calls it0_0 _ _ g0_0 h2) ?_
      rintro _ w2 ⟨rfl, x1⟩
      refine ⟨_, rfl, x1, ?_⟩
      have sx1 := x1.size
      refine RW.buildSlice (cs := [.int .i64 y1]) tabOk (.inl rfl) ⟨rfl, rfl, rfl, rfl⟩ rfl rfl rfl rfl rfl rfl rfl ?_
      intro b1 w3 x2 l1 h3
      have sx2 := x2.size
      have ltb1 := h3.lt
      have h4 := (h1.ext x1).ext x2
      obtain ⟨g1, H⟩ := guard_some H
      refine RW.append1L (d := (Kd.int .i64)) (v := y1) (l := [(w.heap.size, some w1.heap.size, some 3)]) (li := []) (ly := []) (xs := lt2_0) tabOk h4 h3 rfl trivial (by simp only [maxLen]; omega) g1 ⟨rfl, rfl, rfl, rfl⟩ rfl rfl rfl rfl rfl rfl rfl ?_
      intro A1 c_1 w4 x3 h5
      have sx3 := x3.size
      have h6 := h5.close.sub (l' := [(w.heap.size, some w4.heap.size, some 3)]) (li' := []) ⟨(.inl ⟨by omega, by omega, rfl⟩), ⟨(.inl ⟨by omega, by omega, rfl⟩), trivial⟩⟩ trivial
      refine RW.pure tabOk 1 rfl ?_
      refine RW.done ?_
      refine NW.norm_block (NW.next ?_)
      refine CW.lex [.W, .W, .W, .W, .W] rfl ?_
      refine RW.pure tabOk 5 rfl ?_
      refine RW.done ?_
      have h7 := Ext.turn (Ext.trans (Ext.trans x0_0 x1) x2) x3 ⟨by omega, trivial⟩
      have h8 := ((g0_0.ext x1).ext x2).turnL x3 (.inr ⟨⟨.inr (.inl (by omega)), trivial⟩, trivial⟩)
      exact NW.J fun a ha => ⟨n1, Nat.lt_succ_self n1, (uand it0_0 (wu64 (it0_0 - 1))), (lt2_0 ++ [y1]), A1, c_1, ha.sub ⟨rfl, rfl, trivial⟩, by omega, (h6.sub ⟨(.inl ⟨by omega, trivial, rfl⟩), trivial⟩ trivial), h7, h8, H⟩

set_option maxHeartbeats 4000000 in
set_option maxRecDepth 100000 in
theorem seg_Set_Segs.calls (k : Nat) (p0 : Int) (r : (List Seg)) (w : World) {gT : Nat} (hG : Box w.heap 0 gT (arrI .u8 64 tz)) (H : seg_Set_Segs.f k p0 = some r) :
    Calls Tryd.prog 53 #[.int .u64 p0] w fun e w' => ∃ (B1 : Option Addr) (d1 : Nat), e = .returned (.slice B1 r.length d1) ∧ Ext w w' ∧ Ow kSeg 93 w'.heap (okL [(w.heap.size, none, some 93)]) (okL []) B1 d1 r := by
  have hG0 : 0 < w.heap.size := hG.lt
  have x0 : Ext w w := Upd.refl _ w
  unfold seg_Set_Segs.f at H
  refine calls_start Tryd.func53 rfl 50 rfl [.int .u64 p0] rfl ?_
  refine CW.seq ?_
  refine CW.lex [.W] rfl ?_
  refine RW.pure tabOk 1 rfl ?_
  refine RW.done ?_
  refine NW.next ?_
  refine CW.seq ?_
  refine CW.seq ?_
  refine CW.lex [.W, .X, .W, .W] rfl ?_
  refine RW.pure tabOk 1 rfl ?_
  obtain ⟨y1, h1, H⟩ := bind_some H
  refine RW.callF (.inl rfl) ent60 ⟨rfl, rfl, rfl, rfl⟩ rfl rfl (seg_Set_Sectors.calls k p0 _ _ hG h1) ?_
  rintro _ w1 ⟨A1, c_1, rfl, x1, h2⟩
  refine ⟨_, rfl, x1, ?_⟩
  have sx1 := x1.size
  have h3 : Ow (Kd.int .i64) 3 w1.heap (okL [(w.heap.size, some w1.heap.size, some 3)]) (okL []) A1 c_1 y1 := h2.close
  refine RW.pure tabOk 2 rfl ?_
  refine RW.done ?_
  refine NW.next ?_
  refine CW.block ?_
  refine CW.loop (fun n1 a w2 => ∃ (lt2_0 : List Seg) (At2_0 : Option Addr) (ct2_0 : Nat) (it9_0 : Int), Sat 50 [(2, .slice At2_0 lt2_0.length ct2_0), (7, .slice A1 y1.length c_1), (8, .int .i64 (y1.length : Int)), (9, .int .i64 it9_0)] a ∧ w1.heap.size ≤ w2.heap.size ∧ Ow kSeg 93 w2.heap (okL [(w1.heap.size, none, some 93)]) (okL []) At2_0 ct2_0 lt2_0 ∧ Ow (Kd.int .i64) 3 w2.heap (okL [(w.heap.size, some w1.heap.size, some 3)]) (okL []) A1 c_1 y1 ∧ Ext w w2 ∧ Box w2.heap 0 gT (arrI .u8 64 tz) ∧ seg_Set_Segs.l0 y1 n1 lt2_0 it9_0 = some r) k ?_ ?_
  have h4 := Ext.trans x0 x1
  have h5 := hG.ext x1
  · exact fun a ha => ⟨([] : List Seg), none, 0, 0, ha.sub ⟨rfl, rfl, rfl, rfl, trivial⟩, by omega, Ow.nil, h3, h4, h5, H⟩
  intro n1 a w2 hI hp
  obtain ⟨lt2_0, At2_0, ct2_0, it9_0, hS, hle, ft2_0, gF1_0, x0_0, g0_0, H⟩ := hI
  cases n1 with
  | zero => cases H
  | succ n1 =>
    rw [seg_Set_Segs.l0] at H
    refine CW.go hp hS ?_
    have h6 : Ow kSeg 93 w2.heap (okL [(w1.heap.size, some w2.heap.size, some 93)]) (okL []) At2_0 ct2_0 lt2_0 := ft2_0.close
    refine CW.seq ?_
    refine CW.lex [.W] rfl ?_
    refine RW.pure tabOk 1 rfl ?_
    refine RW.done ?_
    refine NW.next ?_
    refine CW.seq ?_
    by_cases c1 : it9_0 < (y1.length : Int)
    · rw [if_pos c1] at H
      refine CW.cond_t rfl (decide_eq_true c1) ?_
      refine CW.skip ?_
      refine NW.next ?_
      refine CW.seqJ (fun a w3 => ∃ (lt2_1 : List Seg) (At2_1 : Option Addr) (ct2_1 : Nat), Sat 50 [(2, .slice At2_1 lt2_1.length ct2_1), (7, .slice A1 y1.length c_1), (8, .int .i64 (y1.length : Int)), (9, .int .i64 it9_0)] a ∧ w2.heap.size ≤ w3.heap.size ∧ Ow kSeg 93 w3.heap (okL [(w1.heap.size, none, some 93)]) (okL []) At2_1 ct2_1 lt2_1 ∧ Ow (Kd.int .i64) 3 w3.heap (okL [(w.heap.size, some w1.heap.size, some 3)]) (okL []) A1 c_1 y1 ∧ Ext w w3 ∧ Box w3.heap 0 gT (arrI .u8 64 tz) ∧ seg_Set_Segs.j0 it9_0 (seg_Set_Segs.l0 y1 n1) lt2_1 = some r) ?_ ?_
      ·
        refine CW.block ?_
        refine CW.seq ?_
        refine CW.lex [.W, .L, .W] rfl ?_
        obtain ⟨g1, H⟩ := guard_some H
        obtain ⟨ad1, e1, a1⟩ := at_i64 gF1_0.slL g1.1 g1.2
        refine RW.index tabOk g1.1 g1.2 e1 ⟨rfl, rfl, rfl, rfl⟩ rfl rfl rfl rfl rfl rfl ?_
        refine RW.load tabOk [.int .i64 (rd y1 it9_0)] a1 ⟨rfl, rfl, rfl, rfl⟩ rfl rfl rfl rfl ?_
        refine RW.pure tabOk 1 rfl ?_
        refine RW.done ?_
        refine NW.next ?_
        refine CW.seq ?_
        refine CW.seq ?_
        refine CW.lex [.W, .W, .W] rfl ?_
        refine RW.pure tabOk 3 rfl ?_
        refine RW.done ?_
        refine NW.next ?_
        refine CW.seqJ (fun a w4 => ∃ (bt33_2 : Bool), Sat 50 [(2, .slice At2_0 lt2_0.length ct2_0), (4, .int .i64 (rd y1 it9_0)), (5, .int .i64 (lt2_0.length : Int)), (7, .slice A1 y1.length c_1), (8, .int .i64 (y1.length : Int)), (9, .int .i64 it9_0), (33, .bool bt33_2)] a ∧ w2.heap.size ≤ w4.heap.size ∧ Ow kSeg 93 w4.heap (okL [(w1.heap.size, some w2.heap.size, some 93)]) (okL []) At2_0 ct2_0 lt2_0 ∧ Ow (Kd.int .i64) 3 w4.heap (okL [(w.heap.size, some w1.heap.size, some 3)]) (okL []) A1 c_1 y1 ∧ Ext w w4 ∧ Box w4.heap 0 gT (arrI .u8 64 tz) ∧ seg_Set_Segs.j1 y1 lt2_0 it9_0 (seg_Set_Segs.l0 y1 n1) bt33_2 = some r) ?_ ?_
        ·
          refine CW.ord [0, 1, 3, 7, 7, 23, 63, 127, 255, 7, 7, 1031, 3591, 7687, 15879, 32767, 7, 131071, 262143] [(0, .W), (1, .W), (2, .W), (3, .W), (4, .W), (5, .W), (6, .W), (7, .W), (9, .W), (10, .W), (11, .W), (12, .W), (13, .W), (16, .W), (8, .L), (14, .L), (15, .W), (17, .W), (18, .W)] mixed (by kernel_rfl) ?_
          intro w5 x2
          have sx2 := x2.size
          refine RW.pure tabOk 3 rfl ?_
          by_cases c2 : 0 < (lt2_0.length : Int)
          · rw [if_pos c2] at H
            refine RW.bool 17 (b' := true) (decide_eq_true c2) rfl ?_
            refine RW.pure tabOk 3 rfl ?_
            obtain ⟨g2, H⟩ := guard_some H
            have h7 := h6.ext x2
            obtain ⟨ad2, e2, a2⟩ := kSeg_at h7.slL g2.1 g2.2
            refine RW.index tabOk g2.1 g2.2 e2 ⟨rfl, rfl, rfl, rfl⟩ rfl rfl rfl rfl rfl rfl ?_
            refine RW.pure tabOk 4 rfl ?_
            obtain ⟨g3, H⟩ := guard_some H
            obtain ⟨ad3, e3, a3⟩ := kSeg_at h7.slL g3.1 g3.2
            refine RW.index tabOk g3.1 g3.2 e3 ⟨rfl, rfl, rfl, rfl⟩ rfl rfl rfl rfl rfl rfl ?_
            refine RW.pure tabOk 2 rfl ?_
            refine RW.load tabOk [.int .i64 ((rd lt2_0 (w64 ((lt2_0.length : Int) - 1))).At)] ((a2.fld 0).take 1 rfl) ⟨rfl, rfl, rfl, rfl⟩ rfl rfl rfl rfl ?_
            refine RW.load tabOk [.int .i64 ((rd lt2_0 (w64 ((lt2_0.length : Int) - 1))).Len)] (a3.fld 1) ⟨rfl, rfl, rfl, rfl⟩ rfl rfl rfl rfl ?_
            refine RW.pure tabOk 3 rfl ?_
            refine RW.done ?_
            have h8 := gF1_0.ext x2
            have h9 := Ext.trans x0_0 x2
            have h10 := g0_0.ext x2
            exact NW.J fun a ha => ⟨((w64 (((rd lt2_0 (w64 ((lt2_0.length : Int) - 1))).At) + ((rd lt2_0 (w64 ((lt2_0.length : Int) - 1))).Len))) == (rd y1 it9_0)), ha.sub ⟨rfl, rfl, rfl, rfl, rfl, rfl, rfl, trivial⟩, by omega, h7, h8, h9, h10, H⟩
          · rw [if_neg c2] at H
            refine RW.bool 17 (b' := false) (decide_eq_false c2) rfl ?_
            refine RW.pure tabOk 16 rfl ?_
            refine RW.done ?_
            have h11 := h6.ext x2
            have h12 := gF1_0.ext x2
            have h13 := Ext.trans x0_0 x2
            have h14 := g0_0.ext x2
            exact NW.J fun a ha => ⟨false, ha.sub ⟨rfl, rfl, rfl, rfl, rfl, rfl, rfl, trivial⟩, by omega, h11, h12, h13, h14, H⟩
        intro a w4 hJ hp
        obtain ⟨bt33_2, hS, hle, gL0_t2_2, gF1_2, x0_2, g0_2, H⟩ := hJ
        unfold seg_Set_Segs.j1 at H
        refine CW.go hp hS ?_
        by_cases c3 : bt33_2 = true
        · rw [if_pos c3] at H
          refine CW.cond_t rfl (c3) ?_
          refine CW.seq ?_
          refine CW.lex [.W, .W, .W, .W, .W, .L, .W, .W, .W, .M] rfl ?_
          refine RW.pure tabOk 3 rfl ?_
          obtain ⟨g4, H⟩ := guard_some H
          obtain ⟨ad4, e4, a4⟩ := kSeg_at gL0_t2_2.slL g4.1 g4.2
          refine RW.index tabOk g4.1 g4.2 e4 ⟨rfl, rfl, rfl, rfl⟩ rfl rfl rfl rfl rfl rfl ?_
          refine RW.pure tabOk 1 rfl ?_
          refine RW.load tabOk [.int .i64 ((rd lt2_0 (w64 ((lt2_0.length : Int) - 1))).Len)] (a4.fld 1) ⟨rfl, rfl, rfl, rfl⟩ rfl rfl rfl rfl ?_
          refine RW.pure tabOk 1 rfl ?_
          obtain ⟨g5, H⟩ := guard_some H
          obtain ⟨ad5, e5, a5⟩ := kSeg_at gL0_t2_2.slL g5.1 g5.2
          refine RW.index tabOk g5.1 g5.2 e5 ⟨rfl, rfl, rfl, rfl⟩ rfl rfl rfl rfl rfl rfl ?_
          refine RW.pure tabOk 1 rfl ?_
          refine RW.storeElL (y := (⟨(rd lt2_0 (w64 ((lt2_0.length : Int) - 1))).At, w64 (((rd lt2_0 (w64 ((lt2_0.length : Int) - 1))).Len) + 1)⟩ : Seg)) (lv := []) (k := 1) tabOk gL0_t2_2 (j := (w64 ((lt2_0.length : Int) - 1)).toNat) (by have := g5; omega) default [.int .i64 (w64 (((rd lt2_0 (w64 ((lt2_0.length : Int) - 1))).Len) + 1))] (fun cs ok' hr => by obtain rfl := kSeg_open hr; exact ⟨by simp, kSeg_mk (⟨(rd lt2_0 (w64 ((lt2_0.length : Int) - 1))).At, w64 (((rd lt2_0 (w64 ((lt2_0.length : Int) - 1))).Len) + 1)⟩ : Seg)⟩) trivial ⟨rfl, rfl, rfl⟩ rfl rfl e5 rfl rfl rfl rfl rfl ?_
          intro w6 x3 h15
          have sx3 := x3.size
          have h16 := h15.sub (l' := [(w1.heap.size, some w2.heap.size, some 93)]) (li' := []) ⟨(.inl ⟨by omega, by omega, rfl⟩), trivial⟩ trivial
          refine RW.tell 2 (v' := .slice At2_0 (lt2_0.set (w64 ((lt2_0.length : Int) - 1)).toNat (⟨(rd lt2_0 (w64 ((lt2_0.length : Int) - 1))).At, w64 (((rd lt2_0 (w64 ((lt2_0.length : Int) - 1))).Len) + 1)⟩ : Seg)).length ct2_0) (slice_len (List.length_set).symm) rfl ?_
          refine RW.done ?_
          refine NW.next ?_
          refine CW.exit ?_
          refine NW.exit_then (NW.exit_hit ?_)
          have h17 := gF1_2.turnL x3 ⟨⟨.inl (show (3 : Nat) ≠ 93 by decide), trivial⟩, trivial⟩ trivial
          have h18 := Ext.turn x0_2 x3 ⟨by omega, trivial⟩
          have h19 := g0_2.turnL x3 (.inr ⟨⟨.inr (.inl (by omega)), trivial⟩, trivial⟩)
          exact NW.J fun a ha => ⟨(lt2_0.set (w64 ((lt2_0.length : Int) - 1)).toNat (⟨(rd lt2_0 (w64 ((lt2_0.length : Int) - 1))).At, w64 (((rd lt2_0 (w64 ((lt2_0.length : Int) - 1))).Len) + 1)⟩ : Seg)), At2_0, ct2_0, ha.sub ⟨rfl, rfl, rfl, rfl, trivial⟩, by omega, (h16.sub ⟨(.inl ⟨by omega, trivial, rfl⟩), trivial⟩ trivial), h17, h18, h19, H⟩
        · rw [if_neg c3] at H
          refine CW.cond_f rfl (bool_f c3) ?_
          refine CW.skip ?_
          refine NW.next ?_
          refine CW.lex [.W, .W, .W, .X, .M, .W] rfl ?_
          refine RW.pure tabOk 3 rfl ?_
          refine RW.buildSlice (cs := [.int .i64 (rd y1 it9_0), .int .i64 1]) tabOk (.inl rfl) ⟨rfl, rfl, rfl, rfl⟩ rfl rfl rfl rfl rfl rfl rfl ?_
          intro b1 w7 x4 l1 h20
          have sx4 := x4.size
          have ltb1 := h20.lt
          have h21 := gL0_t2_2.ext x4
          obtain ⟨g6, H⟩ := guard_some H
          refine RW.append1L (d := kSeg) (v := (⟨rd y1 it9_0, 1⟩ : Seg)) (l := [(w1.heap.size, some w2.heap.size, some 93)]) (li := []) (ly := []) (xs := lt2_0) tabOk h21 h20 (kSeg_mk (⟨rd y1 it9_0, 1⟩ : Seg)) trivial (by simp only [maxLen]; omega) g6 ⟨rfl, rfl, rfl, rfl⟩ rfl rfl rfl rfl rfl rfl rfl ?_
          intro A2 c_2 w8 x5 h22
          have sx5 := x5.size
          have h23 := h22.close.sub (l' := [(w1.heap.size, some w8.heap.size, some 93)]) (li' := []) ⟨(.inl ⟨by omega, by omega, rfl⟩), ⟨(.inl ⟨by omega, by omega, rfl⟩), trivial⟩⟩ trivial
          refine RW.pure tabOk 1 rfl ?_
          refine RW.done ?_
          refine NW.norm_block ?_
          have h24 := (gF1_2.ext x4).turnL x5 ⟨⟨.inl (show (3 : Nat) ≠ 93 by decide), trivial⟩, trivial⟩ trivial
          have h25 := Ext.turn (Ext.trans x0_2 x4) x5 ⟨by omega, trivial⟩
          have h26 := (g0_2.ext x4).turnL x5 (.inr ⟨⟨.inr (.inl (by omega)), trivial⟩, trivial⟩)
          exact NW.J fun a ha => ⟨(lt2_0 ++ [(⟨rd y1 it9_0, 1⟩ : Seg)]), A2, c_2, ha.sub ⟨rfl, rfl, rfl, rfl, trivial⟩, by omega, (h23.sub ⟨(.inl ⟨by omega, trivial, rfl⟩), trivial⟩ trivial), h24, h25, h26, H⟩
      intro a w3 hJ hp
      obtain ⟨lt2_1, At2_1, ct2_1, hS, hle, ft2_1, gF1_1, x0_1, g0_1, H⟩ := hJ
      unfold seg_Set_Segs.j0 at H
      refine CW.go hp hS ?_
      have h27 : Ow kSeg 93 w3.heap (okL [(w1.heap.size, some w3.heap.size, some 93)]) (okL []) At2_1 ct2_1 lt2_1 := ft2_1.close
      refine CW.lex [.W, .W] rfl ?_
      refine RW.pure tabOk 2 rfl ?_
      refine RW.done ?_
      exact NW.J fun a ha => ⟨n1, Nat.lt_succ_self n1, lt2_1, At2_1, ct2_1, (w64 (it9_0 + 1)), ha.sub ⟨rfl, rfl, rfl, rfl, trivial⟩, by omega, (h27.sub ⟨(.inl ⟨by omega, trivial, rfl⟩), trivial⟩ trivial), gF1_1, x0_1, g0_1, H⟩
    · rw [if_neg c1] at H
      refine CW.cond_f rfl (decide_eq_false c1) ?_
      refine CW.exit ?_
      refine NW.exit_then (NW.exit_then (NW.exit_hit ?_))
      refine NW.next ?_
      refine CW.seq ?_
      refine CW.lex [.W, .W] rfl ?_
      refine RW.pure tabOk 2 rfl ?_
      refine RW.done ?_
      refine NW.next ?_
      refine CW.ret ?_
      obtain rfl := Option.some.inj H
      exact NW.ret1 rfl (by rfl) ⟨At2_0, ct2_0, rfl, x0_0, (h6.sub (l' := [(w.heap.size, none, some 93)]) (li' := []) ⟨(.inl ⟨by omega, trivial, rfl⟩), trivial⟩ trivial)⟩

set_option maxHeartbeats 4000000 in
set_option maxRecDepth 100000 in
theorem seg_Join.calls (k : Nat) (A1 : Option Addr) (c_1 : Nat) (p0 : List (List Seg)) (r : (List Seg) × Int) (w : World) (hs1 : Sl (Kd.sl kSeg) w.heap okAll A1 p0) (hl1 : p0.length ≤ c_1) {gT : Nat} (hG : Box w.heap 0 gT (arrI .u8 64 tz)) (H : seg_Join.f k p0 = some r) :
    Calls Tryd.prog 13 #[.slice A1 p0.length c_1] w fun e w' => ∃ (B1 : Option Addr) (d1 : Nat), e = .returned (.tuple #[.slice B1 r.1.length d1, .int .i64 r.2]) ∧ Ext w w' ∧ Ow kSeg 93 w'.heap (okL [(w.heap.size, none, some 93)]) (okL []) B1 d1 r.1 := by
  have h1 : Sl (Kd.sl kSeg) w.heap (okL [(0, some w.heap.size, none)]) A1 p0 := hs1.old _ rfl
  have hG0 : 0 < w.heap.size := hG.lt
  have x0 : Ext w w := Upd.refl _ w
  unfold seg_Join.f at H
  refine calls_start Tryd.func13 rfl 23 rfl [.slice A1 p0.length c_1] rfl ?_
  refine CW.seq ?_
  refine CW.lex [.W, .W] rfl ?_
  refine RW.pure tabOk 2 rfl ?_
  refine RW.done ?_
  refine NW.next ?_
  refine CW.seq ?_
  refine CW.lex [.W] rfl ?_
  refine RW.pure tabOk 1 rfl ?_
  refine RW.done ?_
  refine NW.next ?_
  refine CW.seq ?_
  refine CW.seq ?_
  refine CW.lex [.W, .W, .W] rfl ?_
  refine RW.pure tabOk 3 rfl ?_
  refine RW.done ?_
  refine NW.next ?_
  refine CW.block ?_
  refine CW.loop (fun n1 a w1 => ∃ (it4_0 : Int) (it9_0 : Int), Sat 23 [(4, .int .u64 it4_0), (7, .slice A1 p0.length c_1), (8, .int .i64 (p0.length : Int)), (9, .int .i64 it9_0)] a ∧ w.heap.size ≤ w1.heap.size ∧ Sl (Kd.sl kSeg) w1.heap (okL [(0, some w.heap.size, none)]) A1 p0 ∧ Ext w w1 ∧ Box w1.heap 0 gT (arrI .u8 64 tz) ∧ seg_Join.l0 p0 k n1 it4_0 it9_0 = some r) k ?_ ?_
  · exact fun a ha => ⟨0, 0, ha.sub ⟨rfl, rfl, rfl, rfl, trivial⟩, by omega, h1, x0, hG, H⟩
  intro n1 a w1 hI hp
  obtain ⟨it4_0, it9_0, hS, hle, gF1_0, x0_0, g0_0, H⟩ := hI
  cases n1 with
  | zero => cases H
  | succ n1 =>
    rw [seg_Join.l0] at H
    refine CW.go hp hS ?_
    refine CW.seq ?_
    refine CW.lex [.W] rfl ?_
    refine RW.pure tabOk 1 rfl ?_
    refine RW.done ?_
    refine NW.next ?_
    refine CW.seq ?_
    by_cases c1 : it9_0 < (p0.length : Int)
    · rw [if_pos c1] at H
      refine CW.cond_t rfl (decide_eq_true c1) ?_
      refine CW.skip ?_
      refine NW.next ?_
      refine CW.seq ?_
      refine CW.block ?_
      refine CW.seq ?_
      refine CW.lex [.W, .L, .W] rfl ?_
      obtain ⟨g1, H⟩ := guard_some H
      obtain ⟨ad1, A2, c_2, e1, a1, l1, h2⟩ := sl_at gF1_0 g1.1 g1.2
      refine RW.index tabOk g1.1 g1.2 e1 ⟨rfl, rfl, rfl, rfl⟩ rfl rfl rfl rfl rfl rfl ?_
      refine RW.load tabOk [.slice A2 (rd p0 it9_0).length c_2] a1 ⟨rfl, rfl, rfl, rfl⟩ rfl rfl rfl rfl ?_
      refine RW.pure tabOk 1 rfl ?_
      refine RW.done ?_
      refine NW.next ?_
      refine CW.seq ?_
      refine CW.seq ?_
      refine CW.lex [.W, .X, .W] rfl ?_
      refine RW.pure tabOk 1 rfl ?_
      obtain ⟨y1, h3, H⟩ := bind_some H
      refine RW.callF (.inl rfl) ent51 ⟨rfl, rfl, rfl, rfl⟩ rfl rfl (seg_May.calls k A2 c_2 (rd p0 it9_0) _ _ h2.all l1 h3) ?_
      rintro _ w2 ⟨rfl, x1⟩
      refine ⟨_, rfl, x1, ?_⟩
      have sx1 := x1.size
      refine RW.pure tabOk 1 rfl ?_
      refine RW.done ?_
      refine NW.next ?_
      by_cases c2 : y1 = true
      · rw [if_pos c2] at H
        refine CW.cond_f rfl (not_f (c2)) ?_
        refine CW.skip ?_
        refine NW.next ?_
        refine CW.lex [.W, .W, .X, .W, .W] rfl ?_
        refine RW.pure tabOk 2 rfl ?_
        have h4 := h2.ext x1
        obtain ⟨y2, h5, H⟩ := bind_some H
        refine RW.callF (.inl rfl) ent52 ⟨rfl, rfl, rfl, rfl⟩ rfl rfl (seg_Make.calls k A2 c_2 (rd p0 it9_0) _ _ h4.all l1 h5) ?_
        rintro _ w3 ⟨rfl, x2⟩
        refine ⟨_, rfl, x2, ?_⟩
        have sx2 := x2.size
        refine RW.pure tabOk 2 rfl ?_
        refine RW.done ?_
        refine NW.norm_block (NW.next ?_)
        refine CW.lex [.W, .W] rfl ?_
        refine RW.pure tabOk 2 rfl ?_
        refine RW.done ?_
        have h6 := (gF1_0.ext x1).ext x2
        have h7 := Ext.trans (Ext.trans x0_0 x1) x2
        have h8 := (g0_0.ext x1).ext x2
        exact NW.J fun a ha => ⟨n1, Nat.lt_succ_self n1, (uor it4_0 y2), (w64 (it9_0 + 1)), ha.sub ⟨rfl, rfl, rfl, rfl, trivial⟩, by omega, h6, h7, h8, H⟩
      · rw [if_neg c2] at H
        refine CW.cond_t rfl (not_t (bool_f c2)) ?_
        refine CW.seq ?_
        refine CW.lex [.W, .W] rfl ?_
        refine RW.pure tabOk 2 rfl ?_
        refine RW.done ?_
        refine NW.next ?_
        refine CW.ret ?_
        refine NW.ret_then (NW.ret_block (NW.ret_then (NW.ret_then (NW.ret_block (NW.ret_then ?_)))))
        obtain rfl := Option.some.inj H
        have h9 := Ext.trans x0_0 x1
        exact NW.ret2 rfl (by rfl) (by rfl) ⟨none, 0, rfl, h9, Ow.nil⟩
    · rw [if_neg c1] at H
      refine CW.cond_f rfl (decide_eq_false c1) ?_
      refine CW.exit ?_
      refine NW.exit_then (NW.exit_then (NW.exit_hit ?_))
      refine NW.next ?_
      refine CW.seq ?_
      refine CW.lex [.W, .X, .W, .W] rfl ?_
      refine RW.pure tabOk 1 rfl ?_
      obtain ⟨y3, h10, H⟩ := bind_some H
      refine RW.callF (.inl rfl) ent53 ⟨rfl, rfl, rfl, rfl⟩ rfl rfl (seg_Set_Segs.calls k it4_0 _ _ g0_0 h10) ?_
      rintro _ w4 ⟨A3, c_3, rfl, x3, h11⟩
      refine ⟨_, rfl, x3, ?_⟩
      have sx3 := x3.size
      have h12 : Ow kSeg 93 w4.heap (okL [(w1.heap.size, some w4.heap.size, some 93)]) (okL []) A3 c_3 y3 := h11.close
      refine RW.pure tabOk 2 rfl ?_
      refine RW.done ?_
      refine NW.next ?_
      refine CW.ret ?_
      obtain rfl := Option.some.inj H
      have h13 := Ext.trans x0_0 x3
      exact NW.ret2 rfl (by rfl) (by rfl) ⟨A3, c_3, rfl, h13, (h12.sub (l' := [(w.heap.size, none, some 93)]) (li' := []) ⟨(.inl ⟨by omega, trivial, rfl⟩), trivial⟩ trivial)⟩

set_option maxHeartbeats 4000000 in
set_option maxRecDepth 100000 in
theorem hermitagelaw1_num.calls (p0 : Int) (r : Int) (w : World) (H : hermitagelaw1_num.f p0 = some r) :
    Calls Tryd.prog 14 #[.int .i64 p0] w fun e w' => e = .returned (.int .i64 r) ∧ Ext w w' := by
  have x0 : Ext w w := Upd.refl _ w
  unfold hermitagelaw1_num.f at H
  refine calls_start Tryd.func14 rfl 4 rfl [.int .i64 p0] rfl ?_
  refine CW.seq ?_
  refine CW.lex [.W] rfl ?_
  refine RW.pure tabOk 1 rfl ?_
  refine RW.done ?_
  refine NW.next ?_
  refine CW.seq ?_
  refine CW.lex [.W, .W] rfl ?_
  refine RW.pure tabOk 2 rfl ?_
  refine RW.done ?_
  refine NW.next ?_
  refine CW.ret ?_
  obtain rfl := Option.some.inj H
  exact NW.ret1 rfl (by rfl) ⟨rfl, x0⟩

set_option maxHeartbeats 4000000 in
set_option maxRecDepth 100000 in
theorem hermitageref0_EqSegs.calls (k : Nat) (A1 : Option Addr) (c_1 : Nat) (p0 : List Seg) (A2 : Option Addr) (c_2 : Nat) (p1 : List Seg) (r : Bool) (w : World) (hs1 : Sl kSeg w.heap okAll A1 p0) (hl1 : p0.length ≤ c_1) (hs2 : Sl kSeg w.heap okAll A2 p1) (hl2 : p1.length ≤ c_2) (H : hermitageref0_EqSegs.f k p0 p1 = some r) :
    Calls Tryd.prog 15 #[.slice A1 p0.length c_1, .slice A2 p1.length c_2] w fun e w' => e = .returned (.bool r) ∧ Ext w w' := by
  have h1 : Sl kSeg w.heap (okL [(0, some w.heap.size, none)]) A1 p0 := hs1.old _ rfl
  have h2 : Sl kSeg w.heap (okL [(0, some w.heap.size, none)]) A2 p1 := hs2.old _ rfl
  have x0 : Ext w w := Upd.refl _ w
  unfold hermitageref0_EqSegs.f at H
  refine calls_start Tryd.func15 rfl 26 rfl [.slice A1 p0.length c_1, .slice A2 p1.length c_2] rfl ?_
  refine CW.seq ?_
  refine CW.lex [.W] rfl ?_
  refine RW.pure tabOk 1 rfl ?_
  refine RW.done ?_
  refine NW.next ?_
  refine CW.seq ?_
  refine CW.seq ?_
  refine CW.lex [.W, .W, .W, .W, .W] rfl ?_
  refine RW.pure tabOk 5 rfl ?_
  refine RW.done ?_
  refine NW.next ?_
  by_cases c1 : (p0.length : Int) = (p1.length : Int)
  · rw [if_pos c1] at H
    refine CW.cond_f rfl (bne_f c1) ?_
    refine CW.skip ?_
    refine NW.next ?_
    refine CW.seq ?_
    refine CW.seq ?_
    refine CW.lex [.W] rfl ?_
    refine RW.pure tabOk 1 rfl ?_
    refine RW.done ?_
    refine NW.next ?_
    refine CW.block ?_
    refine CW.loop (fun n1 a w1 => ∃ (it5_0 : Int), Sat 26 [(0, .slice A1 p0.length c_1), (1, .slice A2 p1.length c_2), (5, .int .i64 it5_0)] a ∧ w.heap.size ≤ w1.heap.size ∧ Sl kSeg w1.heap (okL [(0, some w.heap.size, none)]) A1 p0 ∧ Sl kSeg w1.heap (okL [(0, some w.heap.size, none)]) A2 p1 ∧ Ext w w1 ∧ hermitageref0_EqSegs.l0 p0 p1 n1 it5_0 = some r) k ?_ ?_
    · exact fun a ha => ⟨0, ha.sub ⟨rfl, rfl, rfl, trivial⟩, by omega, h1, h2, x0, H⟩
    intro n1 a w1 hI hp
    obtain ⟨it5_0, hS, hle, gF1_0, gF2_0, x0_0, H⟩ := hI
    cases n1 with
    | zero => cases H
    | succ n1 =>
      rw [hermitageref0_EqSegs.l0] at H
      refine CW.go hp hS ?_
      refine CW.seq ?_
      refine CW.seq ?_
      refine CW.lex [.W, .W, .W, .W] rfl ?_
      refine RW.pure tabOk 4 rfl ?_
      refine RW.done ?_
      refine NW.next ?_
      by_cases c2 : it5_0 < (p0.length : Int)
      · rw [if_pos c2] at H
        refine CW.cond_t rfl (decide_eq_true c2) ?_
        refine CW.skip ?_
        refine NW.next ?_
        refine CW.seq ?_
        refine CW.block ?_
        refine CW.seq ?_
        refine CW.ord [0, 0, 3, 7, 0, 0, 48, 112, 255] [(0, .W), (1, .W), (2, .W), (4, .W), (5, .W), (6, .W), (3, .L), (7, .L), (8, .W)] mixed (by kernel_rfl) ?_
        intro w2 x1
        have sx1 := x1.size
        refine RW.pure tabOk 2 rfl ?_
        obtain ⟨g1, H⟩ := guard_some H
        have h3 := gF1_0.ext x1
        obtain ⟨ad1, e1, a1⟩ := kSeg_at h3 g1.1 g1.2
        refine RW.index tabOk g1.1 g1.2 e1 ⟨rfl, rfl, rfl, rfl⟩ rfl rfl rfl rfl rfl rfl ?_
        refine RW.pure tabOk 2 rfl ?_
        obtain ⟨g2, H⟩ := guard_some H
        have h4 := gF2_0.ext x1
        obtain ⟨ad2, e2, a2⟩ := kSeg_at h4 g2.1 g2.2
        refine RW.index tabOk g2.1 g2.2 e2 ⟨rfl, rfl, rfl, rfl⟩ rfl rfl rfl rfl rfl rfl ?_
        refine RW.load tabOk [.int .i64 ((rd p0 it5_0).At), .int .i64 ((rd p0 it5_0).Len)] a1 ⟨rfl, rfl, rfl, rfl⟩ rfl rfl rfl rfl ?_
        refine RW.load tabOk [.int .i64 ((rd p1 it5_0).At), .int .i64 ((rd p1 it5_0).Len)] a2 ⟨rfl, rfl, rfl, rfl⟩ rfl rfl rfl rfl ?_
        refine RW.eqAgg eqgSeg (eqSeg (rd p0 it5_0) (rd p1 it5_0)) ⟨rfl, rfl, rfl, rfl⟩ rfl rfl rfl rfl ?_
        refine RW.done ?_
        refine NW.next ?_
        by_cases c3 : (rd p0 it5_0) = (rd p1 it5_0)
        · rw [if_pos c3] at H
          refine CW.cond_f rfl (not_f (decide_eq_true c3)) ?_
          refine CW.skip ?_
          refine NW.norm_block (NW.next ?_)
          refine CW.lex [.W, .W, .W] rfl ?_
          refine RW.pure tabOk 3 rfl ?_
          refine RW.done ?_
          have h5 := Ext.trans x0_0 x1
          exact NW.J fun a ha => ⟨n1, Nat.lt_succ_self n1, (w64 (it5_0 + 1)), ha.sub ⟨rfl, rfl, rfl, trivial⟩, by omega, h3, h4, h5, H⟩
        · rw [if_neg c3] at H
          refine CW.cond_t rfl (not_t (decide_eq_false c3)) ?_
          refine CW.seq ?_
          refine CW.lex [.W] rfl ?_
          refine RW.pure tabOk 1 rfl ?_
          refine RW.done ?_
          refine NW.next ?_
          refine CW.ret ?_
          refine NW.ret_block (NW.ret_then (NW.ret_then (NW.ret_block (NW.ret_then ?_))))
          obtain rfl := Option.some.inj H
          have h6 := Ext.trans x0_0 x1
          exact NW.ret1 rfl (by rfl) ⟨rfl, h6⟩
      · rw [if_neg c2] at H
        refine CW.cond_f rfl (decide_eq_false c2) ?_
        refine CW.exit ?_
        refine NW.exit_then (NW.exit_then (NW.exit_hit ?_))
        refine NW.next ?_
        refine CW.seq ?_
        refine CW.lex [.W] rfl ?_
        refine RW.pure tabOk 1 rfl ?_
        refine RW.done ?_
        refine NW.next ?_
        refine CW.ret ?_
        obtain rfl := Option.some.inj H
        exact NW.ret1 rfl (by rfl) ⟨rfl, x0_0⟩
  · rw [if_neg c1] at H
    refine CW.cond_t rfl (bne_t c1) ?_
    refine CW.seq ?_
    refine CW.lex [.W] rfl ?_
    refine RW.pure tabOk 1 rfl ?_
    refine RW.done ?_
    refine NW.next ?_
    refine CW.ret ?_
    refine NW.ret_then ?_
    obtain rfl := Option.some.inj H
    exact NW.ret1 rfl (by rfl) ⟨rfl, x0⟩

set_option maxHeartbeats 4000000 in
set_option maxRecDepth 100000 in
theorem hermitagelaw1_wakes.calls (k : Nat)  (r : Bool) (w : World) {gT : Nat} (hG : Box w.heap 0 gT (arrI .u8 64 tz)) (H : hermitagelaw1_wakes.f k = some r) :
    Calls Tryd.prog 16 #[] w fun e w' => e = .returned (.bool r) ∧ Ext w w' := by
  have hG0 : 0 < w.heap.size := hG.lt
  have x0 : Ext w w := Upd.refl _ w
  unfold hermitagelaw1_wakes.f at H
  refine calls_start Tryd.func16 rfl 21 rfl [] rfl ?_
  refine CW.seq ?_
  refine CW.lex [.W] rfl ?_
  refine RW.pure tabOk 1 rfl ?_
  refine RW.done ?_
  refine NW.next ?_
  refine CW.seq ?_
  refine CW.lex [.W, .X, .W, .X, .X, .X, .W, .W, .W, .W, .W] rfl ?_
  refine RW.pure tabOk 1 rfl ?_
  refine RW.buildSlice (cs := [.int .i64 0, .int .i64 2]) tabOk (.inl rfl) ⟨rfl, rfl, rfl, rfl⟩ rfl rfl rfl rfl rfl rfl rfl ?_
  intro b1 w1 x1 l1 h1
  have sx1 := x1.size
  have ltb1 := h1.lt
  refine RW.pure tabOk 1 rfl ?_
  refine RW.buildSlice (cs := [.int .i64 2, .int .i64 2]) tabOk (.inl rfl) ⟨rfl, rfl, rfl, rfl⟩ rfl rfl rfl rfl rfl rfl rfl ?_
  intro b2 w2 x2 l2 h2
  have sx2 := x2.size
  have ltb2 := h2.lt
  refine RW.buildSlice (cs := [.slice (some ⟨b1, 0, none⟩) 1 1, .slice (some ⟨b2, 0, none⟩) 1 1]) tabOk (.inl rfl) ⟨rfl, rfl, rfl, rfl⟩ rfl rfl rfl rfl rfl rfl rfl ?_
  intro b3 w3 x3 l3 h3
  have sx3 := x3.size
  have ltb3 := h3.lt
  have h4 := (h1.ext x2).ext x3
  have h5 : Ow kSeg 93 w3.heap (okL [(w.heap.size, some w1.heap.size, some 93)]) (okL []) (some ⟨b1, 0, none⟩) 1 ([(⟨0, 2⟩ : Seg)] : List Seg) := Ow.of_box h4 (.inl ⟨l1, ltb1, rfl⟩) (Nat.le_of_ble_eq_true rfl) (Ch.cons (d := kSeg) (cs := [.int .i64 0, .int .i64 2]) (x := (⟨0, 2⟩ : Seg)) (kSeg_mk (⟨0, 2⟩ : Seg)) Ch.nil)
  have h6 := h2.ext x3
  have h7 : Ow kSeg 93 w3.heap (okL [(w1.heap.size, some w2.heap.size, some 93)]) (okL []) (some ⟨b2, 0, none⟩) 1 ([(⟨2, 2⟩ : Seg)] : List Seg) := Ow.of_box h6 (.inl ⟨l2, ltb2, rfl⟩) (Nat.le_of_ble_eq_true rfl) (Ch.cons (d := kSeg) (cs := [.int .i64 2, .int .i64 2]) (x := (⟨2, 2⟩ : Seg)) (kSeg_mk (⟨2, 2⟩ : Seg)) Ch.nil)
  have h8 : Ow (Kd.ow kSeg 93) 28 w3.heap (okL [(w2.heap.size, some w3.heap.size, some 28)]) (okL [(w.heap.size, some w1.heap.size, some 93), (w1.heap.size, some w2.heap.size, some 93)]) (some ⟨b3, 0, none⟩) 2 ([([(⟨0, 2⟩ : Seg)] : List Seg), ([(⟨2, 2⟩ : Seg)] : List Seg)] : List (List Seg)) := Ow.of_box h3 (.inl ⟨l3, ltb3, rfl⟩) (Nat.le_of_ble_eq_true rfl) (Ch.cons (d := (Kd.ow kSeg 93)) (cs := [.slice (some ⟨b1, 0, none⟩) ([(⟨0, 2⟩ : Seg)] : List Seg).length 1]) (x := ([(⟨0, 2⟩ : Seg)] : List Seg)) ⟨_, _, rfl, (h5.off h3 ⟨.inl (show (93 : Nat) ≠ 28 by decide), trivial⟩ trivial ⟨(.inl ⟨by omega, by omega, rfl⟩), trivial⟩ trivial)⟩ (Ch.cons (d := (Kd.ow kSeg 93)) (cs := [.slice (some ⟨b2, 0, none⟩) ([(⟨2, 2⟩ : Seg)] : List Seg).length 1]) (x := ([(⟨2, 2⟩ : Seg)] : List Seg)) ⟨_, _, rfl, (h7.off h3 ⟨.inl (show (93 : Nat) ≠ 28 by decide), trivial⟩ trivial ⟨(.inr (.inl ⟨by omega, by omega, rfl⟩)), trivial⟩ trivial)⟩ Ch.nil))
  have h9 := ((hG.ext x1).ext x2).ext x3
  obtain ⟨y1, h10, H⟩ := bind_some H
  refine RW.callF (.inl rfl) ent13 ⟨rfl, rfl, rfl, rfl⟩ rfl rfl (seg_Join.calls k (some ⟨b3, 0, none⟩) 2 ([([(⟨0, 2⟩ : Seg)] : List Seg), ([(⟨2, 2⟩ : Seg)] : List Seg)] : List (List Seg)) _ _ (h8.all.to (ow_sl_rep (fun k => k) rfl) rfl) h8.len h9 h10) ?_
  rintro _ w4 ⟨A1, c_1, rfl, x4, h11⟩
  refine ⟨_, rfl, x4, ?_⟩
  have sx4 := x4.size
  have h12 : Ow kSeg 93 w4.heap (okL [(w3.heap.size, some w4.heap.size, some 93)]) (okL []) A1 c_1 y1.1 := h11.close
  refine RW.pure tabOk 5 rfl ?_
  refine RW.done ?_
  refine NW.next ?_
  refine CW.seq ?_
  refine CW.lex [.W, .X, .W, .W, .W, .W, .X, .X, .W, .W] rfl ?_
  refine RW.pure tabOk 1 rfl ?_
  obtain ⟨y2, h13, H⟩ := bind_some H
  refine RW.callF (.inl rfl) ent14 ⟨rfl, rfl, rfl, rfl⟩ rfl rfl (hermitagelaw1_num.calls y1.2 _ _ h13) ?_
  rintro _ w5 ⟨rfl, x5⟩
  refine ⟨_, rfl, x5, ?_⟩
  have sx5 := x5.size
  refine RW.pure tabOk 2 rfl ?_
  by_cases c1 : y2 = 0
  · rw [if_pos c1] at H
    refine RW.bool 15 (b' := true) (beq_t c1) rfl ?_
    refine RW.pure tabOk 2 rfl ?_
    refine RW.buildSlice (cs := [.int .i64 0, .int .i64 4]) tabOk (.inl rfl) ⟨rfl, rfl, rfl, rfl⟩ rfl rfl rfl rfl rfl rfl rfl ?_
    intro b4 w6 x6 l4 h14
    have sx6 := x6.size
    have ltb4 := h14.lt
    have h15 := (h12.ext x5).ext x6
    have h16 : Ow kSeg 93 w6.heap (okL [(w5.heap.size, some w6.heap.size, some 93)]) (okL []) (some ⟨b4, 0, none⟩) 1 ([(⟨0, 4⟩ : Seg)] : List Seg) := Ow.of_box h14 (.inl ⟨l4, ltb4, rfl⟩) (Nat.le_of_ble_eq_true rfl) (Ch.cons (d := kSeg) (cs := [.int .i64 0, .int .i64 4]) (x := (⟨0, 4⟩ : Seg)) (kSeg_mk (⟨0, 4⟩ : Seg)) Ch.nil)
    obtain ⟨y3, h17, H⟩ := bind_some H
    refine RW.callF (.inl rfl) ent15 ⟨rfl, rfl, rfl, rfl⟩ rfl rfl (hermitageref0_EqSegs.calls k A1 c_1 y1.1 (some ⟨b4, 0, none⟩) 1 ([(⟨0, 4⟩ : Seg)] : List Seg) _ _ h15.all h15.len h16.all h16.len h17) ?_
    rintro _ w7 ⟨rfl, x7⟩
    refine ⟨_, rfl, x7, ?_⟩
    have sx7 := x7.size
    refine RW.pure tabOk 2 rfl ?_
    refine RW.done ?_
    refine NW.next ?_
    refine CW.ret ?_
    obtain rfl := Option.some.inj H
    have h18 := Ext.trans (Ext.trans (Ext.trans (Ext.trans (Ext.trans (Ext.trans (Ext.trans x0 x1) x2) x3) x4) x5) x6) x7
    exact NW.ret1 rfl (by rfl) ⟨rfl, h18⟩
  · rw [if_neg c1] at H
    refine RW.bool 15 (b' := false) (beq_f c1) rfl ?_
    refine RW.pure tabOk 6 rfl ?_
    refine RW.done ?_
    refine NW.next ?_
    refine CW.ret ?_
    obtain rfl := Option.some.inj H
    have h19 := Ext.trans (Ext.trans (Ext.trans (Ext.trans (Ext.trans x0 x1) x2) x3) x4) x5
    exact NW.ret1 rfl (by rfl) ⟨rfl, h19⟩

set_option maxHeartbeats 4000000 in
set_option maxRecDepth 100000 in
theorem hermitagelaw1_SegMany.calls (k : Nat) (p0 : hermitagelaw1Ask) (A1 : Option Addr) (c_1 : Nat) (A2 : Option Addr) (c_2 : Nat) (r : Bool) (w : World) (hs1 : Sl (Kd.sl kSeg) w.heap okAll A1 p0.L) (hl1 : p0.L.length ≤ c_1) (hs2 : Sl (Kd.int .i64) w.heap okAll A2 p0.N) (hl2 : p0.N.length ≤ c_2) {gT : Nat} (hG : Box w.heap 0 gT (arrI .u8 64 tz)) (H : hermitagelaw1_SegMany.f k p0 = some r) :
    Calls Tryd.prog 3 #[.agg #[.slice A1 p0.L.length c_1, .slice A2 p0.N.length c_2]] w fun e w' => e = .returned (.bool r) ∧ Ext w w' := by
  have h1 : Sl (Kd.sl kSeg) w.heap (okL [(0, some w.heap.size, none)]) A1 p0.L := hs1.old _ rfl
  have h2 : Sl (Kd.int .i64) w.heap (okL [(0, some w.heap.size, none)]) A2 p0.N := hs2.old _ rfl
  have hG0 : 0 < w.heap.size := hG.lt
  have x0 : Ext w w := Upd.refl _ w
  unfold hermitagelaw1_SegMany.f at H
  refine calls_start Tryd.func3 rfl 95 rfl [.agg #[.slice A1 p0.L.length c_1, .slice A2 p0.N.length c_2]] rfl ?_
  refine CW.seq ?_
  refine CW.lex [.X, .W] rfl ?_
  refine RW.box (cs := [.slice A1 p0.L.length c_1, .slice A2 p0.N.length c_2]) (.inl rfl) ⟨rfl, rfl, rfl, rfl⟩ rfl rfl rfl ?_
  intro b1 w1 x1 l1 h3
  have sx1 := x1.size
  have ltb1 := h3.lt
  refine RW.pure tabOk 1 rfl ?_
  refine RW.done ?_
  refine NW.next ?_
  refine CW.seq ?_
  refine CW.seq ?_
  refine CW.lex [.L, .X] rfl ?_
  refine RW.load tabOk [.slice A1 p0.L.length c_1, .slice A2 p0.N.length c_2] (h3.at 0) ⟨rfl, rfl, rfl, rfl⟩ rfl rfl rfl rfl ?_
  have h4 := h1.ext x1
  have h5 := h2.ext x1
  obtain ⟨y1, h6, H⟩ := bind_some H
  refine RW.callF (.inl rfl) ent11 ⟨rfl, rfl, rfl, rfl⟩ rfl rfl (hermitagelaw1_Heavy.calls k p0 A1 c_1 A2 c_2 _ _ h4.all hl1 h5.all hl2 h6) ?_
  rintro _ w2 ⟨rfl, x2⟩
  refine ⟨_, rfl, x2, ?_⟩
  have sx2 := x2.size
  refine RW.done ?_
  refine NW.next ?_
  by_cases c1 : y1 = true
  · rw [if_pos c1] at H
    refine CW.cond_t rfl (c1) ?_
    refine CW.seq ?_
    refine CW.lex [.W] rfl ?_
    refine RW.pure tabOk 1 rfl ?_
    refine RW.done ?_
    refine NW.next ?_
    refine CW.ret ?_
    refine NW.ret_then ?_
    obtain rfl := Option.some.inj H
    have h7 := Ext.trans (Ext.trans x0 x1) x2
    exact NW.ret1 rfl (by rfl) ⟨rfl, h7⟩
  · rw [if_neg c1] at H
    refine CW.cond_f rfl (bool_f c1) ?_
    refine CW.skip ?_
    refine NW.next ?_
    refine CW.seq ?_
    refine CW.lex [.W] rfl ?_
    refine RW.pure tabOk 1 rfl ?_
    refine RW.done ?_
    refine NW.next ?_
    refine CW.seq ?_
    refine CW.seq ?_
    refine CW.lex [.W] rfl ?_
    refine RW.pure tabOk 1 rfl ?_
    refine RW.done ?_
    refine NW.next ?_
    refine CW.block ?_
    refine CW.loop (fun n1 a w3 => ∃ (lt3_0 : List (List Seg)) (At3_0 : Option Addr) (ct3_0 : Nat) (it4_0 : Int), Sat 95 [(1, .pointer (some ⟨b1, 0, none⟩)), (3, .slice At3_0 lt3_0.length ct3_0), (4, .int .i64 it4_0)] a ∧ w2.heap.size ≤ w3.heap.size ∧ Ow (Kd.sl kSeg) 28 w3.heap (okL [(w2.heap.size, none, some 28)]) (okL [(w2.heap.size, none, some 93), (0, some w2.heap.size, none)]) At3_0 ct3_0 lt3_0 ∧ Sl (Kd.sl kSeg) w3.heap (okL [(0, some w.heap.size, none)]) A1 p0.L ∧ Sl (Kd.int .i64) w3.heap (okL [(0, some w.heap.size, none)]) A2 p0.N ∧ Ext w w3 ∧ Box w3.heap b1 25 [.slice A1 p0.L.length c_1, .slice A2 p0.N.length c_2] ∧ Box w3.heap 0 gT (arrI .u8 64 tz) ∧ hermitagelaw1_SegMany.l0 p0 k n1 lt3_0 it4_0 = some r) k ?_ ?_
    have h8 := h4.ext x2
    have h9 := h5.ext x2
    have h10 := Ext.trans (Ext.trans x0 x1) x2
    have h11 := h3.ext x2
    have h12 := (hG.ext x1).ext x2
    · exact fun a ha => ⟨([] : List (List Seg)), none, 0, 0, ha.sub ⟨rfl, rfl, rfl, trivial⟩, by omega, Ow.nil, h8, h9, h10, h11, h12, H⟩
    intro n1 a w3 hI hp
    obtain ⟨lt3_0, At3_0, ct3_0, it4_0, hS, hle, ft3_0, gF1_0, gF2_0, x0_0, gb1_0, g0_0, H⟩ := hI
    cases n1 with
    | zero => cases H
    | succ n1 =>
      rw [hermitagelaw1_SegMany.l0] at H
      refine CW.go hp hS ?_
      have h13 : Ow (Kd.sl kSeg) 28 w3.heap (okL [(w2.heap.size, some w3.heap.size, some 28)]) (okL [(w2.heap.size, some w3.heap.size, some 93), (0, some w2.heap.size, none)]) At3_0 ct3_0 lt3_0 := ft3_0.close
      refine CW.seq ?_
      refine CW.seqJ (fun a w4 => ∃ (bt23_1 : Bool), Sat 95 [(1, .pointer (some ⟨b1, 0, none⟩)), (3, .slice At3_0 lt3_0.length ct3_0), (4, .int .i64 it4_0), (23, .bool bt23_1)] a ∧ w3.heap.size ≤ w4.heap.size ∧ Sl (Kd.sl kSeg) w4.heap (okL [(0, some w.heap.size, none)]) A1 p0.L ∧ Sl (Kd.int .i64) w4.heap (okL [(0, some w.heap.size, none)]) A2 p0.N ∧ Ow (Kd.sl kSeg) 28 w4.heap (okL [(w2.heap.size, some w3.heap.size, some 28)]) (okL [(w2.heap.size, some w3.heap.size, some 93), (0, some w2.heap.size, none)]) At3_0 ct3_0 lt3_0 ∧ Ext w w4 ∧ Box w4.heap b1 25 [.slice A1 p0.L.length c_1, .slice A2 p0.N.length c_2] ∧ Box w4.heap 0 gT (arrI .u8 64 tz) ∧ hermitagelaw1_SegMany.j0 p0 k lt3_0 it4_0 (hermitagelaw1_SegMany.l0 p0 k n1) bt23_1 = some r) ?_ ?_
      ·
        refine CW.lex [.W, .W, .L, .W, .W, .W, .W, .W, .W] rfl ?_
        refine RW.pure tabOk 2 rfl ?_
        refine RW.load tabOk [.slice A1 p0.L.length c_1] ((gb1_0.at 0).take 1 rfl) ⟨rfl, rfl, rfl, rfl⟩ rfl rfl rfl rfl ?_
        refine RW.pure tabOk 3 rfl ?_
        by_cases c2 : it4_0 < (p0.L.length : Int)
        · rw [if_pos c2] at H
          refine RW.bool 20 (b' := true) (decide_eq_true c2) rfl ?_
          refine RW.pure tabOk 3 rfl ?_
          refine RW.done ?_
          exact NW.J fun a ha => ⟨(decide (it4_0 < 8)), ha.sub ⟨rfl, rfl, rfl, rfl, trivial⟩, by omega, gF1_0, gF2_0, h13, x0_0, gb1_0, g0_0, H⟩
        · rw [if_neg c2] at H
          refine RW.bool 20 (b' := false) (decide_eq_false c2) rfl ?_
          refine RW.pure tabOk 3 rfl ?_
          refine RW.done ?_
          exact NW.J fun a ha => ⟨false, ha.sub ⟨rfl, rfl, rfl, rfl, trivial⟩, by omega, gF1_0, gF2_0, h13, x0_0, gb1_0, g0_0, H⟩
      intro a w4 hJ hp
      obtain ⟨bt23_1, hS, hle, gF1_1, gF2_1, gL0_t3_1, x0_1, gb1_1, g0_1, H⟩ := hJ
      unfold hermitagelaw1_SegMany.j0 at H
      refine CW.go hp hS ?_
      by_cases c3 : bt23_1 = true
      · rw [if_pos c3] at H
        refine CW.cond_t rfl (c3) ?_
        refine CW.skip ?_
        refine NW.next ?_
        refine CW.seqJ (fun a w5 => ∃ (lt3_2 : List (List Seg)) (At3_2 : Option Addr) (ct3_2 : Nat), Sat 95 [(1, .pointer (some ⟨b1, 0, none⟩)), (3, .slice At3_2 lt3_2.length ct3_2), (4, .int .i64 it4_0)] a ∧ w4.heap.size ≤ w5.heap.size ∧ Ow (Kd.sl kSeg) 28 w5.heap (okL [(w2.heap.size, none, some 28)]) (okL [(w2.heap.size, none, some 93), (0, some w2.heap.size, none)]) At3_2 ct3_2 lt3_2 ∧ Sl (Kd.sl kSeg) w5.heap (okL [(0, some w.heap.size, none)]) A1 p0.L ∧ Sl (Kd.int .i64) w5.heap (okL [(0, some w.heap.size, none)]) A2 p0.N ∧ Ext w w5 ∧ Box w5.heap b1 25 [.slice A1 p0.L.length c_1, .slice A2 p0.N.length c_2] ∧ Box w5.heap 0 gT (arrI .u8 64 tz) ∧ hermitagelaw1_SegMany.j1 it4_0 (hermitagelaw1_SegMany.l0 p0 k n1) lt3_2 = some r) ?_ ?_
        ·
          refine CW.block ?_
          refine CW.seq ?_
          refine CW.lex [.W, .L, .W, .W, .L, .X] rfl ?_
          refine RW.pure tabOk 1 rfl ?_
          refine RW.load tabOk [.slice A1 p0.L.length c_1] ((gb1_1.at 0).take 1 rfl) ⟨rfl, rfl, rfl, rfl⟩ rfl rfl rfl rfl ?_
          refine RW.pure tabOk 1 rfl ?_
          obtain ⟨g1, H⟩ := guard_some H
          obtain ⟨ad1, A3, c_3, e1, a1, l2, h14⟩ := sl_at gF1_1 g1.1 g1.2
          refine RW.index tabOk g1.1 g1.2 e1 ⟨rfl, rfl, rfl, rfl⟩ rfl rfl rfl rfl rfl rfl ?_
          refine RW.load tabOk [.slice A3 (rd p0.L it4_0).length c_3] a1 ⟨rfl, rfl, rfl, rfl⟩ rfl rfl rfl rfl ?_
          obtain ⟨y2, h15, H⟩ := bind_some H
          refine RW.callF (.inl rfl) ent12 ⟨rfl, rfl, rfl, rfl⟩ rfl rfl (hermitageref1_Segs.calls k A3 c_3 (rd p0.L it4_0) _ _ h14.all l2 h15) ?_
          rintro _ w6 ⟨rfl, x3⟩
          refine ⟨_, rfl, x3, ?_⟩
          have sx3 := x3.size
          refine RW.done ?_
          refine NW.next ?_
          by_cases c4 : y2 = true
          · rw [if_pos c4] at H
            refine CW.cond_t rfl (c4) ?_
            refine CW.lex [.W, .W, .L, .W, .W, .L, .X, .M, .W] rfl ?_
            refine RW.pure tabOk 2 rfl ?_
            have h16 := gb1_1.ext x3
            refine RW.load tabOk [.slice A1 p0.L.length c_1] ((h16.at 0).take 1 rfl) ⟨rfl, rfl, rfl, rfl⟩ rfl rfl rfl rfl ?_
            refine RW.pure tabOk 1 rfl ?_
            obtain ⟨g2, H⟩ := guard_some H
            have h17 := gF1_1.ext x3
            obtain ⟨ad2, A4, c_4, e2, a2, l3, h18⟩ := sl_at h17 g2.1 g2.2
            refine RW.index tabOk g2.1 g2.2 e2 ⟨rfl, rfl, rfl, rfl⟩ rfl rfl rfl rfl rfl rfl ?_
            refine RW.load tabOk [.slice A4 (rd p0.L it4_0).length c_4] a2 ⟨rfl, rfl, rfl, rfl⟩ rfl rfl rfl rfl ?_
            refine RW.buildSlice (cs := [.slice A4 (rd p0.L it4_0).length c_4]) tabOk (.inl rfl) ⟨rfl, rfl, rfl, rfl⟩ rfl rfl rfl rfl rfl rfl rfl ?_
            intro b2 w7 x4 l4 h19
            have sx4 := x4.size
            have ltb2 := h19.lt
            have h20 := (gL0_t3_1.ext x3).ext x4
            have h21 := h18.ext x4
            obtain ⟨g3, H⟩ := guard_some H
            refine RW.append1L (d := (Kd.sl kSeg)) (v := (rd p0.L it4_0)) (l := [(w2.heap.size, some w3.heap.size, some 28)]) (li := [(w2.heap.size, some w3.heap.size, some 93), (0, some w2.heap.size, none)]) (ly := [(0, some w.heap.size, none)]) (xs := lt3_0) tabOk h20 h19 ⟨_, _, rfl, l3, (Sl.sub (l' := [(0, some w.heap.size, none)]) h21 ⟨(.inl ⟨by omega, by omega, trivial⟩), trivial⟩)⟩ ⟨⟨.inr (.inl (by omega)), trivial⟩, trivial⟩ (by simp only [maxLen]; omega) g3 ⟨rfl, rfl, rfl, rfl⟩ rfl rfl rfl rfl rfl rfl rfl ?_
            intro A5 c_5 w8 x5 h22
            have sx5 := x5.size
            have h23 := h22.close.sub (l' := [(w2.heap.size, some w8.heap.size, some 28)]) (li' := [(w2.heap.size, some w3.heap.size, some 93), (0, some w2.heap.size, none)]) ⟨(.inl ⟨by omega, by omega, rfl⟩), ⟨(.inl ⟨by omega, by omega, rfl⟩), trivial⟩⟩ ⟨(.inl ⟨by omega, by omega, rfl⟩), ⟨(.inr (.inl ⟨by omega, by omega, trivial⟩)), ⟨(.inr (.inl ⟨by omega, by omega, trivial⟩)), trivial⟩⟩⟩
            refine RW.pure tabOk 1 rfl ?_
            refine RW.done ?_
            refine NW.norm_block ?_
            have h24 := (h17.ext x4).turnL x5 ⟨⟨.inr (.inl (by omega)), trivial⟩, trivial⟩
            have h25 := ((gF2_1.ext x3).ext x4).turnL x5 ⟨⟨.inr (.inl (by omega)), trivial⟩, trivial⟩
            have h26 := Ext.turn (Ext.trans (Ext.trans x0_1 x3) x4) x5 ⟨by omega, trivial⟩
            have h27 := (h16.ext x4).turnL x5 (.inl (by decide))
            have h28 := ((g0_1.ext x3).ext x4).turnL x5 (.inr ⟨⟨.inr (.inl (by omega)), trivial⟩, trivial⟩)
            exact NW.J fun a ha => ⟨(lt3_0 ++ [(rd p0.L it4_0)]), A5, c_5, ha.sub ⟨rfl, rfl, rfl, trivial⟩, by omega, (h23.sub ⟨(.inl ⟨by omega, trivial, rfl⟩), trivial⟩ ⟨(.inl ⟨by omega, trivial, rfl⟩), ⟨(.inr (.inl ⟨by omega, by omega, trivial⟩)), trivial⟩⟩), h24, h25, h26, h27, h28, H⟩
          · rw [if_neg c4] at H
            refine CW.cond_f rfl (bool_f c4) ?_
            refine CW.skip ?_
            refine NW.norm_block ?_
            have h29 := gL0_t3_1.ext x3
            have h30 := gF1_1.ext x3
            have h31 := gF2_1.ext x3
            have h32 := Ext.trans x0_1 x3
            have h33 := gb1_1.ext x3
            have h34 := g0_1.ext x3
            exact NW.J fun a ha => ⟨lt3_0, At3_0, ct3_0, ha.sub ⟨rfl, rfl, rfl, trivial⟩, by omega, (h29.sub ⟨(.inl ⟨by omega, trivial, rfl⟩), trivial⟩ ⟨(.inl ⟨by omega, trivial, rfl⟩), ⟨(.inr (.inl ⟨by omega, by omega, trivial⟩)), trivial⟩⟩), h30, h31, h32, h33, h34, H⟩
        intro a w5 hJ hp
        obtain ⟨lt3_2, At3_2, ct3_2, hS, hle, ft3_2, gF1_2, gF2_2, x0_2, gb1_2, g0_2, H⟩ := hJ
        unfold hermitagelaw1_SegMany.j1 at H
        refine CW.go hp hS ?_
        have h35 : Ow (Kd.sl kSeg) 28 w5.heap (okL [(w2.heap.size, some w5.heap.size, some 28)]) (okL [(w2.heap.size, some w5.heap.size, some 93), (0, some w2.heap.size, none)]) At3_2 ct3_2 lt3_2 := ft3_2.close
        refine CW.lex [.W, .W, .W] rfl ?_
        refine RW.pure tabOk 3 rfl ?_
        refine RW.done ?_
        exact NW.J fun a ha => ⟨n1, Nat.lt_succ_self n1, lt3_2, At3_2, ct3_2, (w64 (it4_0 + 1)), ha.sub ⟨rfl, rfl, rfl, trivial⟩, by omega, (h35.sub ⟨(.inl ⟨by omega, trivial, rfl⟩), trivial⟩ ⟨(.inl ⟨by omega, trivial, rfl⟩), ⟨(.inr (.inl ⟨by omega, by omega, trivial⟩)), trivial⟩⟩), gF1_2, gF2_2, x0_2, gb1_2, g0_2, H⟩
      · rw [if_neg c3] at H
        refine CW.cond_f rfl (bool_f c3) ?_
        refine CW.exit ?_
        refine NW.exit_then (NW.exit_then (NW.exit_hit ?_))
        refine NW.next ?_
        refine CW.seq ?_
        refine CW.lex [.W, .X, .W, .W, .W, .W, .W] rfl ?_
        refine RW.pure tabOk 1 rfl ?_
        obtain ⟨y3, h36, H⟩ := bind_some H
        refine RW.callF (.inl rfl) ent13 ⟨rfl, rfl, rfl, rfl⟩ rfl rfl (seg_Join.calls k At3_0 ct3_0 lt3_0 _ _ gL0_t3_1.all gL0_t3_1.len g0_1 h36) ?_
        rintro _ w9 ⟨A6, c_6, rfl, x6, h37⟩
        refine ⟨_, rfl, x6, ?_⟩
        have sx6 := x6.size
        have h38 : Ow kSeg 93 w9.heap (okL [(w4.heap.size, some w9.heap.size, some 93)]) (okL []) A6 c_6 y3.1 := h37.close
        refine RW.pure tabOk 5 rfl ?_
        refine RW.done ?_
        refine NW.next ?_
        refine CW.seq ?_
        refine CW.lex [.X, .W, .M, .W, .M, .X, .W, .W, .W, .W, .W] rfl ?_
        refine RW.buildSlice (cs := []) tabOk (.inl rfl) ⟨rfl, rfl, rfl, rfl⟩ rfl rfl rfl rfl rfl rfl rfl ?_
        intro b3 w10 x7 l5 h39
        have sx7 := x7.size
        have ltb3 := h39.lt
        refine RW.pure tabOk 1 rfl ?_
        have h40 := (gL0_t3_1.ext x6).ext x7
        obtain ⟨y4, h41, h42⟩ := Ow.ch h40
        obtain ⟨g4, H⟩ := guard_some H
        refine RW.appendL (d := (Kd.sl kSeg)) (l := []) (li := []) (ly := [(w2.heap.size, some w3.heap.size, some 93), (0, some w2.heap.size, none)]) (xs := ([] : List (List Seg))) (ys := lt3_0) tabOk Ow.nil h41 h42 ⟨trivial, ⟨trivial, trivial⟩⟩ (by simp only [maxLen]; omega) g4 ⟨rfl, rfl, rfl, rfl⟩ rfl rfl rfl rfl rfl rfl rfl rfl ?_
        intro A7 c_7 w11 x8 h43
        have sx8 := x8.size
        have h44 := h43.close.sub (l' := [(w10.heap.size, some w11.heap.size, some 28)]) (li' := [(w2.heap.size, some w3.heap.size, some 93), (0, some w2.heap.size, none)]) ⟨(.inl ⟨by omega, by omega, rfl⟩), trivial⟩ ⟨(.inl ⟨by omega, by omega, rfl⟩), ⟨(.inr (.inl ⟨by omega, by omega, trivial⟩)), trivial⟩⟩
        refine RW.pure tabOk 1 rfl ?_
        have h45 := h40.turnL x8 ⟨trivial, trivial⟩ ⟨trivial, ⟨trivial, trivial⟩⟩
        obtain ⟨y5, h46, h47⟩ := Ow.ch h45
        obtain ⟨g5, H⟩ := guard_some H
        refine RW.appendL (d := (Kd.sl kSeg)) (l := [(w10.heap.size, some w11.heap.size, some 28)]) (li := [(w2.heap.size, some w3.heap.size, some 93), (0, some w2.heap.size, none)]) (ly := [(w2.heap.size, some w3.heap.size, some 93), (0, some w2.heap.size, none)]) (xs := (([] : List (List Seg)) ++ lt3_0)) (ys := lt3_0) tabOk h44 h46 h47 ⟨⟨.inl (show (93 : Nat) ≠ 28 by decide), trivial⟩, ⟨⟨.inr (.inl (by omega)), trivial⟩, trivial⟩⟩ (by simp only [maxLen]; omega) g5 ⟨rfl, rfl, rfl, rfl⟩ rfl rfl rfl rfl rfl rfl rfl rfl ?_
        intro A8 c_8 w12 x9 h48
        have sx9 := x9.size
        have h49 := h48.close.sub (l' := [(w10.heap.size, some w12.heap.size, some 28)]) (li' := [(w2.heap.size, some w3.heap.size, some 93), (0, some w2.heap.size, none)]) ⟨(.inl ⟨by omega, by omega, rfl⟩), ⟨(.inl ⟨by omega, by omega, rfl⟩), trivial⟩⟩ ⟨(.inl ⟨by omega, by omega, rfl⟩), ⟨(.inr (.inl ⟨by omega, by omega, trivial⟩)), ⟨(.inl ⟨by omega, by omega, rfl⟩), ⟨(.inr (.inl ⟨by omega, by omega, trivial⟩)), trivial⟩⟩⟩⟩
        have h50 := (((g0_1.ext x6).ext x7).turnL x8 (.inr ⟨trivial, trivial⟩)).turnL x9 (.inr ⟨⟨.inr (.inl (by omega)), trivial⟩, trivial⟩)
        obtain ⟨y6, h51, H⟩ := bind_some H
        refine RW.callF (.inl rfl) ent13 ⟨rfl, rfl, rfl, rfl⟩ rfl rfl (seg_Join.calls k A8 c_8 ((([] : List (List Seg)) ++ lt3_0) ++ lt3_0) _ _ h49.all h49.len h50 h51) ?_
        rintro _ w13 ⟨A9, c_9, rfl, x10, h52⟩
        refine ⟨_, rfl, x10, ?_⟩
        have sx10 := x10.size
        have h53 : Ow kSeg 93 w13.heap (okL [(w12.heap.size, some w13.heap.size, some 93)]) (okL []) A9 c_9 y6.1 := h52.close
        refine RW.pure tabOk 5 rfl ?_
        refine RW.done ?_
        refine NW.next ?_
        refine CW.seq ?_
        refine CW.lex [.W] rfl ?_
        refine RW.pure tabOk 1 rfl ?_
        refine RW.done ?_
        refine NW.next ?_
        refine CW.seq ?_
        refine CW.seq ?_
        refine CW.lex [.W] rfl ?_
        refine RW.pure tabOk 1 rfl ?_
        refine RW.done ?_
        refine NW.next ?_
        refine CW.block ?_
        refine CW.loop (fun n2 a w14 => ∃ (lt9_3 : List Seg) (At9_3 : Option Addr) (ct9_3 : Nat) (it10_3 : Int), Sat 95 [(3, .slice At3_0 lt3_0.length ct3_0), (5, .slice A6 y3.1.length c_6), (6, .int .i64 y3.2), (7, .slice A9 y6.1.length c_9), (8, .int .i64 y6.2), (9, .slice At9_3 lt9_3.length ct9_3), (10, .int .i64 it10_3)] a ∧ w13.heap.size ≤ w14.heap.size ∧ Ow kSeg 93 w14.heap (okL [(w13.heap.size, none, some 93)]) (okL []) At9_3 ct9_3 lt9_3 ∧ Ow (Kd.sl kSeg) 28 w14.heap (okL [(w2.heap.size, some w3.heap.size, some 28)]) (okL [(w2.heap.size, some w3.heap.size, some 93), (0, some w2.heap.size, none)]) At3_0 ct3_0 lt3_0 ∧ Ow kSeg 93 w14.heap (okL [(w4.heap.size, some w9.heap.size, some 93)]) (okL []) A6 c_6 y3.1 ∧ Ow kSeg 93 w14.heap (okL [(w12.heap.size, some w13.heap.size, some 93)]) (okL []) A9 c_9 y6.1 ∧ Ext w w14 ∧ Box w14.heap 0 gT (arrI .u8 64 tz) ∧ hermitagelaw1_SegMany.l1 k lt3_0 y3 y6 n2 lt9_3 it10_3 = some r) k ?_ ?_
        have h54 := (h45.turnL x9 ⟨⟨.inr (.inl (by omega)), trivial⟩, trivial⟩ ⟨⟨.inl (show (93 : Nat) ≠ 28 by decide), trivial⟩, ⟨⟨.inr (.inl (by omega)), trivial⟩, trivial⟩⟩).ext x10
        have h55 := (((h38.ext x7).turnL x8 ⟨trivial, trivial⟩ trivial).turnL x9 ⟨⟨.inl (show (93 : Nat) ≠ 28 by decide), trivial⟩, trivial⟩ trivial).ext x10
        have h56 := Ext.trans (Ext.turn (Ext.turn (Ext.trans (Ext.trans x0_1 x6) x7) x8 trivial) x9 ⟨by omega, trivial⟩) x10
        have h57 := h50.ext x10
        · exact fun a ha => ⟨([] : List Seg), none, 0, 0, ha.sub ⟨rfl, rfl, rfl, rfl, rfl, rfl, rfl, trivial⟩, by omega, Ow.nil, h54, h55, h53, h56, h57, H⟩
        intro n2 a w14 hI hp
        obtain ⟨lt9_3, At9_3, ct9_3, it10_3, hS, hle, ft9_3, gL0_t3_3, gF6_3, gF9_3, x0_3, g0_3, H⟩ := hI
        cases n2 with
        | zero => cases H
        | succ n2 =>
          rw [hermitagelaw1_SegMany.l1] at H
          refine CW.go hp hS ?_
          have h58 : Ow kSeg 93 w14.heap (okL [(w13.heap.size, some w14.heap.size, some 93)]) (okL []) At9_3 ct9_3 lt9_3 := ft9_3.close
          refine CW.seq ?_
          refine CW.seq ?_
          refine CW.lex [.W, .W, .W, .W] rfl ?_
          refine RW.pure tabOk 4 rfl ?_
          refine RW.done ?_
          refine NW.next ?_
          by_cases c5 : it10_3 < (lt3_0.length : Int)
          · rw [if_pos c5] at H
            refine CW.cond_t rfl (decide_eq_true c5) ?_
            refine CW.skip ?_
            refine NW.next ?_
            refine CW.seq ?_
            refine CW.block ?_
            refine CW.seq ?_
            refine CW.lex [.W, .W, .W, .W, .L, .X, .X, .W, .W, .W, .W, .W] rfl ?_
            refine RW.pure tabOk 3 rfl ?_
            obtain ⟨g6, H⟩ := guard_some H
            obtain ⟨ad3, A10, c_10, e3, a3, l6, h59⟩ := sl_ato gL0_t3_3 g6.1 g6.2
            refine RW.index tabOk g6.1 g6.2 e3 ⟨rfl, rfl, rfl, rfl⟩ rfl rfl rfl rfl rfl rfl ?_
            refine RW.load tabOk [.slice A10 (rd lt3_0 it10_3).length c_10] a3 ⟨rfl, rfl, rfl, rfl⟩ rfl rfl rfl rfl ?_
            refine RW.buildSlice (cs := [.slice At9_3 lt9_3.length ct9_3, .slice A10 (rd lt3_0 it10_3).length c_10]) tabOk (.inl rfl) ⟨rfl, rfl, rfl, rfl⟩ rfl rfl rfl rfl rfl rfl rfl ?_
            intro b4 w15 x11 l7 h60
            have sx11 := x11.size
            have ltb4 := h60.lt
            have h61 := h59.ext x11
            have h62 := h58.ext x11
            have h63 : Ow (Kd.sl kSeg) 28 w15.heap (okL [(w14.heap.size, some w15.heap.size, some 28)]) (okL [(w13.heap.size, some w14.heap.size, some 93), (w2.heap.size, some w3.heap.size, some 93), (0, some w2.heap.size, none)]) (some ⟨b4, 0, none⟩) 2 ([lt9_3, (rd lt3_0 it10_3)] : List (List Seg)) := Ow.of_box h60 (.inl ⟨l7, ltb4, rfl⟩) (Nat.le_of_ble_eq_true rfl) (Ch.cons (d := (Kd.sl kSeg)) (cs := [.slice At9_3 lt9_3.length ct9_3]) (x := lt9_3) ⟨_, _, rfl, h62.len, (Sl.off h62.slL h60 ⟨.inl (show (93 : Nat) ≠ 28 by decide), trivial⟩ ⟨(.inl ⟨by omega, by omega, rfl⟩), trivial⟩)⟩ (Ch.cons (d := (Kd.sl kSeg)) (cs := [.slice A10 (rd lt3_0 it10_3).length c_10]) (x := (rd lt3_0 it10_3)) ⟨_, _, rfl, l6, (Sl.off h61 h60 ⟨.inl (show (93 : Nat) ≠ 28 by decide), ⟨.inr (by omega), trivial⟩⟩ ⟨(.inr (.inl ⟨by omega, by omega, rfl⟩)), ⟨(.inr (.inr (.inl ⟨by omega, by omega, trivial⟩))), trivial⟩⟩)⟩ Ch.nil))
            have h64 := g0_3.ext x11
            obtain ⟨y7, h65, H⟩ := bind_some H
            refine RW.callF (.inl rfl) ent13 ⟨rfl, rfl, rfl, rfl⟩ rfl rfl (seg_Join.calls k (some ⟨b4, 0, none⟩) 2 ([lt9_3, (rd lt3_0 it10_3)] : List (List Seg)) _ _ h63.all h63.len h64 h65) ?_
            rintro _ w16 ⟨A11, c_11, rfl, x12, h66⟩
            refine ⟨_, rfl, x12, ?_⟩
            have sx12 := x12.size
            have h67 : Ow kSeg 93 w16.heap (okL [(w15.heap.size, some w16.heap.size, some 93)]) (okL []) A11 c_11 y7.1 := h66.close
            refine RW.pure tabOk 5 rfl ?_
            refine RW.done ?_
            refine NW.next ?_
            refine CW.seq ?_
            refine CW.seq ?_
            refine CW.lex [.W, .X, .W] rfl ?_
            refine RW.pure tabOk 1 rfl ?_
            obtain ⟨y8, h68, H⟩ := bind_some H
            refine RW.callF (.inl rfl) ent14 ⟨rfl, rfl, rfl, rfl⟩ rfl rfl (hermitagelaw1_num.calls y7.2 _ _ h68) ?_
            rintro _ w17 ⟨rfl, x13⟩
            refine ⟨_, rfl, x13, ?_⟩
            have sx13 := x13.size
            refine RW.pure tabOk 1 rfl ?_
            refine RW.done ?_
            refine NW.next ?_
            by_cases c6 : y8 = 0
            · rw [if_pos c6] at H
              refine CW.cond_f rfl (bne_f c6) ?_
              refine CW.skip ?_
              refine NW.next ?_
              refine CW.lex [.W, .W] rfl ?_
              refine RW.pure tabOk 2 rfl ?_
              refine RW.done ?_
              refine NW.norm_block (NW.next ?_)
              refine CW.lex [.W, .W, .W] rfl ?_
              refine RW.pure tabOk 3 rfl ?_
              refine RW.done ?_
              have h69 := h67.ext x13
              have h70 := ((gL0_t3_3.ext x11).ext x12).ext x13
              have h71 := ((gF6_3.ext x11).ext x12).ext x13
              have h72 := ((gF9_3.ext x11).ext x12).ext x13
              have h73 := Ext.trans (Ext.trans (Ext.trans x0_3 x11) x12) x13
              have h74 := (h64.ext x12).ext x13
              exact NW.J fun a ha => ⟨n2, Nat.lt_succ_self n2, y7.1, A11, c_11, (w64 (it10_3 + 1)), ha.sub ⟨rfl, rfl, rfl, rfl, rfl, rfl, rfl, trivial⟩, by omega, (h69.sub ⟨(.inl ⟨by omega, trivial, rfl⟩), trivial⟩ trivial), h70, h71, h72, h73, h74, H⟩
            · rw [if_neg c6] at H
              refine CW.cond_t rfl (bne_t c6) ?_
              refine CW.seq ?_
              refine CW.lex [.W] rfl ?_
              refine RW.pure tabOk 1 rfl ?_
              refine RW.done ?_
              refine NW.next ?_
              refine CW.ret ?_
              refine NW.ret_then (NW.ret_block (NW.ret_then (NW.ret_then (NW.ret_block (NW.ret_then ?_)))))
              obtain rfl := Option.some.inj H
              have h75 := Ext.trans (Ext.trans (Ext.trans x0_3 x11) x12) x13
              exact NW.ret1 rfl (by rfl) ⟨rfl, h75⟩
          · rw [if_neg c5] at H
            refine CW.cond_f rfl (decide_eq_false c5) ?_
            refine CW.exit ?_
            refine NW.exit_then (NW.exit_then (NW.exit_hit ?_))
            refine NW.next ?_
            refine CW.seq ?_
            refine CW.lex [.W, .X, .W, .W, .W, .X, .W, .W, .W, .W, .W, .X, .W, .W, .W, .W, .X, .W, .W, .X, .W, .W] rfl ?_
            refine RW.pure tabOk 1 rfl ?_
            obtain ⟨y9, h76, H⟩ := bind_some H
            refine RW.callF (.inl rfl) ent14 ⟨rfl, rfl, rfl, rfl⟩ rfl rfl (hermitagelaw1_num.calls y3.2 _ _ h76) ?_
            rintro _ w18 ⟨rfl, x14⟩
            refine ⟨_, rfl, x14, ?_⟩
            have sx14 := x14.size
            refine RW.pure tabOk 2 rfl ?_
            by_cases c7 : y9 = 0
            · rw [if_pos c7] at H
              refine RW.bool 77 (b' := true) (beq_t c7) rfl ?_
              refine RW.pure tabOk 1 rfl ?_
              obtain ⟨y10, h77, H⟩ := bind_some H
              refine RW.callF (.inl rfl) ent14 ⟨rfl, rfl, rfl, rfl⟩ rfl rfl (hermitagelaw1_num.calls y6.2 _ _ h77) ?_
              rintro _ w19 ⟨rfl, x15⟩
              refine ⟨_, rfl, x15, ?_⟩
              have sx15 := x15.size
              refine RW.pure tabOk 3 rfl ?_
              by_cases c8 : y10 = 0
              · rw [if_pos c8] at H
                refine RW.bool 82 (b' := true) (beq_t c8) rfl ?_
                refine RW.pure tabOk 2 rfl ?_
                have h78 := (gF6_3.ext x14).ext x15
                have h79 := (h58.ext x14).ext x15
                obtain ⟨y11, h80, H⟩ := bind_some H
                refine RW.callF (.inl rfl) ent15 ⟨rfl, rfl, rfl, rfl⟩ rfl rfl (hermitageref0_EqSegs.calls k A6 c_6 y3.1 At9_3 ct9_3 lt9_3 _ _ h78.all h78.len h79.all h79.len h80) ?_
                rintro _ w20 ⟨rfl, x16⟩
                refine ⟨_, rfl, x16, ?_⟩
                have sx16 := x16.size
                refine RW.pure tabOk 2 rfl ?_
                by_cases c9 : y11 = true
                · rw [if_pos c9] at H
                  refine RW.bool 87 (b' := true) (c9) rfl ?_
                  refine RW.pure tabOk 2 rfl ?_
                  have h81 := h78.ext x16
                  have h82 := ((gF9_3.ext x14).ext x15).ext x16
                  obtain ⟨y12, h83, H⟩ := bind_some H
                  refine RW.callF (.inl rfl) ent15 ⟨rfl, rfl, rfl, rfl⟩ rfl rfl (hermitageref0_EqSegs.calls k A6 c_6 y3.1 A9 c_9 y6.1 _ _ h81.all h81.len h82.all h82.len h83) ?_
                  rintro _ w21 ⟨rfl, x17⟩
                  refine ⟨_, rfl, x17, ?_⟩
                  have sx17 := x17.size
                  refine RW.pure tabOk 2 rfl ?_
                  by_cases c10 : y12 = true
                  · rw [if_pos c10] at H
                    refine RW.bool 92 (b' := true) (c10) rfl ?_
                    have h84 := (((g0_3.ext x14).ext x15).ext x16).ext x17
                    obtain ⟨y13, h85, H⟩ := bind_some H
                    refine RW.callF (.inl rfl) ent16 ⟨rfl, rfl, rfl, rfl⟩ rfl rfl (hermitagelaw1_wakes.calls k _ _ h84 h85) ?_
                    rintro _ w22 ⟨rfl, x18⟩
                    refine ⟨_, rfl, x18, ?_⟩
                    have sx18 := x18.size
                    refine RW.pure tabOk 2 rfl ?_
                    refine RW.done ?_
                    refine NW.next ?_
                    refine CW.ret ?_
                    obtain rfl := Option.some.inj H
                    have h86 := Ext.trans (Ext.trans (Ext.trans (Ext.trans (Ext.trans x0_3 x14) x15) x16) x17) x18
                    exact NW.ret1 rfl (by rfl) ⟨rfl, h86⟩
                  · rw [if_neg c10] at H
                    refine RW.bool 92 (b' := false) (bool_f c10) rfl ?_
                    refine RW.pure tabOk 3 rfl ?_
                    refine RW.done ?_
                    refine NW.next ?_
                    refine CW.ret ?_
                    obtain rfl := Option.some.inj H
                    have h87 := Ext.trans (Ext.trans (Ext.trans (Ext.trans x0_3 x14) x15) x16) x17
                    exact NW.ret1 rfl (by rfl) ⟨rfl, h87⟩
                · rw [if_neg c9] at H
                  refine RW.bool 87 (b' := false) (bool_f c9) rfl ?_
                  refine RW.pure tabOk 8 rfl ?_
                  refine RW.done ?_
                  refine NW.next ?_
                  refine CW.ret ?_
                  obtain rfl := Option.some.inj H
                  have h88 := Ext.trans (Ext.trans (Ext.trans x0_3 x14) x15) x16
                  exact NW.ret1 rfl (by rfl) ⟨rfl, h88⟩
              · rw [if_neg c8] at H
                refine RW.bool 82 (b' := false) (beq_f c8) rfl ?_
                refine RW.pure tabOk 13 rfl ?_
                refine RW.done ?_
                refine NW.next ?_
                refine CW.ret ?_
                obtain rfl := Option.some.inj H
                have h89 := Ext.trans (Ext.trans x0_3 x14) x15
                exact NW.ret1 rfl (by rfl) ⟨rfl, h89⟩
            · rw [if_neg c7] at H
              refine RW.bool 77 (b' := false) (beq_f c7) rfl ?_
              refine RW.pure tabOk 18 rfl ?_
              refine RW.done ?_
              refine NW.next ?_
              refine CW.ret ?_
              obtain rfl := Option.some.inj H
              have h90 := Ext.trans x0_3 x14
              exact NW.ret1 rfl (by rfl) ⟨rfl, h90⟩

set_option maxHeartbeats 4000000 in
set_option maxRecDepth 100000 in
theorem hermitageref0_CopySegs.calls (k : Nat) (A1 : Option Addr) (c_1 : Nat) (p0 : List Seg) (r : (List Seg)) (w : World) (hs1 : Sl kSeg w.heap okAll A1 p0) (hl1 : p0.length ≤ c_1) (H : hermitageref0_CopySegs.f k p0 = some r) :
    Calls Tryd.prog 17 #[.slice A1 p0.length c_1] w fun e w' => ∃ (B1 : Option Addr) (d1 : Nat), e = .returned (.slice B1 r.length d1) ∧ Ext w w' ∧ Ow kSeg 93 w'.heap (okL [(w.heap.size, none, some 93)]) (okL []) B1 d1 r := by
  have h1 : Sl kSeg w.heap (okL [(0, some w.heap.size, none)]) A1 p0 := hs1.old _ rfl
  have x0 : Ext w w := Upd.refl _ w
  unfold hermitageref0_CopySegs.f at H
  refine calls_start Tryd.func17 rfl 19 rfl [.slice A1 p0.length c_1] rfl ?_
  refine CW.seq ?_
  refine CW.lex [.W] rfl ?_
  refine RW.pure tabOk 1 rfl ?_
  refine RW.done ?_
  refine NW.next ?_
  refine CW.seq ?_
  refine CW.lex [.W] rfl ?_
  refine RW.pure tabOk 1 rfl ?_
  refine RW.done ?_
  refine NW.next ?_
  refine CW.seq ?_
  refine CW.seq ?_
  refine CW.lex [.W] rfl ?_
  refine RW.pure tabOk 1 rfl ?_
  refine RW.done ?_
  refine NW.next ?_
  refine CW.block ?_
  refine CW.loop (fun n1 a w1 => ∃ (lt3_0 : List Seg) (At3_0 : Option Addr) (ct3_0 : Nat) (it4_0 : Int), Sat 19 [(0, .slice A1 p0.length c_1), (3, .slice At3_0 lt3_0.length ct3_0), (4, .int .i64 it4_0)] a ∧ w.heap.size ≤ w1.heap.size ∧ Ow kSeg 93 w1.heap (okL [(w.heap.size, none, some 93)]) (okL []) At3_0 ct3_0 lt3_0 ∧ Sl kSeg w1.heap (okL [(0, some w.heap.size, none)]) A1 p0 ∧ Ext w w1 ∧ hermitageref0_CopySegs.l0 p0 n1 lt3_0 it4_0 = some r) k ?_ ?_
  · exact fun a ha => ⟨([] : List Seg), none, 0, 0, ha.sub ⟨rfl, rfl, rfl, trivial⟩, by omega, Ow.nil, h1, x0, H⟩
  intro n1 a w1 hI hp
  obtain ⟨lt3_0, At3_0, ct3_0, it4_0, hS, hle, ft3_0, gF1_0, x0_0, H⟩ := hI
  cases n1 with
  | zero => cases H
  | succ n1 =>
    rw [hermitageref0_CopySegs.l0] at H
    refine CW.go hp hS ?_
    have h2 : Ow kSeg 93 w1.heap (okL [(w.heap.size, some w1.heap.size, some 93)]) (okL []) At3_0 ct3_0 lt3_0 := ft3_0.close
    refine CW.seq ?_
    refine CW.seq ?_
    refine CW.lex [.W, .W, .W, .W] rfl ?_
    refine RW.pure tabOk 4 rfl ?_
    refine RW.done ?_
    refine NW.next ?_
    by_cases c1 : it4_0 < (p0.length : Int)
    · rw [if_pos c1] at H
      refine CW.cond_t rfl (decide_eq_true c1) ?_
      refine CW.skip ?_
      refine NW.next ?_
      refine CW.seq ?_
      refine CW.block ?_
      refine CW.lex [.W, .W, .W, .W, .L, .X, .M, .W] rfl ?_
      refine RW.pure tabOk 3 rfl ?_
      obtain ⟨g1, H⟩ := guard_some H
      obtain ⟨ad1, e1, a1⟩ := kSeg_at gF1_0 g1.1 g1.2
      refine RW.index tabOk g1.1 g1.2 e1 ⟨rfl, rfl, rfl, rfl⟩ rfl rfl rfl rfl rfl rfl ?_
      refine RW.load tabOk [.int .i64 ((rd p0 it4_0).At), .int .i64 ((rd p0 it4_0).Len)] a1 ⟨rfl, rfl, rfl, rfl⟩ rfl rfl rfl rfl ?_
      refine RW.buildSlice (cs := [.int .i64 ((rd p0 it4_0).At), .int .i64 ((rd p0 it4_0).Len)]) tabOk (.inl rfl) ⟨rfl, rfl, rfl, rfl⟩ rfl rfl rfl rfl rfl rfl rfl ?_
      intro b1 w2 x1 l1 h3
      have sx1 := x1.size
      have ltb1 := h3.lt
      have h4 := h2.ext x1
      obtain ⟨g2, H⟩ := guard_some H
      refine RW.append1L (d := kSeg) (v := (rd p0 it4_0)) (l := [(w.heap.size, some w1.heap.size, some 93)]) (li := []) (ly := []) (xs := lt3_0) tabOk h4 h3 (kSeg_mk (rd p0 it4_0)) trivial (by simp only [maxLen]; omega) g2 ⟨rfl, rfl, rfl, rfl⟩ rfl rfl rfl rfl rfl rfl rfl ?_
      intro A2 c_2 w3 x2 h5
      have sx2 := x2.size
      have h6 := h5.close.sub (l' := [(w.heap.size, some w3.heap.size, some 93)]) (li' := []) ⟨(.inl ⟨by omega, by omega, rfl⟩), ⟨(.inl ⟨by omega, by omega, rfl⟩), trivial⟩⟩ trivial
      refine RW.pure tabOk 1 rfl ?_
      refine RW.done ?_
      refine NW.norm_block (NW.next ?_)
      refine CW.lex [.W, .W, .W] rfl ?_
      refine RW.pure tabOk 3 rfl ?_
      refine RW.done ?_
      have h7 := (gF1_0.ext x1).turnL x2 ⟨⟨.inr (.inl (by omega)), trivial⟩, trivial⟩
      have h8 := Ext.turn (Ext.trans x0_0 x1) x2 ⟨by omega, trivial⟩
      exact NW.J fun a ha => ⟨n1, Nat.lt_succ_self n1, (lt3_0 ++ [(rd p0 it4_0)]), A2, c_2, (w64 (it4_0 + 1)), ha.sub ⟨rfl, rfl, rfl, trivial⟩, by omega, (h6.sub ⟨(.inl ⟨by omega, trivial, rfl⟩), trivial⟩ trivial), h7, h8, H⟩
    · rw [if_neg c1] at H
      refine CW.cond_f rfl (decide_eq_false c1) ?_
      refine CW.exit ?_
      refine NW.exit_then (NW.exit_then (NW.exit_hit ?_))
      refine NW.next ?_
      refine CW.seq ?_
      refine CW.lex [.W, .W] rfl ?_
      refine RW.pure tabOk 2 rfl ?_
      refine RW.done ?_
      refine NW.next ?_
      refine CW.ret ?_
      obtain rfl := Option.some.inj H
      exact NW.ret1 rfl (by rfl) ⟨At3_0, ct3_0, rfl, x0_0, (h2.sub (l' := [(w.heap.size, none, some 93)]) (li' := []) ⟨(.inl ⟨by omega, trivial, rfl⟩), trivial⟩ trivial)⟩

set_option maxHeartbeats 4000000 in
set_option maxRecDepth 100000 in
theorem seg_Less_1.calls (p0 : Int) (p1 : Int) (r : Int) (w : World) (H : seg_Less_1.f p0 p1 = some r) :
    Calls Tryd.prog 55 #[.int .u64 p0, .int .u64 p1] w fun e w' => e = .returned (.int .u64 r) ∧ Ext w w' := by
  have x0 : Ext w w := Upd.refl _ w
  unfold seg_Less_1.f at H
  refine calls_start Tryd.func55 rfl 8 rfl [.int .u64 p0, .int .u64 p1] rfl ?_
  refine CW.seq ?_
  refine CW.lex [.W] rfl ?_
  refine RW.pure tabOk 1 rfl ?_
  refine RW.done ?_
  refine NW.next ?_
  refine CW.seq ?_
  refine CW.lex [.W, .W, .W, .W] rfl ?_
  refine RW.pure tabOk 4 rfl ?_
  refine RW.done ?_
  refine NW.next ?_
  refine CW.ret ?_
  obtain rfl := Option.some.inj H
  exact NW.ret1 rfl (by rfl) ⟨rfl, x0⟩

set_option maxHeartbeats 4000000 in
set_option maxRecDepth 100000 in
theorem seg_Less.calls (k : Nat) (A1 : Option Addr) (c_1 : Nat) (p0 : List Seg) (A2 : Option Addr) (c_2 : Nat) (p1 : List Seg) (r : (List Seg) × Int) (w : World) (hs1 : Sl kSeg w.heap okAll A1 p0) (hl1 : p0.length ≤ c_1) (hs2 : Sl kSeg w.heap okAll A2 p1) (hl2 : p1.length ≤ c_2) {gT : Nat} (hG : Box w.heap 0 gT (arrI .u8 64 tz)) (H : seg_Less.f k p0 p1 = some r) :
    Calls Tryd.prog 18 #[.slice A1 p0.length c_1, .slice A2 p1.length c_2] w fun e w' => ∃ (B1 : Option Addr) (d1 : Nat), e = .returned (.tuple #[.slice B1 r.1.length d1, .int .i64 r.2]) ∧ Ext w w' ∧ Ow kSeg 93 w'.heap (okL [(w.heap.size, none, some 93)]) (okL []) B1 d1 r.1 := by
  have h1 : Sl kSeg w.heap (okL [(0, some w.heap.size, none)]) A1 p0 := hs1.old _ rfl
  have h2 : Sl kSeg w.heap (okL [(0, some w.heap.size, none)]) A2 p1 := hs2.old _ rfl
  have hG0 : 0 < w.heap.size := hG.lt
  have x0 : Ext w w := Upd.refl _ w
  unfold seg_Less.f at H
  refine calls_start Tryd.func18 rfl 11 rfl [.slice A1 p0.length c_1, .slice A2 p1.length c_2] rfl ?_
  refine CW.seq ?_
  refine CW.lex [.W, .W] rfl ?_
  refine RW.pure tabOk 2 rfl ?_
  refine RW.done ?_
  refine NW.next ?_
  refine CW.seq ?_
  refine CW.lex [.W, .W, .X, .W, .W, .W, .W] rfl ?_
  refine RW.pure tabOk 2 rfl ?_
  have xc1 : Ext w w := Upd.refl _ _
  refine RW.callV (R := fun e w1 => ∃ (lt8_0_0 : List Seg) (At8_0_0 : Option Addr) (ct8_0_0 : Nat) (it8_1_0 : Int), e = .returned (.tuple #[.slice At8_0_0 lt8_0_0.length ct8_0_0, .int .i64 it8_1_0]) ∧ w.heap.size ≤ w1.heap.size ∧ Ow kSeg 93 w1.heap (okL [(w.heap.size, none, some 93)]) (okL []) At8_0_0 ct8_0_0 lt8_0_0 ∧ Ext w w1 ∧ Ext w w1 ∧ Box w1.heap 0 gT (arrI .u8 64 tz) ∧ seg_Less.j0 lt8_0_0 it8_1_0 = some r) (.inl rfl) ent54 ⟨rfl, rfl, rfl, rfl⟩ rfl rfl rfl ?_ ?_
  ·
    refine calls_start Tryd.func54 rfl 23 rfl [.slice A1 p0.length c_1, .slice A2 p1.length c_2, .func (.func 55) #[] #[]] rfl ?_
    refine CW.seq ?_
    refine CW.lex [.W, .W] rfl ?_
    refine RW.pure tabOk 2 rfl ?_
    refine RW.done ?_
    refine NW.next ?_
    refine CW.seq ?_
    refine CW.seqJ (fun a w2 => ∃ (bt15_1 : Bool), Sat 23 [(0, .slice A1 p0.length c_1), (1, .slice A2 p1.length c_2), (2, .func (.func 55) #[] #[]), (15, .bool bt15_1)] a ∧ w.heap.size ≤ w2.heap.size ∧ Sl kSeg w2.heap (okL [(0, some w.heap.size, none)]) A1 p0 ∧ Sl kSeg w2.heap (okL [(0, some w.heap.size, none)]) A2 p1 ∧ Ext w w2 ∧ Ext w w2 ∧ Box w2.heap 0 gT (arrI .u8 64 tz) ∧ seg_Less.j1 p0 p1 k bt15_1 = some r) ?_ ?_
    ·
      refine CW.lex [.W, .X, .W, .W, .W, .X, .W, .W] rfl ?_
      refine RW.pure tabOk 1 rfl ?_
      obtain ⟨y1, h3, H⟩ := bind_some H
      refine RW.callF (.inl rfl) ent51 ⟨rfl, rfl, rfl, rfl⟩ rfl rfl (seg_May.calls k A1 c_1 p0 _ _ h1.all hl1 h3) ?_
      rintro _ w3 ⟨rfl, x1⟩
      refine ⟨_, rfl, x1, ?_⟩
      have sx1 := x1.size
      refine RW.pure tabOk 2 rfl ?_
      by_cases c1 : y1 = true
      · rw [if_pos c1] at H
        refine RW.bool 11 (b' := false) (not_f (c1)) rfl ?_
        refine RW.pure tabOk 1 rfl ?_
        have h4 := h2.ext x1
        obtain ⟨y2, h5, H⟩ := bind_some H
        refine RW.callF (.inl rfl) ent51 ⟨rfl, rfl, rfl, rfl⟩ rfl rfl (seg_May.calls k A2 c_2 p1 _ _ h4.all hl2 h5) ?_
        rintro _ w4 ⟨rfl, x2⟩
        refine ⟨_, rfl, x2, ?_⟩
        have sx2 := x2.size
        refine RW.pure tabOk 2 rfl ?_
        refine RW.done ?_
        have h6 := (h1.ext x1).ext x2
        have h7 := h4.ext x2
        have h8 := Ext.trans (Ext.trans x0 x1) x2
        have h9 := Ext.trans (Ext.trans xc1 x1) x2
        have h10 := (hG.ext x1).ext x2
        exact NW.J fun a ha => ⟨(!y2), ha.sub ⟨rfl, rfl, rfl, rfl, trivial⟩, by omega, h6, h7, h8, h9, h10, H⟩
      · rw [if_neg c1] at H
        refine RW.bool 11 (b' := true) (not_t (bool_f c1)) rfl ?_
        refine RW.pure tabOk 4 rfl ?_
        refine RW.done ?_
        have h11 := h1.ext x1
        have h12 := h2.ext x1
        have h13 := Ext.trans x0 x1
        have h14 := Ext.trans xc1 x1
        have h15 := hG.ext x1
        exact NW.J fun a ha => ⟨true, ha.sub ⟨rfl, rfl, rfl, rfl, trivial⟩, by omega, h11, h12, h13, h14, h15, H⟩
    intro a w2 hJ hp
    obtain ⟨bt15_1, hS, hle, gF1_1, gF2_1, x0_1, x_xc1_1, g0_1, H⟩ := hJ
    unfold seg_Less.j1 at H
    refine CW.go hp hS ?_
    by_cases c2 : bt15_1 = true
    · rw [if_pos c2] at H
      refine CW.cond_t rfl (c2) ?_
      refine CW.seq ?_
      refine CW.lex [.W, .W] rfl ?_
      refine RW.pure tabOk 2 rfl ?_
      refine RW.done ?_
      refine NW.next ?_
      refine CW.ret ?_
      refine NW.ret_then ?_
      exact NW.ret2 rfl (by rfl) (by rfl) ⟨([] : List Seg), none, 0, 1, rfl, by omega, Ow.nil, x0_1, x_xc1_1, g0_1, H⟩
    · rw [if_neg c2] at H
      refine CW.cond_f rfl (bool_f c2) ?_
      refine CW.skip ?_
      refine NW.next ?_
      refine CW.seq ?_
      refine CW.lex [.W, .W, .X, .W, .X, .M, .X, .W, .W] rfl ?_
      refine RW.pure tabOk 2 rfl ?_
      obtain ⟨y3, h16, H⟩ := bind_some H
      refine RW.callF (.inl rfl) ent52 ⟨rfl, rfl, rfl, rfl⟩ rfl rfl (seg_Make.calls k A1 c_1 p0 _ _ gF1_1.all hl1 h16) ?_
      rintro _ w5 ⟨rfl, x3⟩
      refine ⟨_, rfl, x3, ?_⟩
      have sx3 := x3.size
      refine RW.pure tabOk 1 rfl ?_
      have h17 := gF2_1.ext x3
      obtain ⟨y4, h18, H⟩ := bind_some H
      refine RW.callF (.inl rfl) ent52 ⟨rfl, rfl, rfl, rfl⟩ rfl rfl (seg_Make.calls k A2 c_2 p1 _ _ h17.all hl2 h18) ?_
      rintro _ w6 ⟨rfl, x4⟩
      refine ⟨_, rfl, x4, ?_⟩
      have sx4 := x4.size
      obtain ⟨y5, h19, H⟩ := bind_some H
      refine RW.callV (cap := []) (.inr rfl) ent55 ⟨rfl, rfl, rfl, rfl⟩ rfl rfl rfl (seg_Less_1.calls y3 y4 _ _ h19) ?_
      rintro _ w7 ⟨rfl, x5⟩
      refine ⟨_, rfl, x5, ?_⟩
      have sx5 := x5.size
      have h20 := ((g0_1.ext x3).ext x4).ext x5
      obtain ⟨y6, h21, H⟩ := bind_some H
      refine RW.callF (.inl rfl) ent53 ⟨rfl, rfl, rfl, rfl⟩ rfl rfl (seg_Set_Segs.calls k y5 _ _ h20 h21) ?_
      rintro _ w8 ⟨A3, c_3, rfl, x6, h22⟩
      refine ⟨_, rfl, x6, ?_⟩
      have sx6 := x6.size
      have h23 : Ow kSeg 93 w8.heap (okL [(w7.heap.size, some w8.heap.size, some 93)]) (okL []) A3 c_3 y6 := h22.close
      refine RW.pure tabOk 2 rfl ?_
      refine RW.done ?_
      refine NW.next ?_
      refine CW.ret ?_
      have h24 := Ext.trans (Ext.trans (Ext.trans (Ext.trans x0_1 x3) x4) x5) x6
      have h25 := Ext.trans (Ext.trans (Ext.trans (Ext.trans x_xc1_1 x3) x4) x5) x6
      have h26 := h20.ext x6
      exact NW.ret2 rfl (by rfl) (by rfl) ⟨y6, A3, c_3, 0, rfl, by omega, (h23.sub ⟨(.inl ⟨by omega, trivial, rfl⟩), trivial⟩ trivial), h24, h25, h26, H⟩
  rintro _ w1 ⟨lt8_0_0, At8_0_0, ct8_0_0, it8_1_0, rfl, hle, ft8_0_0, x0_0, x_xc1_0, g0_0, H⟩
  refine ⟨_, rfl, x_xc1_0, ?_⟩
  unfold seg_Less.j0 at H
  have h27 : Ow kSeg 93 w1.heap (okL [(w.heap.size, some w1.heap.size, some 93)]) (okL []) At8_0_0 ct8_0_0 lt8_0_0 := ft8_0_0.close
  refine RW.pure tabOk 4 rfl ?_
  refine RW.done ?_
  refine NW.next ?_
  refine CW.ret ?_
  obtain rfl := Option.some.inj H
  exact NW.ret2 rfl (by rfl) (by rfl) ⟨At8_0_0, ct8_0_0, rfl, x0_0, (h27.sub (l' := [(w.heap.size, none, some 93)]) (li' := []) ⟨(.inl ⟨by omega, trivial, rfl⟩), trivial⟩ trivial)⟩

set_option maxHeartbeats 4000000 in
set_option maxRecDepth 100000 in
theorem seg_Both_1.calls (p0 : Int) (p1 : Int) (r : Int) (w : World) (H : seg_Both_1.f p0 p1 = some r) :
    Calls Tryd.prog 56 #[.int .u64 p0, .int .u64 p1] w fun e w' => e = .returned (.int .u64 r) ∧ Ext w w' := by
  have x0 : Ext w w := Upd.refl _ w
  unfold seg_Both_1.f at H
  refine calls_start Tryd.func56 rfl 8 rfl [.int .u64 p0, .int .u64 p1] rfl ?_
  refine CW.seq ?_
  refine CW.lex [.W] rfl ?_
  refine RW.pure tabOk 1 rfl ?_
  refine RW.done ?_
  refine NW.next ?_
  refine CW.seq ?_
  refine CW.lex [.W, .W, .W, .W] rfl ?_
  refine RW.pure tabOk 4 rfl ?_
  refine RW.done ?_
  refine NW.next ?_
  refine CW.ret ?_
  obtain rfl := Option.some.inj H
  exact NW.ret1 rfl (by rfl) ⟨rfl, x0⟩

set_option maxHeartbeats 4000000 in
set_option maxRecDepth 100000 in
theorem seg_Both.calls (k : Nat) (A1 : Option Addr) (c_1 : Nat) (p0 : List Seg) (A2 : Option Addr) (c_2 : Nat) (p1 : List Seg) (r : (List Seg) × Int) (w : World) (hs1 : Sl kSeg w.heap okAll A1 p0) (hl1 : p0.length ≤ c_1) (hs2 : Sl kSeg w.heap okAll A2 p1) (hl2 : p1.length ≤ c_2) {gT : Nat} (hG : Box w.heap 0 gT (arrI .u8 64 tz)) (H : seg_Both.f k p0 p1 = some r) :
    Calls Tryd.prog 19 #[.slice A1 p0.length c_1, .slice A2 p1.length c_2] w fun e w' => ∃ (B1 : Option Addr) (d1 : Nat), e = .returned (.tuple #[.slice B1 r.1.length d1, .int .i64 r.2]) ∧ Ext w w' ∧ Ow kSeg 93 w'.heap (okL [(w.heap.size, none, some 93)]) (okL []) B1 d1 r.1 := by
  have h1 : Sl kSeg w.heap (okL [(0, some w.heap.size, none)]) A1 p0 := hs1.old _ rfl
  have h2 : Sl kSeg w.heap (okL [(0, some w.heap.size, none)]) A2 p1 := hs2.old _ rfl
  have hG0 : 0 < w.heap.size := hG.lt
  have x0 : Ext w w := Upd.refl _ w
  unfold seg_Both.f at H
  refine calls_start Tryd.func19 rfl 11 rfl [.slice A1 p0.length c_1, .slice A2 p1.length c_2] rfl ?_
  refine CW.seq ?_
  refine CW.lex [.W, .W] rfl ?_
  refine RW.pure tabOk 2 rfl ?_
  refine RW.done ?_
  refine NW.next ?_
  refine CW.seq ?_
  refine CW.lex [.W, .W, .X, .W, .W, .W, .W] rfl ?_
  refine RW.pure tabOk 2 rfl ?_
  have xc1 : Ext w w := Upd.refl _ _
  refine RW.callV (R := fun e w1 => ∃ (lt8_0_0 : List Seg) (At8_0_0 : Option Addr) (ct8_0_0 : Nat) (it8_1_0 : Int), e = .returned (.tuple #[.slice At8_0_0 lt8_0_0.length ct8_0_0, .int .i64 it8_1_0]) ∧ w.heap.size ≤ w1.heap.size ∧ Ow kSeg 93 w1.heap (okL [(w.heap.size, none, some 93)]) (okL []) At8_0_0 ct8_0_0 lt8_0_0 ∧ Ext w w1 ∧ Ext w w1 ∧ Box w1.heap 0 gT (arrI .u8 64 tz) ∧ seg_Both.j0 lt8_0_0 it8_1_0 = some r) (.inl rfl) ent54 ⟨rfl, rfl, rfl, rfl⟩ rfl rfl rfl ?_ ?_
  ·
    refine calls_start Tryd.func54 rfl 23 rfl [.slice A1 p0.length c_1, .slice A2 p1.length c_2, .func (.func 56) #[] #[]] rfl ?_
    refine CW.seq ?_
    refine CW.lex [.W, .W] rfl ?_
    refine RW.pure tabOk 2 rfl ?_
    refine RW.done ?_
    refine NW.next ?_
    refine CW.seq ?_
    refine CW.seqJ (fun a w2 => ∃ (bt15_1 : Bool), Sat 23 [(0, .slice A1 p0.length c_1), (1, .slice A2 p1.length c_2), (2, .func (.func 56) #[] #[]), (15, .bool bt15_1)] a ∧ w.heap.size ≤ w2.heap.size ∧ Sl kSeg w2.heap (okL [(0, some w.heap.size, none)]) A1 p0 ∧ Sl kSeg w2.heap (okL [(0, some w.heap.size, none)]) A2 p1 ∧ Ext w w2 ∧ Ext w w2 ∧ Box w2.heap 0 gT (arrI .u8 64 tz) ∧ seg_Both.j1 p0 p1 k bt15_1 = some r) ?_ ?_
    ·
      refine CW.lex [.W, .X, .W, .W, .W, .X, .W, .W] rfl ?_
      refine RW.pure tabOk 1 rfl ?_
      obtain ⟨y1, h3, H⟩ := bind_some H
      refine RW.callF (.inl rfl) ent51 ⟨rfl, rfl, rfl, rfl⟩ rfl rfl (seg_May.calls k A1 c_1 p0 _ _ h1.all hl1 h3) ?_
      rintro _ w3 ⟨rfl, x1⟩
      refine ⟨_, rfl, x1, ?_⟩
      have sx1 := x1.size
      refine RW.pure tabOk 2 rfl ?_
      by_cases c1 : y1 = true
      · rw [if_pos c1] at H
        refine RW.bool 11 (b' := false) (not_f (c1)) rfl ?_
        refine RW.pure tabOk 1 rfl ?_
        have h4 := h2.ext x1
        obtain ⟨y2, h5, H⟩ := bind_some H
        refine RW.callF (.inl rfl) ent51 ⟨rfl, rfl, rfl, rfl⟩ rfl rfl (seg_May.calls k A2 c_2 p1 _ _ h4.all hl2 h5) ?_
        rintro _ w4 ⟨rfl, x2⟩
        refine ⟨_, rfl, x2, ?_⟩
        have sx2 := x2.size
        refine RW.pure tabOk 2 rfl ?_
        refine RW.done ?_
        have h6 := (h1.ext x1).ext x2
        have h7 := h4.ext x2
        have h8 := Ext.trans (Ext.trans x0 x1) x2
        have h9 := Ext.trans (Ext.trans xc1 x1) x2
        have h10 := (hG.ext x1).ext x2
        exact NW.J fun a ha => ⟨(!y2), ha.sub ⟨rfl, rfl, rfl, rfl, trivial⟩, by omega, h6, h7, h8, h9, h10, H⟩
      · rw [if_neg c1] at H
        refine RW.bool 11 (b' := true) (not_t (bool_f c1)) rfl ?_
        refine RW.pure tabOk 4 rfl ?_
        refine RW.done ?_
        have h11 := h1.ext x1
        have h12 := h2.ext x1
        have h13 := Ext.trans x0 x1
        have h14 := Ext.trans xc1 x1
        have h15 := hG.ext x1
        exact NW.J fun a ha => ⟨true, ha.sub ⟨rfl, rfl, rfl, rfl, trivial⟩, by omega, h11, h12, h13, h14, h15, H⟩
    intro a w2 hJ hp
    obtain ⟨bt15_1, hS, hle, gF1_1, gF2_1, x0_1, x_xc1_1, g0_1, H⟩ := hJ
    unfold seg_Both.j1 at H
    refine CW.go hp hS ?_
    by_cases c2 : bt15_1 = true
    · rw [if_pos c2] at H
      refine CW.cond_t rfl (c2) ?_
      refine CW.seq ?_
      refine CW.lex [.W, .W] rfl ?_
      refine RW.pure tabOk 2 rfl ?_
      refine RW.done ?_
      refine NW.next ?_
      refine CW.ret ?_
      refine NW.ret_then ?_
      exact NW.ret2 rfl (by rfl) (by rfl) ⟨([] : List Seg), none, 0, 1, rfl, by omega, Ow.nil, x0_1, x_xc1_1, g0_1, H⟩
    · rw [if_neg c2] at H
      refine CW.cond_f rfl (bool_f c2) ?_
      refine CW.skip ?_
      refine NW.next ?_
      refine CW.seq ?_
      refine CW.lex [.W, .W, .X, .W, .X, .M, .X, .W, .W] rfl ?_
      refine RW.pure tabOk 2 rfl ?_
      obtain ⟨y3, h16, H⟩ := bind_some H
      refine RW.callF (.inl rfl) ent52 ⟨rfl, rfl, rfl, rfl⟩ rfl rfl (seg_Make.calls k A1 c_1 p0 _ _ gF1_1.all hl1 h16) ?_
      rintro _ w5 ⟨rfl, x3⟩
      refine ⟨_, rfl, x3, ?_⟩
      have sx3 := x3.size
      refine RW.pure tabOk 1 rfl ?_
      have h17 := gF2_1.ext x3
      obtain ⟨y4, h18, H⟩ := bind_some H
      refine RW.callF (.inl rfl) ent52 ⟨rfl, rfl, rfl, rfl⟩ rfl rfl (seg_Make.calls k A2 c_2 p1 _ _ h17.all hl2 h18) ?_
      rintro _ w6 ⟨rfl, x4⟩
      refine ⟨_, rfl, x4, ?_⟩
      have sx4 := x4.size
      obtain ⟨y5, h19, H⟩ := bind_some H
      refine RW.callV (cap := []) (.inr rfl) ent56 ⟨rfl, rfl, rfl, rfl⟩ rfl rfl rfl (seg_Both_1.calls y3 y4 _ _ h19) ?_
      rintro _ w7 ⟨rfl, x5⟩
      refine ⟨_, rfl, x5, ?_⟩
      have sx5 := x5.size
      have h20 := ((g0_1.ext x3).ext x4).ext x5
      obtain ⟨y6, h21, H⟩ := bind_some H
      refine RW.callF (.inl rfl) ent53 ⟨rfl, rfl, rfl, rfl⟩ rfl rfl (seg_Set_Segs.calls k y5 _ _ h20 h21) ?_
      rintro _ w8 ⟨A3, c_3, rfl, x6, h22⟩
      refine ⟨_, rfl, x6, ?_⟩
      have sx6 := x6.size
      have h23 : Ow kSeg 93 w8.heap (okL [(w7.heap.size, some w8.heap.size, some 93)]) (okL []) A3 c_3 y6 := h22.close
      refine RW.pure tabOk 2 rfl ?_
      refine RW.done ?_
      refine NW.next ?_
      refine CW.ret ?_
      have h24 := Ext.trans (Ext.trans (Ext.trans (Ext.trans x0_1 x3) x4) x5) x6
      have h25 := Ext.trans (Ext.trans (Ext.trans (Ext.trans x_xc1_1 x3) x4) x5) x6
      have h26 := h20.ext x6
      exact NW.ret2 rfl (by rfl) (by rfl) ⟨y6, A3, c_3, 0, rfl, by omega, (h23.sub ⟨(.inl ⟨by omega, trivial, rfl⟩), trivial⟩ trivial), h24, h25, h26, H⟩
  rintro _ w1 ⟨lt8_0_0, At8_0_0, ct8_0_0, it8_1_0, rfl, hle, ft8_0_0, x0_0, x_xc1_0, g0_0, H⟩
  refine ⟨_, rfl, x_xc1_0, ?_⟩
  unfold seg_Both.j0 at H
  have h27 : Ow kSeg 93 w1.heap (okL [(w.heap.size, some w1.heap.size, some 93)]) (okL []) At8_0_0 ct8_0_0 lt8_0_0 := ft8_0_0.close
  refine RW.pure tabOk 4 rfl ?_
  refine RW.done ?_
  refine NW.next ?_
  refine CW.ret ?_
  obtain rfl := Option.some.inj H
  exact NW.ret2 rfl (by rfl) (by rfl) ⟨At8_0_0, ct8_0_0, rfl, x0_0, (h27.sub (l' := [(w.heap.size, none, some 93)]) (li' := []) ⟨(.inl ⟨by omega, trivial, rfl⟩), trivial⟩ trivial)⟩

set_option maxHeartbeats 4000000 in
set_option maxRecDepth 100000 in
theorem hermitageref1_Of.calls (k : Nat) (p0 : Nat → Bool) (r : (List Seg)) (w : World) (H : hermitageref1_Of.f k p0 = some r) :
    Calls Tryd.prog 35 #[.agg (arrB 64 p0).toArray] w fun e w' => ∃ (B1 : Option Addr) (d1 : Nat), e = .returned (.slice B1 r.length d1) ∧ Ext w w' ∧ Ow kSeg 93 w'.heap (okL [(w.heap.size, none, some 93)]) (okL []) B1 d1 r := by
  have x0 : Ext w w := Upd.refl _ w
  unfold hermitageref1_Of.f at H
  refine calls_start Tryd.func35 rfl 51 rfl [.agg (arrB 64 p0).toArray] rfl ?_
  refine CW.seq ?_
  refine CW.lex [.X, .W] rfl ?_
  refine RW.box (cs := (arrB 64 p0)) (.inl rfl) ⟨rfl, rfl, rfl, rfl⟩ rfl rfl rfl ?_
  intro b1 w1 x1 l1 h1
  have sx1 := x1.size
  have ltb1 := h1.lt
  refine RW.pure tabOk 1 rfl ?_
  refine RW.done ?_
  refine NW.next ?_
  refine CW.seq ?_
  refine CW.lex [.W] rfl ?_
  refine RW.pure tabOk 1 rfl ?_
  refine RW.done ?_
  refine NW.next ?_
  refine CW.seq ?_
  refine CW.seq ?_
  refine CW.lex [.W] rfl ?_
  refine RW.pure tabOk 1 rfl ?_
  refine RW.done ?_
  refine NW.next ?_
  refine CW.block ?_
  refine CW.loop (fun n1 a w2 => ∃ (lt3_0 : List Seg) (At3_0 : Option Addr) (ct3_0 : Nat) (it4_0 : Int), Sat 51 [(1, .pointer (some ⟨b1, 0, none⟩)), (3, .slice At3_0 lt3_0.length ct3_0), (4, .int .i64 it4_0)] a ∧ w1.heap.size ≤ w2.heap.size ∧ Ow kSeg 93 w2.heap (okL [(w1.heap.size, none, some 93)]) (okL []) At3_0 ct3_0 lt3_0 ∧ Ext w w2 ∧ Box w2.heap b1 54 (arrB 64 p0) ∧ hermitageref1_Of.l0 p0 n1 lt3_0 it4_0 = some r) k ?_ ?_
  have h2 := Ext.trans x0 x1
  · exact fun a ha => ⟨([] : List Seg), none, 0, 0, ha.sub ⟨rfl, rfl, rfl, trivial⟩, by omega, Ow.nil, h2, h1, H⟩
  intro n1 a w2 hI hp
  obtain ⟨lt3_0, At3_0, ct3_0, it4_0, hS, hle, ft3_0, x0_0, gb1_0, H⟩ := hI
  cases n1 with
  | zero => cases H
  | succ n1 =>
    rw [hermitageref1_Of.l0] at H
    refine CW.go hp hS ?_
    have h3 : Ow kSeg 93 w2.heap (okL [(w1.heap.size, some w2.heap.size, some 93)]) (okL []) At3_0 ct3_0 lt3_0 := ft3_0.close
    refine CW.seq ?_
    refine CW.seq ?_
    refine CW.lex [.W, .W] rfl ?_
    refine RW.pure tabOk 2 rfl ?_
    refine RW.done ?_
    refine NW.next ?_
    by_cases c1 : it4_0 < 64
    · rw [if_pos c1] at H
      refine CW.cond_t rfl (decide_eq_true c1) ?_
      refine CW.skip ?_
      refine NW.next ?_
      refine CW.seqJ (fun a w3 => ∃ (lt3_1 : List Seg) (At3_1 : Option Addr) (ct3_1 : Nat), Sat 51 [(1, .pointer (some ⟨b1, 0, none⟩)), (3, .slice At3_1 lt3_1.length ct3_1), (4, .int .i64 it4_0)] a ∧ w2.heap.size ≤ w3.heap.size ∧ Ow kSeg 93 w3.heap (okL [(w1.heap.size, none, some 93)]) (okL []) At3_1 ct3_1 lt3_1 ∧ Ext w w3 ∧ Box w3.heap b1 54 (arrB 64 p0) ∧ hermitageref1_Of.j0 it4_0 (hermitageref1_Of.l0 p0 n1) lt3_1 = some r) ?_ ?_
      ·
        refine CW.block ?_
        refine CW.seq ?_
        refine CW.seq ?_
        refine CW.lex [.W, .W, .L, .W] rfl ?_
        refine RW.pure tabOk 1 rfl ?_
        obtain ⟨g1, H⟩ := guard_some H
        refine RW.indexBox tabOk g1.1 g1.2 ⟨rfl, rfl, rfl, rfl⟩ rfl rfl rfl rfl rfl rfl rfl ?_
        refine RW.load tabOk [.bool (p0 it4_0.toNat)] (gb1_0.elF (by have := g1; omega)) ⟨rfl, rfl, rfl, rfl⟩ rfl rfl rfl rfl ?_
        refine RW.pure tabOk 1 rfl ?_
        refine RW.done ?_
        refine NW.next ?_
        by_cases c2 : (p0 it4_0.toNat) = true
        · rw [if_pos c2] at H
          refine CW.cond_f rfl (not_f (c2)) ?_
          refine CW.skip ?_
          refine NW.next ?_
          refine CW.seqJ (fun a w4 => ∃ (bt34_2 : Bool), Sat 51 [(1, .pointer (some ⟨b1, 0, none⟩)), (3, .slice At3_0 lt3_0.length ct3_0), (4, .int .i64 it4_0), (34, .bool bt34_2)] a ∧ w2.heap.size ≤ w4.heap.size ∧ Ow kSeg 93 w4.heap (okL [(w1.heap.size, some w2.heap.size, some 93)]) (okL []) At3_0 ct3_0 lt3_0 ∧ Ext w w4 ∧ Box w4.heap b1 54 (arrB 64 p0) ∧ hermitageref1_Of.j1 lt3_0 it4_0 (hermitageref1_Of.l0 p0 n1) bt34_2 = some r) ?_ ?_
          ·
            refine CW.ord [0, 1, 3, 7, 15, 15, 47, 111, 255, 511, 1023, 15, 15, 4111, 12303, 30735, 63503, 129039, 262143, 15, 1048575, 2097151] [(0, .W), (1, .W), (2, .W), (3, .W), (4, .W), (5, .W), (6, .W), (7, .W), (8, .W), (9, .W), (11, .W), (12, .W), (13, .W), (14, .W), (15, .W), (16, .W), (19, .W), (10, .L), (17, .L), (18, .W), (20, .W), (21, .W)] mixed (by kernel_rfl) ?_
            intro w5 x2
            have sx2 := x2.size
            refine RW.pure tabOk 4 rfl ?_
            by_cases c3 : 0 < (lt3_0.length : Int)
            · rw [if_pos c3] at H
              refine RW.bool 16 (b' := true) (decide_eq_true c3) rfl ?_
              refine RW.pure tabOk 4 rfl ?_
              obtain ⟨g2, H⟩ := guard_some H
              have h4 := h3.ext x2
              obtain ⟨ad1, e1, a1⟩ := kSeg_at h4.slL g2.1 g2.2
              refine RW.index tabOk g2.1 g2.2 e1 ⟨rfl, rfl, rfl, rfl⟩ rfl rfl rfl rfl rfl rfl ?_
              refine RW.pure tabOk 5 rfl ?_
              obtain ⟨g3, H⟩ := guard_some H
              obtain ⟨ad2, e2, a2⟩ := kSeg_at h4.slL g3.1 g3.2
              refine RW.index tabOk g3.1 g3.2 e2 ⟨rfl, rfl, rfl, rfl⟩ rfl rfl rfl rfl rfl rfl ?_
              refine RW.pure tabOk 2 rfl ?_
              refine RW.load tabOk [.int .i64 ((rd lt3_0 (w64 ((lt3_0.length : Int) - 1))).At)] ((a1.fld 0).take 1 rfl) ⟨rfl, rfl, rfl, rfl⟩ rfl rfl rfl rfl ?_
              refine RW.load tabOk [.int .i64 ((rd lt3_0 (w64 ((lt3_0.length : Int) - 1))).Len)] (a2.fld 1) ⟨rfl, rfl, rfl, rfl⟩ rfl rfl rfl rfl ?_
              refine RW.pure tabOk 3 rfl ?_
              refine RW.done ?_
              have h5 := Ext.trans x0_0 x2
              have h6 := gb1_0.ext x2
              exact NW.J fun a ha => ⟨((w64 (((rd lt3_0 (w64 ((lt3_0.length : Int) - 1))).At) + ((rd lt3_0 (w64 ((lt3_0.length : Int) - 1))).Len))) == it4_0), ha.sub ⟨rfl, rfl, rfl, rfl, trivial⟩, by omega, h4, h5, h6, H⟩
            · rw [if_neg c3] at H
              refine RW.bool 16 (b' := false) (decide_eq_false c3) rfl ?_
              refine RW.pure tabOk 18 rfl ?_
              refine RW.done ?_
              have h7 := h3.ext x2
              have h8 := Ext.trans x0_0 x2
              have h9 := gb1_0.ext x2
              exact NW.J fun a ha => ⟨false, ha.sub ⟨rfl, rfl, rfl, rfl, trivial⟩, by omega, h7, h8, h9, H⟩
          intro a w4 hJ hp
          obtain ⟨bt34_2, hS, hle, gL0_t3_2, x0_2, gb1_2, H⟩ := hJ
          unfold hermitageref1_Of.j1 at H
          refine CW.go hp hS ?_
          by_cases c4 : bt34_2 = true
          · rw [if_pos c4] at H
            refine CW.cond_t rfl (c4) ?_
            refine CW.lex [.W, .W, .W, .W, .W, .W, .L, .W, .W, .W, .M] rfl ?_
            refine RW.pure tabOk 4 rfl ?_
            obtain ⟨g4, H⟩ := guard_some H
            obtain ⟨ad3, e3, a3⟩ := kSeg_at gL0_t3_2.slL g4.1 g4.2
            refine RW.index tabOk g4.1 g4.2 e3 ⟨rfl, rfl, rfl, rfl⟩ rfl rfl rfl rfl rfl rfl ?_
            refine RW.pure tabOk 1 rfl ?_
            refine RW.load tabOk [.int .i64 ((rd lt3_0 (w64 ((lt3_0.length : Int) - 1))).Len)] (a3.fld 1) ⟨rfl, rfl, rfl, rfl⟩ rfl rfl rfl rfl ?_
            refine RW.pure tabOk 1 rfl ?_
            obtain ⟨g5, H⟩ := guard_some H
            obtain ⟨ad4, e4, a4⟩ := kSeg_at gL0_t3_2.slL g5.1 g5.2
            refine RW.index tabOk g5.1 g5.2 e4 ⟨rfl, rfl, rfl, rfl⟩ rfl rfl rfl rfl rfl rfl ?_
            refine RW.pure tabOk 1 rfl ?_
            refine RW.storeElL (y := (⟨(rd lt3_0 (w64 ((lt3_0.length : Int) - 1))).At, w64 (((rd lt3_0 (w64 ((lt3_0.length : Int) - 1))).Len) + 1)⟩ : Seg)) (lv := []) (k := 1) tabOk gL0_t3_2 (j := (w64 ((lt3_0.length : Int) - 1)).toNat) (by have := g5; omega) default [.int .i64 (w64 (((rd lt3_0 (w64 ((lt3_0.length : Int) - 1))).Len) + 1))] (fun cs ok' hr => by obtain rfl := kSeg_open hr; exact ⟨by simp, kSeg_mk (⟨(rd lt3_0 (w64 ((lt3_0.length : Int) - 1))).At, w64 (((rd lt3_0 (w64 ((lt3_0.length : Int) - 1))).Len) + 1)⟩ : Seg)⟩) trivial ⟨rfl, rfl, rfl⟩ rfl rfl e4 rfl rfl rfl rfl rfl ?_
            intro w6 x3 h10
            have sx3 := x3.size
            have h11 := h10.sub (l' := [(w1.heap.size, some w2.heap.size, some 93)]) (li' := []) ⟨(.inl ⟨by omega, by omega, rfl⟩), trivial⟩ trivial
            refine RW.tell 3 (v' := .slice At3_0 (lt3_0.set (w64 ((lt3_0.length : Int) - 1)).toNat (⟨(rd lt3_0 (w64 ((lt3_0.length : Int) - 1))).At, w64 (((rd lt3_0 (w64 ((lt3_0.length : Int) - 1))).Len) + 1)⟩ : Seg)).length ct3_0) (slice_len (List.length_set).symm) rfl ?_
            refine RW.done ?_
            refine NW.norm_block ?_
            have h12 := Ext.turn x0_2 x3 ⟨by omega, trivial⟩
            have h13 := gb1_2.turnL x3 (.inl (by decide))
            exact NW.J fun a ha => ⟨(lt3_0.set (w64 ((lt3_0.length : Int) - 1)).toNat (⟨(rd lt3_0 (w64 ((lt3_0.length : Int) - 1))).At, w64 (((rd lt3_0 (w64 ((lt3_0.length : Int) - 1))).Len) + 1)⟩ : Seg)), At3_0, ct3_0, ha.sub ⟨rfl, rfl, rfl, trivial⟩, by omega, (h11.sub ⟨(.inl ⟨by omega, trivial, rfl⟩), trivial⟩ trivial), h12, h13, H⟩
          · rw [if_neg c4] at H
            refine CW.cond_f rfl (bool_f c4) ?_
            refine CW.lex [.W, .W, .W, .X, .M, .W] rfl ?_
            refine RW.pure tabOk 3 rfl ?_
            refine RW.buildSlice (cs := [.int .i64 it4_0, .int .i64 1]) tabOk (.inl rfl) ⟨rfl, rfl, rfl, rfl⟩ rfl rfl rfl rfl rfl rfl rfl ?_
            intro b2 w7 x4 l2 h14
            have sx4 := x4.size
            have ltb2 := h14.lt
            have h15 := gL0_t3_2.ext x4
            obtain ⟨g6, H⟩ := guard_some H
            refine RW.append1L (d := kSeg) (v := (⟨it4_0, 1⟩ : Seg)) (l := [(w1.heap.size, some w2.heap.size, some 93)]) (li := []) (ly := []) (xs := lt3_0) tabOk h15 h14 (kSeg_mk (⟨it4_0, 1⟩ : Seg)) trivial (by simp only [maxLen]; omega) g6 ⟨rfl, rfl, rfl, rfl⟩ rfl rfl rfl rfl rfl rfl rfl ?_
            intro A1 c_1 w8 x5 h16
            have sx5 := x5.size
            have h17 := h16.close.sub (l' := [(w1.heap.size, some w8.heap.size, some 93)]) (li' := []) ⟨(.inl ⟨by omega, by omega, rfl⟩), ⟨(.inl ⟨by omega, by omega, rfl⟩), trivial⟩⟩ trivial
            refine RW.pure tabOk 1 rfl ?_
            refine RW.done ?_
            refine NW.norm_block ?_
            have h18 := Ext.turn (Ext.trans x0_2 x4) x5 ⟨by omega, trivial⟩
            have h19 := (gb1_2.ext x4).turnL x5 (.inl (by decide))
            exact NW.J fun a ha => ⟨(lt3_0 ++ [(⟨it4_0, 1⟩ : Seg)]), A1, c_1, ha.sub ⟨rfl, rfl, rfl, trivial⟩, by omega, (h17.sub ⟨(.inl ⟨by omega, trivial, rfl⟩), trivial⟩ trivial), h18, h19, H⟩
        · rw [if_neg c2] at H
          refine CW.cond_t rfl (not_t (bool_f c2)) ?_
          refine CW.exit ?_
          refine NW.exit_then (NW.exit_hit ?_)
          exact NW.J fun a ha => ⟨lt3_0, At3_0, ct3_0, ha.sub ⟨rfl, rfl, rfl, trivial⟩, by omega, (h3.sub ⟨(.inl ⟨by omega, trivial, rfl⟩), trivial⟩ trivial), x0_0, gb1_0, H⟩
      intro a w3 hJ hp
      obtain ⟨lt3_1, At3_1, ct3_1, hS, hle, ft3_1, x0_1, gb1_1, H⟩ := hJ
      unfold hermitageref1_Of.j0 at H
      refine CW.go hp hS ?_
      have h20 : Ow kSeg 93 w3.heap (okL [(w1.heap.size, some w3.heap.size, some 93)]) (okL []) At3_1 ct3_1 lt3_1 := ft3_1.close
      refine CW.lex [.W, .W, .W] rfl ?_
      refine RW.pure tabOk 3 rfl ?_
      refine RW.done ?_
      exact NW.J fun a ha => ⟨n1, Nat.lt_succ_self n1, lt3_1, At3_1, ct3_1, (w64 (it4_0 + 1)), ha.sub ⟨rfl, rfl, rfl, trivial⟩, by omega, (h20.sub ⟨(.inl ⟨by omega, trivial, rfl⟩), trivial⟩ trivial), x0_1, gb1_1, H⟩
    · rw [if_neg c1] at H
      refine CW.cond_f rfl (decide_eq_false c1) ?_
      refine CW.exit ?_
      refine NW.exit_then (NW.exit_then (NW.exit_hit ?_))
      refine NW.next ?_
      refine CW.seq ?_
      refine CW.lex [.W, .W] rfl ?_
      refine RW.pure tabOk 2 rfl ?_
      refine RW.done ?_
      refine NW.next ?_
      refine CW.ret ?_
      obtain rfl := Option.some.inj H
      exact NW.ret1 rfl (by rfl) ⟨At3_0, ct3_0, rfl, x0_0, (h3.sub (l' := [(w.heap.size, none, some 93)]) (li' := []) ⟨(.inl ⟨by omega, trivial, rfl⟩), trivial⟩ trivial)⟩

set_option maxHeartbeats 4000000 in
set_option maxRecDepth 100000 in
theorem hermitageref1_Set.calls (k : Nat) (A1 : Option Addr) (c_1 : Nat) (p0 : List Seg) (r : (Nat → Bool)) (w : World) (hs1 : Sl kSeg w.heap okAll A1 p0) (hl1 : p0.length ≤ c_1) (H : hermitageref1_Set.f k p0 = some r) :
    Calls Tryd.prog 57 #[.slice A1 p0.length c_1] w fun e w' => e = .returned (.agg (arrB 64 r).toArray) ∧ Ext w w' := by
  have h1 : Sl kSeg w.heap (okL [(0, some w.heap.size, none)]) A1 p0 := hs1.old _ rfl
  have x0 : Ext w w := Upd.refl _ w
  unfold hermitageref1_Set.f at H
  refine calls_start Tryd.func57 rfl 35 rfl [.slice A1 p0.length c_1] rfl ?_
  refine CW.seq ?_
  refine CW.lex [.X] rfl ?_
  refine RW.alloc tabOk (.inl rfl) ⟨rfl, rfl, rfl, rfl⟩ rfl rfl ?_
  intro b1 w1 x1 l1 h2
  have sx1 := x1.size
  have ltb1 := h2.lt
  refine RW.done ?_
  refine NW.next ?_
  refine CW.seq ?_
  refine CW.lex [.X] rfl ?_
  refine RW.alloc tabOk (.inl rfl) ⟨rfl, rfl, rfl, rfl⟩ rfl rfl ?_
  intro b2 w2 x2 l2 h3
  have sx2 := x2.size
  have ltb2 := h3.lt
  refine RW.done ?_
  refine NW.next ?_
  refine CW.seq ?_
  refine CW.seq ?_
  refine CW.lex [.W] rfl ?_
  refine RW.pure tabOk 1 rfl ?_
  refine RW.done ?_
  refine NW.next ?_
  refine CW.block ?_
  refine CW.loop (fun n1 a w3 => ∃ (it4_0 : Int) (ab2_0_0 : Nat → Bool), Sat 35 [(0, .slice A1 p0.length c_1), (2, .pointer (some ⟨b1, 0, none⟩)), (3, .pointer (some ⟨b2, 0, none⟩)), (4, .int .i64 it4_0)] a ∧ w2.heap.size ≤ w3.heap.size ∧ Sl kSeg w3.heap (okL [(0, some w.heap.size, none)]) A1 p0 ∧ Ext w w3 ∧ Box w3.heap b1 54 (arrB 64 (fun _ => false)) ∧ Box w3.heap b2 54 (arrB 64 ab2_0_0) ∧ hermitageref1_Set.l0 p0 k n1 it4_0 ab2_0_0 = some r) k ?_ ?_
  have h4 := (h1.ext x1).ext x2
  have h5 := Ext.trans (Ext.trans x0 x1) x2
  have h6 := h2.ext x2
  · exact fun a ha => ⟨0, (fun _ => false), ha.sub ⟨rfl, rfl, rfl, rfl, trivial⟩, by omega, h4, h5, h6, h3, H⟩
  intro n1 a w3 hI hp
  obtain ⟨it4_0, ab2_0_0, hS, hle, gF1_0, x0_0, gb1_0, gb2_0, H⟩ := hI
  cases n1 with
  | zero => cases H
  | succ n1 =>
    rw [hermitageref1_Set.l0] at H
    refine CW.go hp hS ?_
    refine CW.seq ?_
    refine CW.seq ?_
    refine CW.lex [.W, .W, .W, .W] rfl ?_
    refine RW.pure tabOk 4 rfl ?_
    refine RW.done ?_
    refine NW.next ?_
    by_cases c1 : it4_0 < (p0.length : Int)
    · rw [if_pos c1] at H
      refine CW.cond_t rfl (decide_eq_true c1) ?_
      refine CW.skip ?_
      refine NW.next ?_
      refine CW.seq ?_
      refine CW.block ?_
      refine CW.seq ?_
      refine CW.lex [.W, .W, .W, .W, .L, .W] rfl ?_
      refine RW.pure tabOk 2 rfl ?_
      obtain ⟨g1, H⟩ := guard_some H
      obtain ⟨ad1, e1, a1⟩ := kSeg_at gF1_0 g1.1 g1.2
      refine RW.index tabOk g1.1 g1.2 e1 ⟨rfl, rfl, rfl, rfl⟩ rfl rfl rfl rfl rfl rfl ?_
      refine RW.pure tabOk 1 rfl ?_
      refine RW.load tabOk [.int .i64 ((rd p0 it4_0).At)] ((a1.fld 0).take 1 rfl) ⟨rfl, rfl, rfl, rfl⟩ rfl rfl rfl rfl ?_
      refine RW.pure tabOk 1 rfl ?_
      refine RW.done ?_
      refine NW.next ?_
      refine CW.block ?_
      refine CW.loop (fun n2 a w4 => ∃ (it5_1 : Int) (ab2_0_1 : Nat → Bool), Sat 35 [(0, .slice A1 p0.length c_1), (2, .pointer (some ⟨b1, 0, none⟩)), (3, .pointer (some ⟨b2, 0, none⟩)), (4, .int .i64 it4_0), (5, .int .i64 it5_1)] a ∧ w3.heap.size ≤ w4.heap.size ∧ Sl kSeg w4.heap (okL [(0, some w.heap.size, none)]) A1 p0 ∧ Ext w w4 ∧ Box w4.heap b1 54 (arrB 64 (fun _ => false)) ∧ Box w4.heap b2 54 (arrB 64 ab2_0_1) ∧ hermitageref1_Set.l1 p0 it4_0 (hermitageref1_Set.l0 p0 k n1) n2 it5_1 ab2_0_1 = some r) k ?_ ?_
      · exact fun a ha => ⟨((rd p0 it4_0).At), ab2_0_0, ha.sub ⟨rfl, rfl, rfl, rfl, rfl, trivial⟩, by omega, gF1_0, x0_0, gb1_0, gb2_0, H⟩
      intro n2 a w4 hI hp
      obtain ⟨it5_1, ab2_0_1, hS, hle, gF1_1, x0_1, gb1_1, gb2_1, H⟩ := hI
      cases n2 with
      | zero => cases H
      | succ n2 =>
        rw [hermitageref1_Set.l1] at H
        refine CW.go hp hS ?_
        refine CW.seq ?_
        refine CW.seq ?_
        refine CW.ord [0, 0, 0, 6, 14, 30, 0, 0, 192, 448, 960, 2046, 4095] [(0, .W), (1, .W), (2, .W), (3, .W), (4, .W), (6, .W), (7, .W), (8, .W), (9, .W), (5, .L), (10, .L), (11, .W), (12, .W)] mixed (by kernel_rfl) ?_
        intro w5 x3
        have sx3 := x3.size
        refine RW.pure tabOk 3 rfl ?_
        obtain ⟨g2, H⟩ := guard_some H
        have h7 := gF1_1.ext x3
        obtain ⟨ad2, e2, a2⟩ := kSeg_at h7 g2.1 g2.2
        refine RW.index tabOk g2.1 g2.2 e2 ⟨rfl, rfl, rfl, rfl⟩ rfl rfl rfl rfl rfl rfl ?_
        refine RW.pure tabOk 3 rfl ?_
        obtain ⟨g3, H⟩ := guard_some H
        obtain ⟨ad3, e3, a3⟩ := kSeg_at h7 g3.1 g3.2
        refine RW.index tabOk g3.1 g3.2 e3 ⟨rfl, rfl, rfl, rfl⟩ rfl rfl rfl rfl rfl rfl ?_
        refine RW.pure tabOk 1 rfl ?_
        refine RW.load tabOk [.int .i64 ((rd p0 it4_0).At)] ((a2.fld 0).take 1 rfl) ⟨rfl, rfl, rfl, rfl⟩ rfl rfl rfl rfl ?_
        refine RW.load tabOk [.int .i64 ((rd p0 it4_0).Len)] (a3.fld 1) ⟨rfl, rfl, rfl, rfl⟩ rfl rfl rfl rfl ?_
        refine RW.pure tabOk 2 rfl ?_
        refine RW.done ?_
        refine NW.next ?_
        by_cases c2 : it5_1 < (w64 (((rd p0 it4_0).At) + ((rd p0 it4_0).Len)))
        · rw [if_pos c2] at H
          refine CW.cond_t rfl (decide_eq_true c2) ?_
          refine CW.skip ?_
          refine NW.next ?_
          refine CW.seq ?_
          refine CW.block ?_
          refine CW.lex [.W, .W, .M] rfl ?_
          refine RW.pure tabOk 1 rfl ?_
          obtain ⟨g4, H⟩ := guard_some H
          refine RW.indexBox tabOk g4.1 g4.2 ⟨rfl, rfl, rfl, rfl⟩ rfl rfl rfl rfl rfl rfl rfl ?_
          have h8 := gb2_1.ext x3
          refine RW.storeBox tabOk h8 [.bool true] ⟨rfl, rfl, rfl⟩ rfl rfl rfl rfl rfl rfl rfl (arrF_fit (by have := g4; omega)) ?_
          intro w6 x4 h9
          have h10 : Box w6.heap b2 54 (arrB 64 (updF ab2_0_1 it5_1.toNat true)) := by rw [lay_arrF] at h9; exact h9
          have sx4 := x4.size
          refine RW.done ?_
          refine NW.norm_block (NW.next ?_)
          refine CW.lex [.W, .W, .W] rfl ?_
          refine RW.pure tabOk 3 rfl ?_
          refine RW.done ?_
          have h11 := h7.turnB x4 h8 ⟨.inr (by omega), trivial⟩
          have h12 := Ext.turnB (Ext.trans x0_1 x3) x4 (by omega)
          have h13 := (gb1_1.ext x3).turnB x4 (by omega)
          exact NW.J fun a ha => ⟨n2, Nat.lt_succ_self n2, (w64 (it5_1 + 1)), (updF ab2_0_1 it5_1.toNat true), ha.sub ⟨rfl, rfl, rfl, rfl, rfl, trivial⟩, by omega, h11, h12, h13, h10, H⟩
        · rw [if_neg c2] at H
          refine CW.cond_f rfl (decide_eq_false c2) ?_
          refine CW.exit ?_
          refine NW.exit_then (NW.exit_then (NW.exit_hit ?_))
          refine NW.norm_block (NW.next ?_)
          refine CW.lex [.W, .W, .W] rfl ?_
          refine RW.pure tabOk 3 rfl ?_
          refine RW.done ?_
          have h14 := Ext.trans x0_1 x3
          have h15 := gb1_1.ext x3
          have h16 := gb2_1.ext x3
          exact NW.J fun a ha => ⟨n1, Nat.lt_succ_self n1, (w64 (it4_0 + 1)), ab2_0_1, ha.sub ⟨rfl, rfl, rfl, rfl, trivial⟩, by omega, h7, h14, h15, h16, H⟩
    · rw [if_neg c1] at H
      refine CW.cond_f rfl (decide_eq_false c1) ?_
      refine CW.exit ?_
      refine NW.exit_then (NW.exit_then (NW.exit_hit ?_))
      refine NW.next ?_
      refine CW.seq ?_
      refine CW.lex [.L, .M] rfl ?_
      refine RW.load tabOk (arrB 64 ab2_0_0) (gb2_0.at 0) ⟨rfl, rfl, rfl, rfl⟩ rfl rfl rfl arrF_len ?_
      refine RW.storeBox tabOk gb1_0 (arrB 64 ab2_0_0) ⟨rfl, rfl, rfl⟩ rfl rfl rfl rfl rfl arrF_len (arrF_all fun _ => rfl) (arrF_fitAll arrF_len) ?_
      intro w7 x5 h17
      have h18 : Box w7.heap b1 54 (arrB 64 ab2_0_0) := by rw [lay_arrFull] at h17; exact h17
      have sx5 := x5.size
      refine RW.done ?_
      refine NW.next ?_
      refine CW.ret ?_
      obtain rfl := Option.some.inj H
      have h19 := Ext.turnB x0_0 x5 (by omega)
      exact NW.ret1 rfl (resOne_cell tabOk (h18.at 0) rfl rfl arrF_len) ⟨rfl, h19⟩

set_option maxHeartbeats 4000000 in
set_option maxRecDepth 100000 in
theorem hermitageref1_Two.calls (k : Nat) (A1 : Option Addr) (c_1 : Nat) (p0 : List Seg) (A2 : Option Addr) (c_2 : Nat) (p1 : List Seg) (p2 : Int) (r : (List Seg)) (w : World) (hs1 : Sl kSeg w.heap okAll A1 p0) (hl1 : p0.length ≤ c_1) (hs2 : Sl kSeg w.heap okAll A2 p1) (hl2 : p1.length ≤ c_2) (H : hermitageref1_Two.f k p0 p1 p2 = some r) :
    Calls Tryd.prog 20 #[.slice A1 p0.length c_1, .slice A2 p1.length c_2, .int .i64 p2] w fun e w' => ∃ (B1 : Option Addr) (d1 : Nat), e = .returned (.slice B1 r.length d1) ∧ Ext w w' ∧ Ow kSeg 93 w'.heap (okL [(w.heap.size, none, some 93)]) (okL []) B1 d1 r := by
  have h1 : Sl kSeg w.heap (okL [(0, some w.heap.size, none)]) A1 p0 := hs1.old _ rfl
  have h2 : Sl kSeg w.heap (okL [(0, some w.heap.size, none)]) A2 p1 := hs2.old _ rfl
  have x0 : Ext w w := Upd.refl _ w
  unfold hermitageref1_Two.f at H
  refine calls_start Tryd.func20 rfl 57 rfl [.slice A1 p0.length c_1, .slice A2 p1.length c_2, .int .i64 p2] rfl ?_
  refine CW.seq ?_
  refine CW.lex [.W] rfl ?_
  refine RW.pure tabOk 1 rfl ?_
  refine RW.done ?_
  refine NW.next ?_
  refine CW.seq ?_
  refine CW.lex [.W, .X, .W, .X, .X, .X, .M, .M] rfl ?_
  refine RW.pure tabOk 1 rfl ?_
  obtain ⟨y1, h3, H⟩ := bind_some H
  refine RW.callF (.inl rfl) ent57 ⟨rfl, rfl, rfl, rfl⟩ rfl rfl (hermitageref1_Set.calls k A1 c_1 p0 _ _ h1.all hl1 h3) ?_
  rintro _ w1 ⟨rfl, x1⟩
  refine ⟨_, rfl, x1, ?_⟩
  have sx1 := x1.size
  refine RW.pure tabOk 1 rfl ?_
  have h4 := h2.ext x1
  obtain ⟨y2, h5, H⟩ := bind_some H
  refine RW.callF (.inl rfl) ent57 ⟨rfl, rfl, rfl, rfl⟩ rfl rfl (hermitageref1_Set.calls k A2 c_2 p1 _ _ h4.all hl2 h5) ?_
  rintro _ w2 ⟨rfl, x2⟩
  refine ⟨_, rfl, x2, ?_⟩
  have sx2 := x2.size
  refine RW.alloc tabOk (.inl rfl) ⟨rfl, rfl, rfl, rfl⟩ rfl rfl ?_
  intro b1 w3 x3 l1 h6
  have sx3 := x3.size
  have ltb1 := h6.lt
  refine RW.alloc tabOk (.inl rfl) ⟨rfl, rfl, rfl, rfl⟩ rfl rfl ?_
  intro b2 w4 x4 l2 h7
  have sx4 := x4.size
  have ltb2 := h7.lt
  have h8 := h6.ext x4
  refine RW.storeBox tabOk h8 (arrB 64 y1) ⟨rfl, rfl, rfl⟩ rfl rfl rfl rfl rfl arrF_len (arrF_all fun _ => rfl) (arrF_fitAll arrF_len) ?_
  intro w5 x5 h9
  have h10 : Box w5.heap b1 54 (arrB 64 y1) := by rw [lay_arrFull] at h9; exact h9
  have sx5 := x5.size
  have h11 := h7.turnB x5 (by omega)
  refine RW.storeBox tabOk h11 (arrB 64 y2) ⟨rfl, rfl, rfl⟩ rfl rfl rfl rfl rfl arrF_len (arrF_all fun _ => rfl) (arrF_fitAll arrF_len) ?_
  intro w6 x6 h12
  have h13 : Box w6.heap b2 54 (arrB 64 y2) := by rw [lay_arrFull] at h12; exact h12
  have sx6 := x6.size
  refine RW.done ?_
  refine NW.next ?_
  refine CW.seq ?_
  refine CW.lex [.X] rfl ?_
  refine RW.alloc tabOk (.inl rfl) ⟨rfl, rfl, rfl, rfl⟩ rfl rfl ?_
  intro b3 w7 x7 l3 h14
  have sx7 := x7.size
  have ltb3 := h14.lt
  refine RW.done ?_
  refine NW.next ?_
  refine CW.seq ?_
  refine CW.seq ?_
  refine CW.lex [.W] rfl ?_
  refine RW.pure tabOk 1 rfl ?_
  refine RW.done ?_
  refine NW.next ?_
  refine CW.block ?_
  refine CW.loop (fun n1 a w8 => ∃ (it10_0 : Int) (ab3_0_0 : Nat → Bool), Sat 57 [(2, .int .i64 p2), (7, .pointer (some ⟨b1, 0, none⟩)), (8, .pointer (some ⟨b2, 0, none⟩)), (9, .pointer (some ⟨b3, 0, none⟩)), (10, .int .i64 it10_0)] a ∧ w7.heap.size ≤ w8.heap.size ∧ Ext w w8 ∧ Box w8.heap b1 54 (arrB 64 y1) ∧ Box w8.heap b2 54 (arrB 64 y2) ∧ Box w8.heap b3 54 (arrB 64 ab3_0_0) ∧ hermitageref1_Two.l0 p2 k y1 y2 n1 it10_0 ab3_0_0 = some r) k ?_ ?_
  have h15 := Ext.trans (Ext.turnB (Ext.turnB (Ext.trans (Ext.trans (Ext.trans (Ext.trans x0 x1) x2) x3) x4) x5 (by omega)) x6 (by omega)) x7
  have h16 := (h10.turnB x6 (by omega)).ext x7
  have h17 := h13.ext x7
  · exact fun a ha => ⟨0, (fun _ => false), ha.sub ⟨rfl, rfl, rfl, rfl, rfl, trivial⟩, by omega, h15, h16, h17, h14, H⟩
  intro n1 a w8 hI hp
  obtain ⟨it10_0, ab3_0_0, hS, hle, x0_0, gb1_0, gb2_0, gb3_0, H⟩ := hI
  cases n1 with
  | zero => cases H
  | succ n1 =>
    rw [hermitageref1_Two.l0] at H
    refine CW.go hp hS ?_
    refine CW.seq ?_
    refine CW.seq ?_
    refine CW.lex [.W, .W] rfl ?_
    refine RW.pure tabOk 2 rfl ?_
    refine RW.done ?_
    refine NW.next ?_
    by_cases c1 : it10_0 < 64
    · rw [if_pos c1] at H
      refine CW.cond_t rfl (decide_eq_true c1) ?_
      refine CW.skip ?_
      refine NW.next ?_
      refine CW.seqJ (fun a w9 => ∃ (ab3_0_1 : Nat → Bool), Sat 57 [(2, .int .i64 p2), (7, .pointer (some ⟨b1, 0, none⟩)), (8, .pointer (some ⟨b2, 0, none⟩)), (9, .pointer (some ⟨b3, 0, none⟩)), (10, .int .i64 it10_0)] a ∧ w8.heap.size ≤ w9.heap.size ∧ Ext w w9 ∧ Box w9.heap b1 54 (arrB 64 y1) ∧ Box w9.heap b2 54 (arrB 64 y2) ∧ Box w9.heap b3 54 (arrB 64 ab3_0_1) ∧ hermitageref1_Two.j0 it10_0 (hermitageref1_Two.l0 p2 k y1 y2 n1) ab3_0_1 = some r) ?_ ?_
      ·
        refine CW.block ?_
        refine CW.seq ?_
        refine CW.lex [.W] rfl ?_
        refine RW.pure tabOk 1 rfl ?_
        refine RW.done ?_
        refine NW.next ?_
        refine CW.block ?_
        refine CW.seq ?_
        refine CW.lex [.W, .W] rfl ?_
        refine RW.pure tabOk 2 rfl ?_
        refine RW.done ?_
        refine NW.next ?_
        by_cases c2 : p2 = 0
        · rw [if_pos c2] at H
          refine CW.cond_t rfl (beq_t c2) ?_
          refine CW.lex [.W, .W, .W, .L, .W, .W, .W, .L, .W, .W, .M] rfl ?_
          refine RW.pure tabOk 2 rfl ?_
          obtain ⟨g1, H⟩ := guard_some H
          refine RW.indexBox tabOk g1.1 g1.2 ⟨rfl, rfl, rfl, rfl⟩ rfl rfl rfl rfl rfl rfl rfl ?_
          refine RW.load tabOk [.bool (y1 it10_0.toNat)] (gb1_0.elF (by have := g1; omega)) ⟨rfl, rfl, rfl, rfl⟩ rfl rfl rfl rfl ?_
          refine RW.pure tabOk 1 rfl ?_
          by_cases c3 : (y1 it10_0.toNat) = true
          · rw [if_pos c3] at H
            refine RW.bool 36 (b' := true) (c3) rfl ?_
            refine RW.pure tabOk 4 rfl ?_
            obtain ⟨g2, H⟩ := guard_some H
            refine RW.indexBox tabOk g2.1 g2.2 ⟨rfl, rfl, rfl, rfl⟩ rfl rfl rfl rfl rfl rfl rfl ?_
            refine RW.storeBox tabOk gb3_0 [.bool true] ⟨rfl, rfl, rfl⟩ rfl rfl rfl rfl rfl rfl rfl (arrF_fit (by have := g2; omega)) ?_
            intro w10 x8 h18
            have h19 : Box w10.heap b3 54 (arrB 64 (updF ab3_0_0 it10_0.toNat true)) := by rw [lay_arrF] at h18; exact h18
            have sx8 := x8.size
            refine RW.done ?_
            refine NW.norm_block (NW.norm_block ?_)
            have h20 := Ext.turnB x0_0 x8 (by omega)
            have h21 := gb1_0.turnB x8 (by omega)
            have h22 := gb2_0.turnB x8 (by omega)
            exact NW.J fun a ha => ⟨(updF ab3_0_0 it10_0.toNat true), ha.sub ⟨rfl, rfl, rfl, rfl, rfl, trivial⟩, by omega, h20, h21, h22, h19, H⟩
          · rw [if_neg c3] at H
            refine RW.bool 36 (b' := false) (bool_f c3) rfl ?_
            refine RW.pure tabOk 1 rfl ?_
            obtain ⟨g3, H⟩ := guard_some H
            refine RW.indexBox tabOk g3.1 g3.2 ⟨rfl, rfl, rfl, rfl⟩ rfl rfl rfl rfl rfl rfl rfl ?_
            refine RW.load tabOk [.bool (y2 it10_0.toNat)] (gb2_0.elF (by have := g3; omega)) ⟨rfl, rfl, rfl, rfl⟩ rfl rfl rfl rfl ?_
            refine RW.pure tabOk 1 rfl ?_
            obtain ⟨g4, H⟩ := guard_some H
            refine RW.indexBox tabOk g4.1 g4.2 ⟨rfl, rfl, rfl, rfl⟩ rfl rfl rfl rfl rfl rfl rfl ?_
            refine RW.storeBox tabOk gb3_0 [.bool (y2 it10_0.toNat)] ⟨rfl, rfl, rfl⟩ rfl rfl rfl rfl rfl rfl rfl (arrF_fit (by have := g4; omega)) ?_
            intro w11 x9 h23
            have h24 : Box w11.heap b3 54 (arrB 64 (updF ab3_0_0 it10_0.toNat (y2 it10_0.toNat))) := by rw [lay_arrF] at h23; exact h23
            have sx9 := x9.size
            refine RW.done ?_
            refine NW.norm_block (NW.norm_block ?_)
            have h25 := Ext.turnB x0_0 x9 (by omega)
            have h26 := gb1_0.turnB x9 (by omega)
            have h27 := gb2_0.turnB x9 (by omega)
            exact NW.J fun a ha => ⟨(updF ab3_0_0 it10_0.toNat (y2 it10_0.toNat)), ha.sub ⟨rfl, rfl, rfl, rfl, rfl, trivial⟩, by omega, h25, h26, h27, h24, H⟩
        · rw [if_neg c2] at H
          refine CW.cond_f rfl (beq_f c2) ?_
          refine CW.seq ?_
          refine CW.lex [.W, .W] rfl ?_
          refine RW.pure tabOk 2 rfl ?_
          refine RW.done ?_
          refine NW.next ?_
          by_cases c4 : p2 = 1
          · rw [if_pos c4] at H
            refine CW.cond_t rfl (beq_t c4) ?_
            refine CW.lex [.W, .W, .W, .L, .W, .W, .W, .L, .W, .W, .W, .M] rfl ?_
            refine RW.pure tabOk 2 rfl ?_
            obtain ⟨g5, H⟩ := guard_some H
            refine RW.indexBox tabOk g5.1 g5.2 ⟨rfl, rfl, rfl, rfl⟩ rfl rfl rfl rfl rfl rfl rfl ?_
            refine RW.load tabOk [.bool (y1 it10_0.toNat)] (gb1_0.elF (by have := g5; omega)) ⟨rfl, rfl, rfl, rfl⟩ rfl rfl rfl rfl ?_
            refine RW.pure tabOk 1 rfl ?_
            by_cases c5 : (y1 it10_0.toNat) = true
            · rw [if_pos c5] at H
              refine RW.bool 48 (b' := true) (c5) rfl ?_
              refine RW.pure tabOk 1 rfl ?_
              obtain ⟨g6, H⟩ := guard_some H
              refine RW.indexBox tabOk g6.1 g6.2 ⟨rfl, rfl, rfl, rfl⟩ rfl rfl rfl rfl rfl rfl rfl ?_
              refine RW.load tabOk [.bool (y2 it10_0.toNat)] (gb2_0.elF (by have := g6; omega)) ⟨rfl, rfl, rfl, rfl⟩ rfl rfl rfl rfl ?_
              refine RW.pure tabOk 2 rfl ?_
              obtain ⟨g7, H⟩ := guard_some H
              refine RW.indexBox tabOk g7.1 g7.2 ⟨rfl, rfl, rfl, rfl⟩ rfl rfl rfl rfl rfl rfl rfl ?_
              refine RW.storeBox tabOk gb3_0 [.bool (!(y2 it10_0.toNat))] ⟨rfl, rfl, rfl⟩ rfl rfl rfl rfl rfl rfl rfl (arrF_fit (by have := g7; omega)) ?_
              intro w12 x10 h28
              have h29 : Box w12.heap b3 54 (arrB 64 (updF ab3_0_0 it10_0.toNat (!(y2 it10_0.toNat)))) := by rw [lay_arrF] at h28; exact h28
              have sx10 := x10.size
              refine RW.done ?_
              refine NW.norm_block (NW.norm_block ?_)
              have h30 := Ext.turnB x0_0 x10 (by omega)
              have h31 := gb1_0.turnB x10 (by omega)
              have h32 := gb2_0.turnB x10 (by omega)
              exact NW.J fun a ha => ⟨(updF ab3_0_0 it10_0.toNat (!(y2 it10_0.toNat))), ha.sub ⟨rfl, rfl, rfl, rfl, rfl, trivial⟩, by omega, h30, h31, h32, h29, H⟩
            · rw [if_neg c5] at H
              refine RW.bool 48 (b' := false) (bool_f c5) rfl ?_
              refine RW.pure tabOk 5 rfl ?_
              obtain ⟨g8, H⟩ := guard_some H
              refine RW.indexBox tabOk g8.1 g8.2 ⟨rfl, rfl, rfl, rfl⟩ rfl rfl rfl rfl rfl rfl rfl ?_
              refine RW.storeBox tabOk gb3_0 [.bool false] ⟨rfl, rfl, rfl⟩ rfl rfl rfl rfl rfl rfl rfl (arrF_fit (by have := g8; omega)) ?_
              intro w13 x11 h33
              have h34 : Box w13.heap b3 54 (arrB 64 (updF ab3_0_0 it10_0.toNat false)) := by rw [lay_arrF] at h33; exact h33
              have sx11 := x11.size
              refine RW.done ?_
              refine NW.norm_block (NW.norm_block ?_)
              have h35 := Ext.turnB x0_0 x11 (by omega)
              have h36 := gb1_0.turnB x11 (by omega)
              have h37 := gb2_0.turnB x11 (by omega)
              exact NW.J fun a ha => ⟨(updF ab3_0_0 it10_0.toNat false), ha.sub ⟨rfl, rfl, rfl, rfl, rfl, trivial⟩, by omega, h35, h36, h37, h34, H⟩
          · rw [if_neg c4] at H
            refine CW.cond_f rfl (beq_f c4) ?_
            refine CW.lex [.W, .W, .W, .L, .W, .W, .W, .L, .W, .W, .M] rfl ?_
            refine RW.pure tabOk 2 rfl ?_
            obtain ⟨g9, H⟩ := guard_some H
            refine RW.indexBox tabOk g9.1 g9.2 ⟨rfl, rfl, rfl, rfl⟩ rfl rfl rfl rfl rfl rfl rfl ?_
            refine RW.load tabOk [.bool (y1 it10_0.toNat)] (gb1_0.elF (by have := g9; omega)) ⟨rfl, rfl, rfl, rfl⟩ rfl rfl rfl rfl ?_
            refine RW.pure tabOk 1 rfl ?_
            by_cases c6 : (y1 it10_0.toNat) = true
            · rw [if_pos c6] at H
              refine RW.bool 24 (b' := true) (c6) rfl ?_
              refine RW.pure tabOk 1 rfl ?_
              obtain ⟨g10, H⟩ := guard_some H
              refine RW.indexBox tabOk g10.1 g10.2 ⟨rfl, rfl, rfl, rfl⟩ rfl rfl rfl rfl rfl rfl rfl ?_
              refine RW.load tabOk [.bool (y2 it10_0.toNat)] (gb2_0.elF (by have := g10; omega)) ⟨rfl, rfl, rfl, rfl⟩ rfl rfl rfl rfl ?_
              refine RW.pure tabOk 1 rfl ?_
              obtain ⟨g11, H⟩ := guard_some H
              refine RW.indexBox tabOk g11.1 g11.2 ⟨rfl, rfl, rfl, rfl⟩ rfl rfl rfl rfl rfl rfl rfl ?_
              refine RW.storeBox tabOk gb3_0 [.bool (y2 it10_0.toNat)] ⟨rfl, rfl, rfl⟩ rfl rfl rfl rfl rfl rfl rfl (arrF_fit (by have := g11; omega)) ?_
              intro w14 x12 h38
              have h39 : Box w14.heap b3 54 (arrB 64 (updF ab3_0_0 it10_0.toNat (y2 it10_0.toNat))) := by rw [lay_arrF] at h38; exact h38
              have sx12 := x12.size
              refine RW.done ?_
              refine NW.norm_block (NW.norm_block ?_)
              have h40 := Ext.turnB x0_0 x12 (by omega)
              have h41 := gb1_0.turnB x12 (by omega)
              have h42 := gb2_0.turnB x12 (by omega)
              exact NW.J fun a ha => ⟨(updF ab3_0_0 it10_0.toNat (y2 it10_0.toNat)), ha.sub ⟨rfl, rfl, rfl, rfl, rfl, trivial⟩, by omega, h40, h41, h42, h39, H⟩
            · rw [if_neg c6] at H
              refine RW.bool 24 (b' := false) (bool_f c6) rfl ?_
              refine RW.pure tabOk 4 rfl ?_
              obtain ⟨g12, H⟩ := guard_some H
              refine RW.indexBox tabOk g12.1 g12.2 ⟨rfl, rfl, rfl, rfl⟩ rfl rfl rfl rfl rfl rfl rfl ?_
              refine RW.storeBox tabOk gb3_0 [.bool false] ⟨rfl, rfl, rfl⟩ rfl rfl rfl rfl rfl rfl rfl (arrF_fit (by have := g12; omega)) ?_
              intro w15 x13 h43
              have h44 : Box w15.heap b3 54 (arrB 64 (updF ab3_0_0 it10_0.toNat false)) := by rw [lay_arrF] at h43; exact h43
              have sx13 := x13.size
              refine RW.done ?_
              refine NW.norm_block (NW.norm_block ?_)
              have h45 := Ext.turnB x0_0 x13 (by omega)
              have h46 := gb1_0.turnB x13 (by omega)
              have h47 := gb2_0.turnB x13 (by omega)
              exact NW.J fun a ha => ⟨(updF ab3_0_0 it10_0.toNat false), ha.sub ⟨rfl, rfl, rfl, rfl, rfl, trivial⟩, by omega, h45, h46, h47, h44, H⟩
      intro a w9 hJ hp
      obtain ⟨ab3_0_1, hS, hle, x0_1, gb1_1, gb2_1, gb3_1, H⟩ := hJ
      unfold hermitageref1_Two.j0 at H
      refine CW.go hp hS ?_
      refine CW.lex [.W, .W, .W] rfl ?_
      refine RW.pure tabOk 3 rfl ?_
      refine RW.done ?_
      exact NW.J fun a ha => ⟨n1, Nat.lt_succ_self n1, (w64 (it10_0 + 1)), ab3_0_1, ha.sub ⟨rfl, rfl, rfl, rfl, rfl, trivial⟩, by omega, x0_1, gb1_1, gb2_1, gb3_1, H⟩
    · rw [if_neg c1] at H
      refine CW.cond_f rfl (decide_eq_false c1) ?_
      refine CW.exit ?_
      refine NW.exit_then (NW.exit_then (NW.exit_hit ?_))
      refine NW.next ?_
      refine CW.seq ?_
      refine CW.lex [.L, .X, .W] rfl ?_
      refine RW.load tabOk (arrB 64 ab3_0_0) (gb3_0.at 0) ⟨rfl, rfl, rfl, rfl⟩ rfl rfl rfl arrF_len ?_
      obtain ⟨y3, h48, H⟩ := bind_some H
      refine RW.callF (.inl rfl) ent35 ⟨rfl, rfl, rfl, rfl⟩ rfl rfl (hermitageref1_Of.calls k ab3_0_0 _ _ h48) ?_
      rintro _ w16 ⟨A3, c_3, rfl, x14, h49⟩
      refine ⟨_, rfl, x14, ?_⟩
      have sx14 := x14.size
      have h50 : Ow kSeg 93 w16.heap (okL [(w8.heap.size, some w16.heap.size, some 93)]) (okL []) A3 c_3 y3 := h49.close
      refine RW.pure tabOk 1 rfl ?_
      refine RW.done ?_
      refine NW.next ?_
      refine CW.ret ?_
      obtain rfl := Option.some.inj H
      have h51 := Ext.trans x0_0 x14
      exact NW.ret1 rfl (by rfl) ⟨A3, c_3, rfl, h51, (h50.sub (l' := [(w.heap.size, none, some 93)]) (li' := []) ⟨(.inl ⟨by omega, trivial, rfl⟩), trivial⟩ trivial)⟩

end Go.Proofs.YtnaajldlloglkaaDoor.W
