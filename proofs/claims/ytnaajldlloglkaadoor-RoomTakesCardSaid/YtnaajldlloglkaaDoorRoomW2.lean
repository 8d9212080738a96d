/- Walks; printed by a program of the claim. -/
import Derived.Test.YtnaajldlloglkaaDoorRoomW1
set_option linter.unusedVariables false
set_option linter.unusedSimpArgs false
namespace Go.Proofs.YtnaajldlloglkaaDoor.W
open Go.H Go.Proofs
set_option maxHeartbeats 4000000 in
set_option maxRecDepth 100000 in
theorem hermitageref0_CopyPtrs.calls (k : Nat) (A1 : Option Addr) (c_1 : Nat) (p0 : List Ptr) (r : (List Ptr)) (w : World) (hs1 : Sl kPtr w.heap okAll A1 p0) (hl1 : p0.length ≤ c_1) (H : hermitageref0_CopyPtrs.f k p0 = some r) :
    Calls Tryd.prog 106 #[.slice A1 p0.length c_1] w fun e w' => ∃ (B1 : Option Addr) (d1 : Nat), e = .returned (.slice B1 r.length d1) ∧ Ext w w' ∧ Ow kPtr 70 w'.heap (okL [(w.heap.size, none, some 70)]) (okL []) B1 d1 r := by
 have h1 : Sl kPtr w.heap (okL [(0, some w.heap.size, none)]) A1 p0 := hs1.old _ rfl
 have x0 : Ext w w := Upd.refl _ w
 unfold hermitageref0_CopyPtrs.f at H
 refine calls_start Tryd.func106 rfl 19 rfl [.slice A1 p0.length c_1] rfl ?_
 refine CW.seq ?_
 refine CW.lex [.W] rfl ?_
 refine RW.pure tabOk 1 rfl ?_
 refine RW.done ?_
 refine NW.next ?_
 refine CW.seq ?_
 refine CW.lex [.W] rfl ?_
 refine RW.pure tabOk 1 rfl ?_
 refine RW.done ?_
 refine NW.next ?_
 refine CW.seq ?_
 refine CW.seq ?_
 refine CW.lex [.W] rfl ?_
 refine RW.pure tabOk 1 rfl ?_
 refine RW.done ?_
 refine NW.next ?_
 refine CW.block ?_
 refine CW.loop (fun n1 a w1 => ∃ (lt3_0 : List Ptr) (At3_0 : Option Addr) (ct3_0 : Nat) (it4_0 : Int), Sat 19 [(0, .slice A1 p0.length c_1), (3, .slice At3_0 lt3_0.length ct3_0), (4, .int .i64 it4_0)] a ∧ w.heap.size ≤ w1.heap.size ∧ Ow kPtr 70 w1.heap (okL [(w.heap.size, none, some 70)]) (okL []) At3_0 ct3_0 lt3_0 ∧ Sl kPtr w1.heap (okL [(0, some w.heap.size, none)]) A1 p0 ∧ Ext w w1 ∧ hermitageref0_CopyPtrs.l0 p0 n1 lt3_0 it4_0 = some r) k ?_ ?_
 · exact fun a ha => ⟨([] : List Ptr), none, 0, 0, ha.sub ⟨rfl, rfl, rfl, trivial⟩, by omega, Ow.nil, h1, x0, H⟩
 intro n1 a w1 hI hp
 obtain ⟨lt3_0, At3_0, ct3_0, it4_0, hS, hle, ft3_0, gF1_0, x0_0, H⟩ := hI
 cases n1 with
 | zero => cases H
 | succ n1 =>
  rw [hermitageref0_CopyPtrs.l0] at H
  refine CW.go hp hS ?_
  have h2 : Ow kPtr 70 w1.heap (okL [(w.heap.size, some w1.heap.size, some 70)]) (okL []) At3_0 ct3_0 lt3_0 := ft3_0.close
  refine CW.seq ?_
  refine CW.seq ?_
  refine CW.lex [.W, .W, .W, .W] rfl ?_
  refine RW.pure tabOk 4 rfl ?_
  refine RW.done ?_
  refine NW.next ?_
  by_cases c1 : it4_0 < (p0.length : Int)
  ·
   rw [if_pos c1] at H
   refine CW.cond_t rfl (decide_eq_true c1) ?_
   refine CW.skip ?_
   refine NW.next ?_
   refine CW.seq ?_
   refine CW.block ?_
   refine CW.lex [.W, .W, .W, .W, .L, .X, .M, .W] rfl ?_
   refine RW.pure tabOk 3 rfl ?_
   obtain ⟨g1, H⟩ := guard_some H
   obtain ⟨ad1, e1, a1⟩ := kPtr_at gF1_0 g1.1 g1.2
   refine RW.index tabOk g1.1 g1.2 e1 ⟨rfl, rfl, rfl, rfl⟩ rfl rfl rfl rfl rfl rfl ?_
   refine RW.load tabOk [.int .i64 ((rd p0 it4_0).Dev), .int .i64 ((rd p0 it4_0).At)] a1 ⟨rfl, rfl, rfl, rfl⟩ rfl rfl rfl rfl ?_
   refine RW.buildSlice (cs := [.int .i64 ((rd p0 it4_0).Dev), .int .i64 ((rd p0 it4_0).At)]) tabOk (.inl rfl) ⟨rfl, rfl, rfl, rfl⟩ rfl rfl rfl rfl rfl rfl rfl ?_
   intro b1 w2 x1 l1 h3
   have sx1 := x1.size
   have ltb1 := h3.lt
   have h4 := h2.ext x1
   obtain ⟨g2, H⟩ := guard_some H
   refine RW.append1L (d := kPtr) (v := (rd p0 it4_0)) (l := [(w.heap.size, some w1.heap.size, some 70)]) (li := []) (ly := []) (xs := lt3_0) tabOk h4 h3 (kPtr_mk (rd p0 it4_0)) trivial (by simp only [maxLen]; omega) g2 ⟨rfl, rfl, rfl, rfl⟩ rfl rfl rfl rfl rfl rfl rfl ?_
   intro A2 c_2 w3 x2 h5
   have sx2 := x2.size
   have h6 := h5.close.sub (l' := [(w.heap.size, some w3.heap.size, some 70)]) (li' := []) ⟨(.inl ⟨by omega, by omega, rfl⟩), ⟨(.inl ⟨by omega, by omega, rfl⟩), trivial⟩⟩ trivial
   refine RW.pure tabOk 1 rfl ?_
   refine RW.done ?_
   refine NW.norm_block (NW.next ?_)
   refine CW.lex [.W, .W, .W] rfl ?_
   refine RW.pure tabOk 3 rfl ?_
   refine RW.done ?_
   have h7 := (gF1_0.ext x1).turnL x2 ⟨⟨.inr (.inl (by omega)), trivial⟩, trivial⟩
   have h8 := Ext.turn (Ext.trans x0_0 x1) x2 ⟨by omega, trivial⟩
   exact NW.J fun a ha => ⟨n1, Nat.lt_succ_self n1, (lt3_0 ++ [(rd p0 it4_0)]), A2, c_2, (w64 (it4_0 + 1)), ha.sub ⟨rfl, rfl, rfl, trivial⟩, by omega, (h6.sub ⟨(.inl ⟨by omega, trivial, rfl⟩), trivial⟩ trivial), h7, h8, H⟩
  ·
   rw [if_neg c1] at H
   refine CW.cond_f rfl (decide_eq_false c1) ?_
   refine CW.exit ?_
   refine NW.exit_then (NW.exit_then (NW.exit_hit ?_))
   refine NW.next ?_
   refine CW.seq ?_
   refine CW.lex [.W, .W] rfl ?_
   refine RW.pure tabOk 2 rfl ?_
   refine RW.done ?_
   refine NW.next ?_
   refine CW.ret ?_
   obtain rfl := Option.some.inj H
   exact NW.ret1 rfl (by rfl) ⟨At3_0, ct3_0, rfl, x0_0, (h2.sub (l' := [(w.heap.size, none, some 70)]) (li' := []) ⟨(.inl ⟨by omega, trivial, rfl⟩), trivial⟩ trivial)⟩

set_option maxHeartbeats 4000000 in
set_option maxRecDepth 100000 in
theorem hermitageref1_Segs.calls (k : Nat) (A1 : Option Addr) (c_1 : Nat) (p0 : List Seg) (r : Bool) (w : World) (hs1 : Sl kSeg w.heap okAll A1 p0) (hl1 : p0.length ≤ c_1) (H : hermitageref1_Segs.f k p0 = some r) :
    Calls Tryd.prog 12 #[.slice A1 p0.length c_1] w fun e w' => e = .returned (.bool r) ∧ Ext w w' := by
 have h1 : Sl kSeg w.heap (okL [(0, some w.heap.size, none)]) A1 p0 := hs1.old _ rfl
 have x0 : Ext w w := Upd.refl _ w
 unfold hermitageref1_Segs.f at H
 refine calls_start Tryd.func12 rfl 71 rfl [.slice A1 p0.length c_1] rfl ?_
 refine CW.seq ?_
 refine CW.lex [.W] rfl ?_
 refine RW.pure tabOk 1 rfl ?_
 refine RW.done ?_
 refine NW.next ?_
 refine CW.seq ?_
 refine CW.seq ?_
 refine CW.lex [.W] rfl ?_
 refine RW.pure tabOk 1 rfl ?_
 refine RW.done ?_
 refine NW.next ?_
 refine CW.block ?_
 refine CW.loop (fun n1 a w1 => ∃ (it3_0 : Int), Sat 71 [(0, .slice A1 p0.length c_1), (3, .int .i64 it3_0)] a ∧ w.heap.size ≤ w1.heap.size ∧ Sl kSeg w1.heap (okL [(0, some w.heap.size, none)]) A1 p0 ∧ Ext w w1 ∧ hermitageref1_Segs.l0 p0 n1 it3_0 = some r) k ?_ ?_
 · exact fun a ha => ⟨0, ha.sub ⟨rfl, rfl, trivial⟩, by omega, h1, x0, H⟩
 intro n1 a w1 hI hp
 obtain ⟨it3_0, hS, hle, gF1_0, x0_0, H⟩ := hI
 cases n1 with
 | zero => cases H
 | succ n1 =>
  rw [hermitageref1_Segs.l0] at H
  refine CW.go hp hS ?_
  refine CW.seq ?_
  refine CW.seq ?_
  refine CW.lex [.W, .W, .W, .W] rfl ?_
  refine RW.pure tabOk 4 rfl ?_
  refine RW.done ?_
  refine NW.next ?_
  by_cases c1 : it3_0 < (p0.length : Int)
  ·
   rw [if_pos c1] at H
   refine CW.cond_t rfl (decide_eq_true c1) ?_
   refine CW.skip ?_
   refine NW.next ?_
   refine CW.seq ?_
   refine CW.block ?_
   refine CW.seqJ (fun a w2 => ∃ (bt70_1 : Bool), Sat 71 [(0, .slice A1 p0.length c_1), (3, .int .i64 it3_0), (70, .bool bt70_1)] a ∧ w1.heap.size ≤ w2.heap.size ∧ Sl kSeg w2.heap (okL [(0, some w.heap.size, none)]) A1 p0 ∧ Ext w w2 ∧ hermitageref1_Segs.j0 it3_0 (hermitageref1_Segs.l0 p0 n1) bt70_1 = some r) ?_ ?_
   ·
    refine CW.ord [0, 0, 3, 7, 15, 31, 63, 127, 127, 511, 1023, 2047, 4095, 8191, 16383, 32767, 32767, 131071, 262143, 524287, 1048575, 2097151, 4194303, 8388607, 8388607, 33554431, 67108863, 134217727, 8388607, 8388607, 813694975, 1887436799, 4034920447, 8329887743, 17179869183, 34359738367, 68719476735, 137438953471, 274877906943, 549755813887, 1099511627775, 1099511627775, 3298534883327, 8796093022207, 17592186044415, 35184372088831, 1099511627775, 1099511627775, 141836999983103, 493680720871423, 1056630674292735, 2182530581135359, 4503599627370495, 1099511627775, 1099511627775, 27022697275850751, 63051494294814719, 135109088332742655, 288230376151711743, 576460752303423487, 1152921504606846975] (ofL [(0, .W), (1, .W), (2, .W), (3, .W), (4, .L), (5, .W), (6, .W), (7, .W), (8, .W), (9, .W), (10, .W), (11, .L), (12, .W), (13, .W), (14, .W), (15, .W), (16, .W), (17, .W), (18, .W), (19, .L), (20, .W), (21, .W), (22, .W), (23, .W), (24, .W), (25, .W), (26, .W), (28, .W), (29, .W), (30, .W), (31, .W), (27, .L), (32, .L), (33, .W), (34, .W), (35, .W), (36, .W), (37, .W), (38, .W), (39, .W), (40, .W), (41, .W), (42, .W), (43, .W), (44, .W), (46, .W), (47, .W), (48, .W), (49, .W), (50, .W), (53, .W), (54, .W), (55, .W), (56, .W), (45, .L), (51, .L), (52, .W), (57, .L), (58, .W), (59, .W), (60, .W)] .nil) mixed (by kernel_rfl) ?_
    intro w3 x1
    have sx1 := x1.size
    refine RW.pure tabOk 2 rfl ?_
    obtain ⟨g1, H⟩ := guard_some H
    have h2 := gF1_0.ext x1
    obtain ⟨ad1, e1, a1⟩ := kSeg_at h2 g1.1 g1.2
    refine RW.index tabOk g1.1 g1.2 e1 ⟨rfl, rfl, rfl, rfl⟩ rfl rfl rfl rfl rfl rfl ?_
    refine RW.pure tabOk 1 rfl ?_
    refine RW.load tabOk [.int .i64 ((rd p0 it3_0).At)] ((a1.fld 0).take 1 rfl) ⟨rfl, rfl, rfl, rfl⟩ rfl rfl rfl rfl ?_
    refine RW.pure tabOk 2 rfl ?_
    by_cases c2 : ((rd p0 it3_0).At) < 0
    ·
     rw [if_pos c2] at H
     refine RW.bool 16 (b' := true) (decide_eq_true c2) rfl ?_
     refine RW.pure tabOk 54 rfl ?_
     refine RW.done ?_
     have h3 := Ext.trans x0_0 x1
     exact NW.J fun a ha => ⟨true, ha.sub ⟨rfl, rfl, rfl, trivial⟩, by omega, h2, h3, H⟩
    ·
     rw [if_neg c2] at H
     refine RW.bool 16 (b' := false) (decide_eq_false c2) rfl ?_
     refine RW.pure tabOk 2 rfl ?_
     obtain ⟨g2, H⟩ := guard_some H
     obtain ⟨ad2, e2, a2⟩ := kSeg_at h2 g2.1 g2.2
     refine RW.index tabOk g2.1 g2.2 e2 ⟨rfl, rfl, rfl, rfl⟩ rfl rfl rfl rfl rfl rfl ?_
     refine RW.pure tabOk 1 rfl ?_
     refine RW.load tabOk [.int .i64 ((rd p0 it3_0).Len)] (a2.fld 1) ⟨rfl, rfl, rfl, rfl⟩ rfl rfl rfl rfl ?_
     refine RW.pure tabOk 3 rfl ?_
     by_cases c3 : ((rd p0 it3_0).Len) < 1
     ·
      rw [if_pos c3] at H
      refine RW.bool 24 (b' := true) (decide_eq_true c3) rfl ?_
      refine RW.pure tabOk 46 rfl ?_
      refine RW.done ?_
      have h4 := Ext.trans x0_0 x1
      exact NW.J fun a ha => ⟨true, ha.sub ⟨rfl, rfl, rfl, trivial⟩, by omega, h2, h4, H⟩
     ·
      rw [if_neg c3] at H
      refine RW.bool 24 (b' := false) (decide_eq_false c3) rfl ?_
      refine RW.pure tabOk 2 rfl ?_
      obtain ⟨g3, H⟩ := guard_some H
      obtain ⟨ad3, e3, a3⟩ := kSeg_at h2 g3.1 g3.2
      refine RW.index tabOk g3.1 g3.2 e3 ⟨rfl, rfl, rfl, rfl⟩ rfl rfl rfl rfl rfl rfl ?_
      refine RW.pure tabOk 1 rfl ?_
      refine RW.load tabOk [.int .i64 ((rd p0 it3_0).At)] ((a3.fld 0).take 1 rfl) ⟨rfl, rfl, rfl, rfl⟩ rfl rfl rfl rfl ?_
      refine RW.pure tabOk 3 rfl ?_
      by_cases c4 : 64 < ((rd p0 it3_0).At)
      ·
       rw [if_pos c4] at H
       refine RW.bool 32 (b' := true) (decide_eq_true c4) rfl ?_
       refine RW.pure tabOk 38 rfl ?_
       refine RW.done ?_
       have h5 := Ext.trans x0_0 x1
       exact NW.J fun a ha => ⟨true, ha.sub ⟨rfl, rfl, rfl, trivial⟩, by omega, h2, h5, H⟩
      ·
       rw [if_neg c4] at H
       refine RW.bool 32 (b' := false) (decide_eq_false c4) rfl ?_
       refine RW.pure tabOk 2 rfl ?_
       obtain ⟨g4, H⟩ := guard_some H
       obtain ⟨ad4, e4, a4⟩ := kSeg_at h2 g4.1 g4.2
       refine RW.index tabOk g4.1 g4.2 e4 ⟨rfl, rfl, rfl, rfl⟩ rfl rfl rfl rfl rfl rfl ?_
       refine RW.pure tabOk 3 rfl ?_
       obtain ⟨g5, H⟩ := guard_some H
       obtain ⟨ad5, e5, a5⟩ := kSeg_at h2 g5.1 g5.2
       refine RW.index tabOk g5.1 g5.2 e5 ⟨rfl, rfl, rfl, rfl⟩ rfl rfl rfl rfl rfl rfl ?_
       refine RW.pure tabOk 1 rfl ?_
       refine RW.load tabOk [.int .i64 ((rd p0 it3_0).Len)] (a4.fld 1) ⟨rfl, rfl, rfl, rfl⟩ rfl rfl rfl rfl ?_
       refine RW.load tabOk [.int .i64 ((rd p0 it3_0).At)] ((a5.fld 0).take 1 rfl) ⟨rfl, rfl, rfl, rfl⟩ rfl rfl rfl rfl ?_
       refine RW.pure tabOk 4 rfl ?_
       by_cases c5 : (w64 (64 - ((rd p0 it3_0).At))) < ((rd p0 it3_0).Len)
       ·
        rw [if_pos c5] at H
        refine RW.bool 46 (b' := true) (decide_eq_true c5) rfl ?_
        refine RW.pure tabOk 24 rfl ?_
        refine RW.done ?_
        have h6 := Ext.trans x0_0 x1
        exact NW.J fun a ha => ⟨true, ha.sub ⟨rfl, rfl, rfl, trivial⟩, by omega, h2, h6, H⟩
       ·
        rw [if_neg c5] at H
        refine RW.bool 46 (b' := false) (decide_eq_false c5) rfl ?_
        refine RW.pure tabOk 3 rfl ?_
        by_cases c6 : 0 < it3_0
        ·
         rw [if_pos c6] at H
         refine RW.bool 49 (b' := true) (decide_eq_true c6) rfl ?_
         refine RW.pure tabOk 3 rfl ?_
         obtain ⟨g6, H⟩ := guard_some H
         obtain ⟨ad6, e6, a6⟩ := kSeg_at h2 g6.1 g6.2
         refine RW.index tabOk g6.1 g6.2 e6 ⟨rfl, rfl, rfl, rfl⟩ rfl rfl rfl rfl rfl rfl ?_
         refine RW.pure tabOk 4 rfl ?_
         obtain ⟨g7, H⟩ := guard_some H
         obtain ⟨ad7, e7, a7⟩ := kSeg_at h2 g7.1 g7.2
         refine RW.index tabOk g7.1 g7.2 e7 ⟨rfl, rfl, rfl, rfl⟩ rfl rfl rfl rfl rfl rfl ?_
         refine RW.pure tabOk 3 rfl ?_
         obtain ⟨g8, H⟩ := guard_some H
         obtain ⟨ad8, e8, a8⟩ := kSeg_at h2 g8.1 g8.2
         refine RW.index tabOk g8.1 g8.2 e8 ⟨rfl, rfl, rfl, rfl⟩ rfl rfl rfl rfl rfl rfl ?_
         refine RW.pure tabOk 1 rfl ?_
         refine RW.load tabOk [.int .i64 ((rd p0 (w64 (it3_0 - 1))).At)] ((a6.fld 0).take 1 rfl) ⟨rfl, rfl, rfl, rfl⟩ rfl rfl rfl rfl ?_
         refine RW.load tabOk [.int .i64 ((rd p0 (w64 (it3_0 - 1))).Len)] (a7.fld 1) ⟨rfl, rfl, rfl, rfl⟩ rfl rfl rfl rfl ?_
         refine RW.pure tabOk 1 rfl ?_
         refine RW.load tabOk [.int .i64 ((rd p0 it3_0).At)] ((a8.fld 0).take 1 rfl) ⟨rfl, rfl, rfl, rfl⟩ rfl rfl rfl rfl ?_
         refine RW.pure tabOk 3 rfl ?_
         refine RW.done ?_
         have h7 := Ext.trans x0_0 x1
         exact NW.J fun a ha => ⟨(decide (((rd p0 it3_0).At) ≤ (w64 (((rd p0 (w64 (it3_0 - 1))).At) + ((rd p0 (w64 (it3_0 - 1))).Len))))), ha.sub ⟨rfl, rfl, rfl, trivial⟩, by omega, h2, h7, H⟩
        ·
         rw [if_neg c6] at H
         refine RW.bool 49 (b' := false) (decide_eq_false c6) rfl ?_
         refine RW.pure tabOk 21 rfl ?_
         refine RW.done ?_
         have h8 := Ext.trans x0_0 x1
         exact NW.J fun a ha => ⟨false, ha.sub ⟨rfl, rfl, rfl, trivial⟩, by omega, h2, h8, H⟩
   intro a w2 hJ hp
   obtain ⟨bt70_1, hS, hle, gF1_1, x0_1, H⟩ := hJ
   unfold hermitageref1_Segs.j0 at H
   refine CW.go hp hS ?_
   by_cases c7 : bt70_1 = true
   ·
    rw [if_pos c7] at H
    refine CW.cond_t rfl (c7) ?_
    refine CW.seq ?_
    refine CW.lex [.W] rfl ?_
    refine RW.pure tabOk 1 rfl ?_
    refine RW.done ?_
    refine NW.next ?_
    refine CW.ret ?_
    refine NW.ret_block (NW.ret_then (NW.ret_then (NW.ret_block (NW.ret_then ?_))))
    obtain rfl := Option.some.inj H
    exact NW.ret1 rfl (by rfl) ⟨rfl, x0_1⟩
   ·
    rw [if_neg c7] at H
    refine CW.cond_f rfl (bool_f c7) ?_
    refine CW.skip ?_
    refine NW.norm_block (NW.next ?_)
    refine CW.lex [.W, .W, .W] rfl ?_
    refine RW.pure tabOk 3 rfl ?_
    refine RW.done ?_
    exact NW.J fun a ha => ⟨n1, Nat.lt_succ_self n1, (w64 (it3_0 + 1)), ha.sub ⟨rfl, rfl, trivial⟩, by omega, gF1_1, x0_1, H⟩
  ·
   rw [if_neg c1] at H
   refine CW.cond_f rfl (decide_eq_false c1) ?_
   refine CW.exit ?_
   refine NW.exit_then (NW.exit_then (NW.exit_hit ?_))
   refine NW.next ?_
   refine CW.seq ?_
   refine CW.lex [.W] rfl ?_
   refine RW.pure tabOk 1 rfl ?_
   refine RW.done ?_
   refine NW.next ?_
   refine CW.ret ?_
   obtain rfl := Option.some.inj H
   exact NW.ret1 rfl (by rfl) ⟨rfl, x0_0⟩

set_option maxHeartbeats 4000000 in
set_option maxRecDepth 100000 in
theorem hermitageref1_Of.calls (k : Nat) (p0 : Nat → Bool) (r : (List Seg)) (w : World) (H : hermitageref1_Of.f k p0 = some r) :
    Calls Tryd.prog 35 #[.agg (arrB 64 p0).toArray] w fun e w' => ∃ (B1 : Option Addr) (d1 : Nat), e = .returned (.slice B1 r.length d1) ∧ Ext w w' ∧ Ow kSeg 93 w'.heap (okL [(w.heap.size, none, some 93)]) (okL []) B1 d1 r := by
 have x0 : Ext w w := Upd.refl _ w
 unfold hermitageref1_Of.f at H
 refine calls_start Tryd.func35 rfl 51 rfl [.agg (arrB 64 p0).toArray] rfl ?_
 refine CW.seq ?_
 refine CW.lex [.X, .W] rfl ?_
 refine RW.box (cs := (arrB 64 p0)) (.inl rfl) ⟨rfl, rfl, rfl, rfl⟩ rfl rfl rfl ?_
 intro b1 w1 x1 l1 h1
 have sx1 := x1.size
 have ltb1 := h1.lt
 refine RW.pure tabOk 1 rfl ?_
 refine RW.done ?_
 refine NW.next ?_
 refine CW.seq ?_
 refine CW.lex [.W] rfl ?_
 refine RW.pure tabOk 1 rfl ?_
 refine RW.done ?_
 refine NW.next ?_
 refine CW.seq ?_
 refine CW.seq ?_
 refine CW.lex [.W] rfl ?_
 refine RW.pure tabOk 1 rfl ?_
 refine RW.done ?_
 refine NW.next ?_
 refine CW.block ?_
 refine CW.loop (fun n1 a w2 => ∃ (lt3_0 : List Seg) (At3_0 : Option Addr) (ct3_0 : Nat) (it4_0 : Int), Sat 51 [(1, .pointer (some ⟨b1, 0, none⟩)), (3, .slice At3_0 lt3_0.length ct3_0), (4, .int .i64 it4_0)] a ∧ w1.heap.size ≤ w2.heap.size ∧ Ow kSeg 93 w2.heap (okL [(w1.heap.size, none, some 93)]) (okL []) At3_0 ct3_0 lt3_0 ∧ Ext w w2 ∧ Box w2.heap b1 54 (arrB 64 p0) ∧ hermitageref1_Of.l0 p0 n1 lt3_0 it4_0 = some r) k ?_ ?_
 have h2 := Ext.trans x0 x1
 · exact fun a ha => ⟨([] : List Seg), none, 0, 0, ha.sub ⟨rfl, rfl, rfl, trivial⟩, by omega, Ow.nil, h2, h1, H⟩
 intro n1 a w2 hI hp
 obtain ⟨lt3_0, At3_0, ct3_0, it4_0, hS, hle, ft3_0, x0_0, gb1_0, H⟩ := hI
 cases n1 with
 | zero => cases H
 | succ n1 =>
  rw [hermitageref1_Of.l0] at H
  refine CW.go hp hS ?_
  have h3 : Ow kSeg 93 w2.heap (okL [(w1.heap.size, some w2.heap.size, some 93)]) (okL []) At3_0 ct3_0 lt3_0 := ft3_0.close
  refine CW.seq ?_
  refine CW.seq ?_
  refine CW.lex [.W, .W] rfl ?_
  refine RW.pure tabOk 2 rfl ?_
  refine RW.done ?_
  refine NW.next ?_
  by_cases c1 : it4_0 < 64
  ·
   rw [if_pos c1] at H
   refine CW.cond_t rfl (decide_eq_true c1) ?_
   refine CW.skip ?_
   refine NW.next ?_
   refine CW.seqJ (fun a w3 => ∃ (lt3_1 : List Seg) (At3_1 : Option Addr) (ct3_1 : Nat), Sat 51 [(1, .pointer (some ⟨b1, 0, none⟩)), (3, .slice At3_1 lt3_1.length ct3_1), (4, .int .i64 it4_0)] a ∧ w2.heap.size ≤ w3.heap.size ∧ Ow kSeg 93 w3.heap (okL [(w1.heap.size, none, some 93)]) (okL []) At3_1 ct3_1 lt3_1 ∧ Ext w w3 ∧ Box w3.heap b1 54 (arrB 64 p0) ∧ hermitageref1_Of.j0 it4_0 (hermitageref1_Of.l0 p0 n1) lt3_1 = some r) ?_ ?_
   ·
    refine CW.block ?_
    refine CW.seq ?_
    refine CW.seq ?_
    refine CW.lex [.W, .W, .L, .W] rfl ?_
    refine RW.pure tabOk 1 rfl ?_
    obtain ⟨g1, H⟩ := guard_some H
    refine RW.indexBox tabOk g1.1 g1.2 ⟨rfl, rfl, rfl, rfl⟩ rfl rfl rfl rfl rfl rfl rfl ?_
    refine RW.load tabOk [.bool (p0 it4_0.toNat)] (gb1_0.elF (by have := g1; omega)) ⟨rfl, rfl, rfl, rfl⟩ rfl rfl rfl rfl ?_
    refine RW.pure tabOk 1 rfl ?_
    refine RW.done ?_
    refine NW.next ?_
    by_cases c2 : (p0 it4_0.toNat) = true
    ·
     rw [if_pos c2] at H
     refine CW.cond_f rfl (not_f (c2)) ?_
     refine CW.skip ?_
     refine NW.next ?_
     refine CW.seqJ (fun a w4 => ∃ (bt34_2 : Bool), Sat 51 [(1, .pointer (some ⟨b1, 0, none⟩)), (3, .slice At3_0 lt3_0.length ct3_0), (4, .int .i64 it4_0), (34, .bool bt34_2)] a ∧ w2.heap.size ≤ w4.heap.size ∧ Ow kSeg 93 w4.heap (okL [(w1.heap.size, some w2.heap.size, some 93)]) (okL []) At3_0 ct3_0 lt3_0 ∧ Ext w w4 ∧ Box w4.heap b1 54 (arrB 64 p0) ∧ hermitageref1_Of.j1 lt3_0 it4_0 (hermitageref1_Of.l0 p0 n1) bt34_2 = some r) ?_ ?_
     ·
      refine CW.ord [0, 1, 3, 7, 15, 15, 47, 111, 255, 511, 1023, 15, 15, 4111, 12303, 30735, 63503, 129039, 262143, 15, 1048575, 2097151] (ofL [(0, .W), (1, .W), (2, .W), (3, .W), (4, .W), (5, .W), (6, .W), (7, .W), (8, .W), (9, .W), (11, .W), (12, .W), (13, .W), (14, .W), (15, .W), (16, .W), (19, .W), (10, .L), (17, .L), (18, .W), (20, .W), (21, .W)] .nil) mixed (by kernel_rfl) ?_
      intro w5 x2
      have sx2 := x2.size
      refine RW.pure tabOk 4 rfl ?_
      by_cases c3 : 0 < (lt3_0.length : Int)
      ·
       rw [if_pos c3] at H
       refine RW.bool 16 (b' := true) (decide_eq_true c3) rfl ?_
       refine RW.pure tabOk 4 rfl ?_
       obtain ⟨g2, H⟩ := guard_some H
       have h4 := h3.ext x2
       obtain ⟨ad1, e1, a1⟩ := kSeg_at h4.slL g2.1 g2.2
       refine RW.index tabOk g2.1 g2.2 e1 ⟨rfl, rfl, rfl, rfl⟩ rfl rfl rfl rfl rfl rfl ?_
       refine RW.pure tabOk 5 rfl ?_
       obtain ⟨g3, H⟩ := guard_some H
       obtain ⟨ad2, e2, a2⟩ := kSeg_at h4.slL g3.1 g3.2
       refine RW.index tabOk g3.1 g3.2 e2 ⟨rfl, rfl, rfl, rfl⟩ rfl rfl rfl rfl rfl rfl ?_
       refine RW.pure tabOk 2 rfl ?_
       refine RW.load tabOk [.int .i64 ((rd lt3_0 (w64 ((lt3_0.length : Int) - 1))).At)] ((a1.fld 0).take 1 rfl) ⟨rfl, rfl, rfl, rfl⟩ rfl rfl rfl rfl ?_
       refine RW.load tabOk [.int .i64 ((rd lt3_0 (w64 ((lt3_0.length : Int) - 1))).Len)] (a2.fld 1) ⟨rfl, rfl, rfl, rfl⟩ rfl rfl rfl rfl ?_
       refine RW.pure tabOk 3 rfl ?_
       refine RW.done ?_
       have h5 := Ext.trans x0_0 x2
       have h6 := gb1_0.ext x2
       exact NW.J fun a ha => ⟨((w64 (((rd lt3_0 (w64 ((lt3_0.length : Int) - 1))).At) + ((rd lt3_0 (w64 ((lt3_0.length : Int) - 1))).Len))) == it4_0), ha.sub ⟨rfl, rfl, rfl, rfl, trivial⟩, by omega, h4, h5, h6, H⟩
      ·
       rw [if_neg c3] at H
       refine RW.bool 16 (b' := false) (decide_eq_false c3) rfl ?_
       refine RW.pure tabOk 18 rfl ?_
       refine RW.done ?_
       have h7 := h3.ext x2
       have h8 := Ext.trans x0_0 x2
       have h9 := gb1_0.ext x2
       exact NW.J fun a ha => ⟨false, ha.sub ⟨rfl, rfl, rfl, rfl, trivial⟩, by omega, h7, h8, h9, H⟩
     intro a w4 hJ hp
     obtain ⟨bt34_2, hS, hle, gL0_t3_2, x0_2, gb1_2, H⟩ := hJ
     unfold hermitageref1_Of.j1 at H
     refine CW.go hp hS ?_
     by_cases c4 : bt34_2 = true
     ·
      rw [if_pos c4] at H
      refine CW.cond_t rfl (c4) ?_
      refine CW.lex [.W, .W, .W, .W, .W, .W, .L, .W, .W, .W, .M] rfl ?_
      refine RW.pure tabOk 4 rfl ?_
      obtain ⟨g4, H⟩ := guard_some H
      obtain ⟨ad3, e3, a3⟩ := kSeg_at gL0_t3_2.slL g4.1 g4.2
      refine RW.index tabOk g4.1 g4.2 e3 ⟨rfl, rfl, rfl, rfl⟩ rfl rfl rfl rfl rfl rfl ?_
      refine RW.pure tabOk 1 rfl ?_
      refine RW.load tabOk [.int .i64 ((rd lt3_0 (w64 ((lt3_0.length : Int) - 1))).Len)] (a3.fld 1) ⟨rfl, rfl, rfl, rfl⟩ rfl rfl rfl rfl ?_
      refine RW.pure tabOk 1 rfl ?_
      obtain ⟨g5, H⟩ := guard_some H
      obtain ⟨ad4, e4, a4⟩ := kSeg_at gL0_t3_2.slL g5.1 g5.2
      refine RW.index tabOk g5.1 g5.2 e4 ⟨rfl, rfl, rfl, rfl⟩ rfl rfl rfl rfl rfl rfl ?_
      refine RW.pure tabOk 1 rfl ?_
      refine RW.storeElL (y := (⟨(rd lt3_0 (w64 ((lt3_0.length : Int) - 1))).At, w64 (((rd lt3_0 (w64 ((lt3_0.length : Int) - 1))).Len) + 1)⟩ : Seg)) (lv := []) (k := 1) tabOk gL0_t3_2 (j := (w64 ((lt3_0.length : Int) - 1)).toNat) (by have := g5; omega) default [.int .i64 (w64 (((rd lt3_0 (w64 ((lt3_0.length : Int) - 1))).Len) + 1))] (fun cs ok' hr => by obtain rfl := kSeg_open hr; exact ⟨by simp, kSeg_mk (⟨(rd lt3_0 (w64 ((lt3_0.length : Int) - 1))).At, w64 (((rd lt3_0 (w64 ((lt3_0.length : Int) - 1))).Len) + 1)⟩ : Seg)⟩) trivial ⟨rfl, rfl, rfl⟩ rfl rfl e4 rfl rfl rfl rfl rfl ?_
      intro w6 x3 h10
      have sx3 := x3.size
      have h11 := h10.sub (l' := [(w1.heap.size, some w2.heap.size, some 93)]) (li' := []) ⟨(.inl ⟨by omega, by omega, rfl⟩), trivial⟩ trivial
      refine RW.tell 3 (v' := .slice At3_0 (lt3_0.set (w64 ((lt3_0.length : Int) - 1)).toNat (⟨(rd lt3_0 (w64 ((lt3_0.length : Int) - 1))).At, w64 (((rd lt3_0 (w64 ((lt3_0.length : Int) - 1))).Len) + 1)⟩ : Seg)).length ct3_0) (by simp only [List.length_set]) rfl ?_
      refine RW.done ?_
      refine NW.norm_block ?_
      have h12 := Ext.turn x0_2 x3 ⟨by omega, trivial⟩
      have h13 := gb1_2.turnL x3 (.inl (by decide))
      exact NW.J fun a ha => ⟨(lt3_0.set (w64 ((lt3_0.length : Int) - 1)).toNat (⟨(rd lt3_0 (w64 ((lt3_0.length : Int) - 1))).At, w64 (((rd lt3_0 (w64 ((lt3_0.length : Int) - 1))).Len) + 1)⟩ : Seg)), At3_0, ct3_0, ha.sub ⟨rfl, rfl, rfl, trivial⟩, by omega, (h11.sub ⟨(.inl ⟨by omega, trivial, rfl⟩), trivial⟩ trivial), h12, h13, H⟩
     ·
      rw [if_neg c4] at H
      refine CW.cond_f rfl (bool_f c4) ?_
      refine CW.lex [.W, .W, .W, .X, .M, .W] rfl ?_
      refine RW.pure tabOk 3 rfl ?_
      refine RW.buildSlice (cs := [.int .i64 it4_0, .int .i64 1]) tabOk (.inl rfl) ⟨rfl, rfl, rfl, rfl⟩ rfl rfl rfl rfl rfl rfl rfl ?_
      intro b2 w7 x4 l2 h14
      have sx4 := x4.size
      have ltb2 := h14.lt
      have h15 := gL0_t3_2.ext x4
      obtain ⟨g6, H⟩ := guard_some H
      refine RW.append1L (d := kSeg) (v := (⟨it4_0, 1⟩ : Seg)) (l := [(w1.heap.size, some w2.heap.size, some 93)]) (li := []) (ly := []) (xs := lt3_0) tabOk h15 h14 (kSeg_mk (⟨it4_0, 1⟩ : Seg)) trivial (by simp only [maxLen]; omega) g6 ⟨rfl, rfl, rfl, rfl⟩ rfl rfl rfl rfl rfl rfl rfl ?_
      intro A1 c_1 w8 x5 h16
      have sx5 := x5.size
      have h17 := h16.close.sub (l' := [(w1.heap.size, some w8.heap.size, some 93)]) (li' := []) ⟨(.inl ⟨by omega, by omega, rfl⟩), ⟨(.inl ⟨by omega, by omega, rfl⟩), trivial⟩⟩ trivial
      refine RW.pure tabOk 1 rfl ?_
      refine RW.done ?_
      refine NW.norm_block ?_
      have h18 := Ext.turn (Ext.trans x0_2 x4) x5 ⟨by omega, trivial⟩
      have h19 := (gb1_2.ext x4).turnL x5 (.inl (by decide))
      exact NW.J fun a ha => ⟨(lt3_0 ++ [(⟨it4_0, 1⟩ : Seg)]), A1, c_1, ha.sub ⟨rfl, rfl, rfl, trivial⟩, by omega, (h17.sub ⟨(.inl ⟨by omega, trivial, rfl⟩), trivial⟩ trivial), h18, h19, H⟩
    ·
     rw [if_neg c2] at H
     refine CW.cond_t rfl (not_t (bool_f c2)) ?_
     refine CW.exit ?_
     refine NW.exit_then (NW.exit_hit ?_)
     exact NW.J fun a ha => ⟨lt3_0, At3_0, ct3_0, ha.sub ⟨rfl, rfl, rfl, trivial⟩, by omega, (h3.sub ⟨(.inl ⟨by omega, trivial, rfl⟩), trivial⟩ trivial), x0_0, gb1_0, H⟩
   intro a w3 hJ hp
   obtain ⟨lt3_1, At3_1, ct3_1, hS, hle, ft3_1, x0_1, gb1_1, H⟩ := hJ
   unfold hermitageref1_Of.j0 at H
   refine CW.go hp hS ?_
   have h20 : Ow kSeg 93 w3.heap (okL [(w1.heap.size, some w3.heap.size, some 93)]) (okL []) At3_1 ct3_1 lt3_1 := ft3_1.close
   refine CW.lex [.W, .W, .W] rfl ?_
   refine RW.pure tabOk 3 rfl ?_
   refine RW.done ?_
   exact NW.J fun a ha => ⟨n1, Nat.lt_succ_self n1, lt3_1, At3_1, ct3_1, (w64 (it4_0 + 1)), ha.sub ⟨rfl, rfl, rfl, trivial⟩, by omega, (h20.sub ⟨(.inl ⟨by omega, trivial, rfl⟩), trivial⟩ trivial), x0_1, gb1_1, H⟩
  ·
   rw [if_neg c1] at H
   refine CW.cond_f rfl (decide_eq_false c1) ?_
   refine CW.exit ?_
   refine NW.exit_then (NW.exit_then (NW.exit_hit ?_))
   refine NW.next ?_
   refine CW.seq ?_
   refine CW.lex [.W, .W] rfl ?_
   refine RW.pure tabOk 2 rfl ?_
   refine RW.done ?_
   refine NW.next ?_
   refine CW.ret ?_
   obtain rfl := Option.some.inj H
   exact NW.ret1 rfl (by rfl) ⟨At3_0, ct3_0, rfl, x0_0, (h3.sub (l' := [(w.heap.size, none, some 93)]) (li' := []) ⟨(.inl ⟨by omega, trivial, rfl⟩), trivial⟩ trivial)⟩

set_option maxHeartbeats 4000000 in
set_option maxRecDepth 100000 in
theorem hermitageref1_Set.calls (k : Nat) (A1 : Option Addr) (c_1 : Nat) (p0 : List Seg) (r : (Nat → Bool)) (w : World) (hs1 : Sl kSeg w.heap okAll A1 p0) (hl1 : p0.length ≤ c_1) (H : hermitageref1_Set.f k p0 = some r) :
    Calls Tryd.prog 57 #[.slice A1 p0.length c_1] w fun e w' => e = .returned (.agg (arrB 64 r).toArray) ∧ Ext w w' := by
 have h1 : Sl kSeg w.heap (okL [(0, some w.heap.size, none)]) A1 p0 := hs1.old _ rfl
 have x0 : Ext w w := Upd.refl _ w
 unfold hermitageref1_Set.f at H
 refine calls_start Tryd.func57 rfl 35 rfl [.slice A1 p0.length c_1] rfl ?_
 refine CW.seq ?_
 refine CW.lex [.X] rfl ?_
 refine RW.alloc tabOk (.inl rfl) ⟨rfl, rfl, rfl, rfl⟩ rfl rfl ?_
 intro b1 w1 x1 l1 h2
 have sx1 := x1.size
 have ltb1 := h2.lt
 refine RW.done ?_
 refine NW.next ?_
 refine CW.seq ?_
 refine CW.lex [.X] rfl ?_
 refine RW.alloc tabOk (.inl rfl) ⟨rfl, rfl, rfl, rfl⟩ rfl rfl ?_
 intro b2 w2 x2 l2 h3
 have sx2 := x2.size
 have ltb2 := h3.lt
 refine RW.done ?_
 refine NW.next ?_
 refine CW.seq ?_
 refine CW.seq ?_
 refine CW.lex [.W] rfl ?_
 refine RW.pure tabOk 1 rfl ?_
 refine RW.done ?_
 refine NW.next ?_
 refine CW.block ?_
 refine CW.loop (fun n1 a w3 => ∃ (it4_0 : Int) (ab2_0_0 : Nat → Bool), Sat 35 [(0, .slice A1 p0.length c_1), (2, .pointer (some ⟨b1, 0, none⟩)), (3, .pointer (some ⟨b2, 0, none⟩)), (4, .int .i64 it4_0)] a ∧ w2.heap.size ≤ w3.heap.size ∧ Sl kSeg w3.heap (okL [(0, some w.heap.size, none)]) A1 p0 ∧ Ext w w3 ∧ Box w3.heap b1 54 (arrB 64 (fun _ => false)) ∧ Box w3.heap b2 54 (arrB 64 ab2_0_0) ∧ hermitageref1_Set.l0 p0 k n1 it4_0 ab2_0_0 = some r) k ?_ ?_
 have h4 := (h1.ext x1).ext x2
 have h5 := Ext.trans (Ext.trans x0 x1) x2
 have h6 := h2.ext x2
 · exact fun a ha => ⟨0, (fun _ => false), ha.sub ⟨rfl, rfl, rfl, rfl, trivial⟩, by omega, h4, h5, h6, h3, H⟩
 intro n1 a w3 hI hp
 obtain ⟨it4_0, ab2_0_0, hS, hle, gF1_0, x0_0, gb1_0, gb2_0, H⟩ := hI
 cases n1 with
 | zero => cases H
 | succ n1 =>
  rw [hermitageref1_Set.l0] at H
  refine CW.go hp hS ?_
  refine CW.seq ?_
  refine CW.seq ?_
  refine CW.lex [.W, .W, .W, .W] rfl ?_
  refine RW.pure tabOk 4 rfl ?_
  refine RW.done ?_
  refine NW.next ?_
  by_cases c1 : it4_0 < (p0.length : Int)
  ·
   rw [if_pos c1] at H
   refine CW.cond_t rfl (decide_eq_true c1) ?_
   refine CW.skip ?_
   refine NW.next ?_
   refine CW.seq ?_
   refine CW.block ?_
   refine CW.seq ?_
   refine CW.lex [.W, .W, .W, .W, .L, .W] rfl ?_
   refine RW.pure tabOk 2 rfl ?_
   obtain ⟨g1, H⟩ := guard_some H
   obtain ⟨ad1, e1, a1⟩ := kSeg_at gF1_0 g1.1 g1.2
   refine RW.index tabOk g1.1 g1.2 e1 ⟨rfl, rfl, rfl, rfl⟩ rfl rfl rfl rfl rfl rfl ?_
   refine RW.pure tabOk 1 rfl ?_
   refine RW.load tabOk [.int .i64 ((rd p0 it4_0).At)] ((a1.fld 0).take 1 rfl) ⟨rfl, rfl, rfl, rfl⟩ rfl rfl rfl rfl ?_
   refine RW.pure tabOk 1 rfl ?_
   refine RW.done ?_
   refine NW.next ?_
   refine CW.block ?_
   refine CW.loop (fun n2 a w4 => ∃ (it5_1 : Int) (ab2_0_1 : Nat → Bool), Sat 35 [(0, .slice A1 p0.length c_1), (2, .pointer (some ⟨b1, 0, none⟩)), (3, .pointer (some ⟨b2, 0, none⟩)), (4, .int .i64 it4_0), (5, .int .i64 it5_1)] a ∧ w3.heap.size ≤ w4.heap.size ∧ Sl kSeg w4.heap (okL [(0, some w.heap.size, none)]) A1 p0 ∧ Ext w w4 ∧ Box w4.heap b1 54 (arrB 64 (fun _ => false)) ∧ Box w4.heap b2 54 (arrB 64 ab2_0_1) ∧ hermitageref1_Set.l1 p0 it4_0 (hermitageref1_Set.l0 p0 k n1) n2 it5_1 ab2_0_1 = some r) k ?_ ?_
   · exact fun a ha => ⟨((rd p0 it4_0).At), ab2_0_0, ha.sub ⟨rfl, rfl, rfl, rfl, rfl, trivial⟩, by omega, gF1_0, x0_0, gb1_0, gb2_0, H⟩
   intro n2 a w4 hI hp
   obtain ⟨it5_1, ab2_0_1, hS, hle, gF1_1, x0_1, gb1_1, gb2_1, H⟩ := hI
   cases n2 with
   | zero => cases H
   | succ n2 =>
    rw [hermitageref1_Set.l1] at H
    refine CW.go hp hS ?_
    refine CW.seq ?_
    refine CW.seq ?_
    refine CW.ord [0, 0, 0, 6, 14, 30, 0, 0, 192, 448, 960, 2046, 4095] (ofL [(0, .W), (1, .W), (2, .W), (3, .W), (4, .W), (6, .W), (7, .W), (8, .W), (9, .W), (5, .L), (10, .L), (11, .W), (12, .W)] .nil) mixed (by kernel_rfl) ?_
    intro w5 x3
    have sx3 := x3.size
    refine RW.pure tabOk 3 rfl ?_
    obtain ⟨g2, H⟩ := guard_some H
    have h7 := gF1_1.ext x3
    obtain ⟨ad2, e2, a2⟩ := kSeg_at h7 g2.1 g2.2
    refine RW.index tabOk g2.1 g2.2 e2 ⟨rfl, rfl, rfl, rfl⟩ rfl rfl rfl rfl rfl rfl ?_
    refine RW.pure tabOk 3 rfl ?_
    obtain ⟨g3, H⟩ := guard_some H
    obtain ⟨ad3, e3, a3⟩ := kSeg_at h7 g3.1 g3.2
    refine RW.index tabOk g3.1 g3.2 e3 ⟨rfl, rfl, rfl, rfl⟩ rfl rfl rfl rfl rfl rfl ?_
    refine RW.pure tabOk 1 rfl ?_
    refine RW.load tabOk [.int .i64 ((rd p0 it4_0).At)] ((a2.fld 0).take 1 rfl) ⟨rfl, rfl, rfl, rfl⟩ rfl rfl rfl rfl ?_
    refine RW.load tabOk [.int .i64 ((rd p0 it4_0).Len)] (a3.fld 1) ⟨rfl, rfl, rfl, rfl⟩ rfl rfl rfl rfl ?_
    refine RW.pure tabOk 2 rfl ?_
    refine RW.done ?_
    refine NW.next ?_
    by_cases c2 : it5_1 < (w64 (((rd p0 it4_0).At) + ((rd p0 it4_0).Len)))
    ·
     rw [if_pos c2] at H
     refine CW.cond_t rfl (decide_eq_true c2) ?_
     refine CW.skip ?_
     refine NW.next ?_
     refine CW.seq ?_
     refine CW.block ?_
     refine CW.lex [.W, .W, .M] rfl ?_
     refine RW.pure tabOk 1 rfl ?_
     obtain ⟨g4, H⟩ := guard_some H
     refine RW.indexBox tabOk g4.1 g4.2 ⟨rfl, rfl, rfl, rfl⟩ rfl rfl rfl rfl rfl rfl rfl ?_
     have h8 := gb2_1.ext x3
     refine RW.storeBox tabOk h8 [.bool true] ⟨rfl, rfl, rfl⟩ rfl rfl rfl rfl rfl rfl rfl (arrF_fit (by have := g4; omega)) ?_
     intro w6 x4 h9
     have h10 : Box w6.heap b2 54 (arrB 64 (updF ab2_0_1 it5_1.toNat true)) := by rw [lay_arrF] at h9; exact h9
     have sx4 := x4.size
     refine RW.done ?_
     refine NW.norm_block (NW.next ?_)
     refine CW.lex [.W, .W, .W] rfl ?_
     refine RW.pure tabOk 3 rfl ?_
     refine RW.done ?_
     have h11 := h7.turnB x4 h8 ⟨.inr (by omega), trivial⟩
     have h12 := Ext.turnB (Ext.trans x0_1 x3) x4 (by omega)
     have h13 := (gb1_1.ext x3).turnB x4 (by omega)
     exact NW.J fun a ha => ⟨n2, Nat.lt_succ_self n2, (w64 (it5_1 + 1)), (updF ab2_0_1 it5_1.toNat true), ha.sub ⟨rfl, rfl, rfl, rfl, rfl, trivial⟩, by omega, h11, h12, h13, h10, H⟩
    ·
     rw [if_neg c2] at H
     refine CW.cond_f rfl (decide_eq_false c2) ?_
     refine CW.exit ?_
     refine NW.exit_then (NW.exit_then (NW.exit_hit ?_))
     refine NW.norm_block (NW.next ?_)
     refine CW.lex [.W, .W, .W] rfl ?_
     refine RW.pure tabOk 3 rfl ?_
     refine RW.done ?_
     have h14 := Ext.trans x0_1 x3
     have h15 := gb1_1.ext x3
     have h16 := gb2_1.ext x3
     exact NW.J fun a ha => ⟨n1, Nat.lt_succ_self n1, (w64 (it4_0 + 1)), ab2_0_1, ha.sub ⟨rfl, rfl, rfl, rfl, trivial⟩, by omega, h7, h14, h15, h16, H⟩
  ·
   rw [if_neg c1] at H
   refine CW.cond_f rfl (decide_eq_false c1) ?_
   refine CW.exit ?_
   refine NW.exit_then (NW.exit_then (NW.exit_hit ?_))
   refine NW.next ?_
   refine CW.seq ?_
   refine CW.lex [.L, .M] rfl ?_
   refine RW.load tabOk (arrB 64 ab2_0_0) (gb2_0.at 0) ⟨rfl, rfl, rfl, rfl⟩ rfl rfl rfl arrF_len ?_
   refine RW.storeBox tabOk gb1_0 (arrB 64 ab2_0_0) ⟨rfl, rfl, rfl⟩ rfl rfl rfl rfl rfl arrF_len (arrF_all fun _ => rfl) (arrF_fitAll arrF_len) ?_
   intro w7 x5 h17
   have h18 : Box w7.heap b1 54 (arrB 64 ab2_0_0) := by rw [lay_arrFull] at h17; exact h17
   have sx5 := x5.size
   refine RW.done ?_
   refine NW.next ?_
   refine CW.ret ?_
   obtain rfl := Option.some.inj H
   have h19 := Ext.turnB x0_0 x5 (by omega)
   exact NW.ret1 rfl (resOne_cell tabOk (h18.at 0) rfl rfl arrF_len) ⟨rfl, h19⟩

set_option maxHeartbeats 4000000 in
set_option maxRecDepth 100000 in
theorem hermitageref1_Two.calls (k : Nat) (A1 : Option Addr) (c_1 : Nat) (p0 : List Seg) (A2 : Option Addr) (c_2 : Nat) (p1 : List Seg) (p2 : Int) (r : (List Seg)) (w : World) (hs1 : Sl kSeg w.heap okAll A1 p0) (hl1 : p0.length ≤ c_1) (hs2 : Sl kSeg w.heap okAll A2 p1) (hl2 : p1.length ≤ c_2) (H : hermitageref1_Two.f k p0 p1 p2 = some r) :
    Calls Tryd.prog 20 #[.slice A1 p0.length c_1, .slice A2 p1.length c_2, .int .i64 p2] w fun e w' => ∃ (B1 : Option Addr) (d1 : Nat), e = .returned (.slice B1 r.length d1) ∧ Ext w w' ∧ Ow kSeg 93 w'.heap (okL [(w.heap.size, none, some 93)]) (okL []) B1 d1 r := by
 have h1 : Sl kSeg w.heap (okL [(0, some w.heap.size, none)]) A1 p0 := hs1.old _ rfl
 have h2 : Sl kSeg w.heap (okL [(0, some w.heap.size, none)]) A2 p1 := hs2.old _ rfl
 have x0 : Ext w w := Upd.refl _ w
 unfold hermitageref1_Two.f at H
 refine calls_start Tryd.func20 rfl 57 rfl [.slice A1 p0.length c_1, .slice A2 p1.length c_2, .int .i64 p2] rfl ?_
 refine CW.seq ?_
 refine CW.lex [.W] rfl ?_
 refine RW.pure tabOk 1 rfl ?_
 refine RW.done ?_
 refine NW.next ?_
 refine CW.seq ?_
 refine CW.lex [.W, .X, .W, .X, .X, .X, .M, .M] rfl ?_
 refine RW.pure tabOk 1 rfl ?_
 obtain ⟨y1, h3, H⟩ := bind_some H
 refine RW.callF (.inl rfl) ent57 ⟨rfl, rfl, rfl, rfl⟩ rfl rfl (hermitageref1_Set.calls k A1 c_1 p0 _ _ h1.all hl1 h3) ?_
 rintro _ w1 ⟨rfl, x1⟩
 refine ⟨_, rfl, x1, ?_⟩
 have sx1 := x1.size
 refine RW.pure tabOk 1 rfl ?_
 have h4 := h2.ext x1
 obtain ⟨y2, h5, H⟩ := bind_some H
 refine RW.callF (.inl rfl) ent57 ⟨rfl, rfl, rfl, rfl⟩ rfl rfl (hermitageref1_Set.calls k A2 c_2 p1 _ _ h4.all hl2 h5) ?_
 rintro _ w2 ⟨rfl, x2⟩
 refine ⟨_, rfl, x2, ?_⟩
 have sx2 := x2.size
 refine RW.alloc tabOk (.inl rfl) ⟨rfl, rfl, rfl, rfl⟩ rfl rfl ?_
 intro b1 w3 x3 l1 h6
 have sx3 := x3.size
 have ltb1 := h6.lt
 refine RW.alloc tabOk (.inl rfl) ⟨rfl, rfl, rfl, rfl⟩ rfl rfl ?_
 intro b2 w4 x4 l2 h7
 have sx4 := x4.size
 have ltb2 := h7.lt
 have h8 := h6.ext x4
 refine RW.storeBox tabOk h8 (arrB 64 y1) ⟨rfl, rfl, rfl⟩ rfl rfl rfl rfl rfl arrF_len (arrF_all fun _ => rfl) (arrF_fitAll arrF_len) ?_
 intro w5 x5 h9
 have h10 : Box w5.heap b1 54 (arrB 64 y1) := by rw [lay_arrFull] at h9; exact h9
 have sx5 := x5.size
 have h11 := h7.turnB x5 (by omega)
 refine RW.storeBox tabOk h11 (arrB 64 y2) ⟨rfl, rfl, rfl⟩ rfl rfl rfl rfl rfl arrF_len (arrF_all fun _ => rfl) (arrF_fitAll arrF_len) ?_
 intro w6 x6 h12
 have h13 : Box w6.heap b2 54 (arrB 64 y2) := by rw [lay_arrFull] at h12; exact h12
 have sx6 := x6.size
 refine RW.done ?_
 refine NW.next ?_
 refine CW.seq ?_
 refine CW.lex [.X] rfl ?_
 refine RW.alloc tabOk (.inl rfl) ⟨rfl, rfl, rfl, rfl⟩ rfl rfl ?_
 intro b3 w7 x7 l3 h14
 have sx7 := x7.size
 have ltb3 := h14.lt
 refine RW.done ?_
 refine NW.next ?_
 refine CW.seq ?_
 refine CW.seq ?_
 refine CW.lex [.W] rfl ?_
 refine RW.pure tabOk 1 rfl ?_
 refine RW.done ?_
 refine NW.next ?_
 refine CW.block ?_
 refine CW.loop (fun n1 a w8 => ∃ (it10_0 : Int) (ab3_0_0 : Nat → Bool), Sat 57 [(2, .int .i64 p2), (7, .pointer (some ⟨b1, 0, none⟩)), (8, .pointer (some ⟨b2, 0, none⟩)), (9, .pointer (some ⟨b3, 0, none⟩)), (10, .int .i64 it10_0)] a ∧ w7.heap.size ≤ w8.heap.size ∧ Ext w w8 ∧ Box w8.heap b1 54 (arrB 64 y1) ∧ Box w8.heap b2 54 (arrB 64 y2) ∧ Box w8.heap b3 54 (arrB 64 ab3_0_0) ∧ hermitageref1_Two.l0 p2 k y1 y2 n1 it10_0 ab3_0_0 = some r) k ?_ ?_
 have h15 := Ext.trans (Ext.turnB (Ext.turnB (Ext.trans (Ext.trans (Ext.trans (Ext.trans x0 x1) x2) x3) x4) x5 (by omega)) x6 (by omega)) x7
 have h16 := (h10.turnB x6 (by omega)).ext x7
 have h17 := h13.ext x7
 · exact fun a ha => ⟨0, (fun _ => false), ha.sub ⟨rfl, rfl, rfl, rfl, rfl, trivial⟩, by omega, h15, h16, h17, h14, H⟩
 intro n1 a w8 hI hp
 obtain ⟨it10_0, ab3_0_0, hS, hle, x0_0, gb1_0, gb2_0, gb3_0, H⟩ := hI
 cases n1 with
 | zero => cases H
 | succ n1 =>
  rw [hermitageref1_Two.l0] at H
  refine CW.go hp hS ?_
  refine CW.seq ?_
  refine CW.seq ?_
  refine CW.lex [.W, .W] rfl ?_
  refine RW.pure tabOk 2 rfl ?_
  refine RW.done ?_
  refine NW.next ?_
  by_cases c1 : it10_0 < 64
  ·
   rw [if_pos c1] at H
   refine CW.cond_t rfl (decide_eq_true c1) ?_
   refine CW.skip ?_
   refine NW.next ?_
   refine CW.seqJ (fun a w9 => ∃ (ab3_0_1 : Nat → Bool), Sat 57 [(2, .int .i64 p2), (7, .pointer (some ⟨b1, 0, none⟩)), (8, .pointer (some ⟨b2, 0, none⟩)), (9, .pointer (some ⟨b3, 0, none⟩)), (10, .int .i64 it10_0)] a ∧ w8.heap.size ≤ w9.heap.size ∧ Ext w w9 ∧ Box w9.heap b1 54 (arrB 64 y1) ∧ Box w9.heap b2 54 (arrB 64 y2) ∧ Box w9.heap b3 54 (arrB 64 ab3_0_1) ∧ hermitageref1_Two.j0 it10_0 (hermitageref1_Two.l0 p2 k y1 y2 n1) ab3_0_1 = some r) ?_ ?_
   ·
    refine CW.block ?_
    refine CW.seq ?_
    refine CW.lex [.W] rfl ?_
    refine RW.pure tabOk 1 rfl ?_
    refine RW.done ?_
    refine NW.next ?_
    refine CW.block ?_
    refine CW.seq ?_
    refine CW.lex [.W, .W] rfl ?_
    refine RW.pure tabOk 2 rfl ?_
    refine RW.done ?_
    refine NW.next ?_
    by_cases c2 : p2 = 0
    ·
     rw [if_pos c2] at H
     refine CW.cond_t rfl (beq_t c2) ?_
     refine CW.lex [.W, .W, .W, .L, .W, .W, .W, .L, .W, .W, .M] rfl ?_
     refine RW.pure tabOk 2 rfl ?_
     obtain ⟨g1, H⟩ := guard_some H
     refine RW.indexBox tabOk g1.1 g1.2 ⟨rfl, rfl, rfl, rfl⟩ rfl rfl rfl rfl rfl rfl rfl ?_
     refine RW.load tabOk [.bool (y1 it10_0.toNat)] (gb1_0.elF (by have := g1; omega)) ⟨rfl, rfl, rfl, rfl⟩ rfl rfl rfl rfl ?_
     refine RW.pure tabOk 1 rfl ?_
     by_cases c3 : (y1 it10_0.toNat) = true
     ·
      rw [if_pos c3] at H
      refine RW.bool 36 (b' := true) (c3) rfl ?_
      refine RW.pure tabOk 4 rfl ?_
      obtain ⟨g2, H⟩ := guard_some H
      refine RW.indexBox tabOk g2.1 g2.2 ⟨rfl, rfl, rfl, rfl⟩ rfl rfl rfl rfl rfl rfl rfl ?_
      refine RW.storeBox tabOk gb3_0 [.bool true] ⟨rfl, rfl, rfl⟩ rfl rfl rfl rfl rfl rfl rfl (arrF_fit (by have := g2; omega)) ?_
      intro w10 x8 h18
      have h19 : Box w10.heap b3 54 (arrB 64 (updF ab3_0_0 it10_0.toNat true)) := by rw [lay_arrF] at h18; exact h18
      have sx8 := x8.size
      refine RW.done ?_
      refine NW.norm_block (NW.norm_block ?_)
      have h20 := Ext.turnB x0_0 x8 (by omega)
      have h21 := gb1_0.turnB x8 (by omega)
      have h22 := gb2_0.turnB x8 (by omega)
      exact NW.J fun a ha => ⟨(updF ab3_0_0 it10_0.toNat true), ha.sub ⟨rfl, rfl, rfl, rfl, rfl, trivial⟩, by omega, h20, h21, h22, h19, H⟩
     ·
      rw [if_neg c3] at H
      refine RW.bool 36 (b' := false) (bool_f c3) rfl ?_
      refine RW.pure tabOk 1 rfl ?_
      obtain ⟨g3, H⟩ := guard_some H
      refine RW.indexBox tabOk g3.1 g3.2 ⟨rfl, rfl, rfl, rfl⟩ rfl rfl rfl rfl rfl rfl rfl ?_
      refine RW.load tabOk [.bool (y2 it10_0.toNat)] (gb2_0.elF (by have := g3; omega)) ⟨rfl, rfl, rfl, rfl⟩ rfl rfl rfl rfl ?_
      refine RW.pure tabOk 1 rfl ?_
      obtain ⟨g4, H⟩ := guard_some H
      refine RW.indexBox tabOk g4.1 g4.2 ⟨rfl, rfl, rfl, rfl⟩ rfl rfl rfl rfl rfl rfl rfl ?_
      refine RW.storeBox tabOk gb3_0 [.bool (y2 it10_0.toNat)] ⟨rfl, rfl, rfl⟩ rfl rfl rfl rfl rfl rfl rfl (arrF_fit (by have := g4; omega)) ?_
      intro w11 x9 h23
      have h24 : Box w11.heap b3 54 (arrB 64 (updF ab3_0_0 it10_0.toNat (y2 it10_0.toNat))) := by rw [lay_arrF] at h23; exact h23
      have sx9 := x9.size
      refine RW.done ?_
      refine NW.norm_block (NW.norm_block ?_)
      have h25 := Ext.turnB x0_0 x9 (by omega)
      have h26 := gb1_0.turnB x9 (by omega)
      have h27 := gb2_0.turnB x9 (by omega)
      exact NW.J fun a ha => ⟨(updF ab3_0_0 it10_0.toNat (y2 it10_0.toNat)), ha.sub ⟨rfl, rfl, rfl, rfl, rfl, trivial⟩, by omega, h25, h26, h27, h24, H⟩
    ·
     rw [if_neg c2] at H
     refine CW.cond_f rfl (beq_f c2) ?_
     refine CW.seq ?_
     refine CW.lex [.W, .W] rfl ?_
     refine RW.pure tabOk 2 rfl ?_
     refine RW.done ?_
     refine NW.next ?_
     by_cases c4 : p2 = 1
     ·
      rw [if_pos c4] at H
      refine CW.cond_t rfl (beq_t c4) ?_
      refine CW.lex [.W, .W, .W, .L, .W, .W, .W, .L, .W, .W, .W, .M] rfl ?_
      refine RW.pure tabOk 2 rfl ?_
      obtain ⟨g5, H⟩ := guard_some H
      refine RW.indexBox tabOk g5.1 g5.2 ⟨rfl, rfl, rfl, rfl⟩ rfl rfl rfl rfl rfl rfl rfl ?_
      refine RW.load tabOk [.bool (y1 it10_0.toNat)] (gb1_0.elF (by have := g5; omega)) ⟨rfl, rfl, rfl, rfl⟩ rfl rfl rfl rfl ?_
      refine RW.pure tabOk 1 rfl ?_
      by_cases c5 : (y1 it10_0.toNat) = true
      ·
       rw [if_pos c5] at H
       refine RW.bool 48 (b' := true) (c5) rfl ?_
       refine RW.pure tabOk 1 rfl ?_
       obtain ⟨g6, H⟩ := guard_some H
       refine RW.indexBox tabOk g6.1 g6.2 ⟨rfl, rfl, rfl, rfl⟩ rfl rfl rfl rfl rfl rfl rfl ?_
       refine RW.load tabOk [.bool (y2 it10_0.toNat)] (gb2_0.elF (by have := g6; omega)) ⟨rfl, rfl, rfl, rfl⟩ rfl rfl rfl rfl ?_
       refine RW.pure tabOk 2 rfl ?_
       obtain ⟨g7, H⟩ := guard_some H
       refine RW.indexBox tabOk g7.1 g7.2 ⟨rfl, rfl, rfl, rfl⟩ rfl rfl rfl rfl rfl rfl rfl ?_
       refine RW.storeBox tabOk gb3_0 [.bool (!(y2 it10_0.toNat))] ⟨rfl, rfl, rfl⟩ rfl rfl rfl rfl rfl rfl rfl (arrF_fit (by have := g7; omega)) ?_
       intro w12 x10 h28
       have h29 : Box w12.heap b3 54 (arrB 64 (updF ab3_0_0 it10_0.toNat (!(y2 it10_0.toNat)))) := by rw [lay_arrF] at h28; exact h28
       have sx10 := x10.size
       refine RW.done ?_
       refine NW.norm_block (NW.norm_block ?_)
       have h30 := Ext.turnB x0_0 x10 (by omega)
       have h31 := gb1_0.turnB x10 (by omega)
       have h32 := gb2_0.turnB x10 (by omega)
       exact NW.J fun a ha => ⟨(updF ab3_0_0 it10_0.toNat (!(y2 it10_0.toNat))), ha.sub ⟨rfl, rfl, rfl, rfl, rfl, trivial⟩, by omega, h30, h31, h32, h29, H⟩
      ·
       rw [if_neg c5] at H
       refine RW.bool 48 (b' := false) (bool_f c5) rfl ?_
       refine RW.pure tabOk 5 rfl ?_
       obtain ⟨g8, H⟩ := guard_some H
       refine RW.indexBox tabOk g8.1 g8.2 ⟨rfl, rfl, rfl, rfl⟩ rfl rfl rfl rfl rfl rfl rfl ?_
       refine RW.storeBox tabOk gb3_0 [.bool false] ⟨rfl, rfl, rfl⟩ rfl rfl rfl rfl rfl rfl rfl (arrF_fit (by have := g8; omega)) ?_
       intro w13 x11 h33
       have h34 : Box w13.heap b3 54 (arrB 64 (updF ab3_0_0 it10_0.toNat false)) := by rw [lay_arrF] at h33; exact h33
       have sx11 := x11.size
       refine RW.done ?_
       refine NW.norm_block (NW.norm_block ?_)
       have h35 := Ext.turnB x0_0 x11 (by omega)
       have h36 := gb1_0.turnB x11 (by omega)
       have h37 := gb2_0.turnB x11 (by omega)
       exact NW.J fun a ha => ⟨(updF ab3_0_0 it10_0.toNat false), ha.sub ⟨rfl, rfl, rfl, rfl, rfl, trivial⟩, by omega, h35, h36, h37, h34, H⟩
     ·
      rw [if_neg c4] at H
      refine CW.cond_f rfl (beq_f c4) ?_
      refine CW.lex [.W, .W, .W, .L, .W, .W, .W, .L, .W, .W, .M] rfl ?_
      refine RW.pure tabOk 2 rfl ?_
      obtain ⟨g9, H⟩ := guard_some H
      refine RW.indexBox tabOk g9.1 g9.2 ⟨rfl, rfl, rfl, rfl⟩ rfl rfl rfl rfl rfl rfl rfl ?_
      refine RW.load tabOk [.bool (y1 it10_0.toNat)] (gb1_0.elF (by have := g9; omega)) ⟨rfl, rfl, rfl, rfl⟩ rfl rfl rfl rfl ?_
      refine RW.pure tabOk 1 rfl ?_
      by_cases c6 : (y1 it10_0.toNat) = true
      ·
       rw [if_pos c6] at H
       refine RW.bool 24 (b' := true) (c6) rfl ?_
       refine RW.pure tabOk 1 rfl ?_
       obtain ⟨g10, H⟩ := guard_some H
       refine RW.indexBox tabOk g10.1 g10.2 ⟨rfl, rfl, rfl, rfl⟩ rfl rfl rfl rfl rfl rfl rfl ?_
       refine RW.load tabOk [.bool (y2 it10_0.toNat)] (gb2_0.elF (by have := g10; omega)) ⟨rfl, rfl, rfl, rfl⟩ rfl rfl rfl rfl ?_
       refine RW.pure tabOk 1 rfl ?_
       obtain ⟨g11, H⟩ := guard_some H
       refine RW.indexBox tabOk g11.1 g11.2 ⟨rfl, rfl, rfl, rfl⟩ rfl rfl rfl rfl rfl rfl rfl ?_
       refine RW.storeBox tabOk gb3_0 [.bool (y2 it10_0.toNat)] ⟨rfl, rfl, rfl⟩ rfl rfl rfl rfl rfl rfl rfl (arrF_fit (by have := g11; omega)) ?_
       intro w14 x12 h38
       have h39 : Box w14.heap b3 54 (arrB 64 (updF ab3_0_0 it10_0.toNat (y2 it10_0.toNat))) := by rw [lay_arrF] at h38; exact h38
       have sx12 := x12.size
       refine RW.done ?_
       refine NW.norm_block (NW.norm_block ?_)
       have h40 := Ext.turnB x0_0 x12 (by omega)
       have h41 := gb1_0.turnB x12 (by omega)
       have h42 := gb2_0.turnB x12 (by omega)
       exact NW.J fun a ha => ⟨(updF ab3_0_0 it10_0.toNat (y2 it10_0.toNat)), ha.sub ⟨rfl, rfl, rfl, rfl, rfl, trivial⟩, by omega, h40, h41, h42, h39, H⟩
      ·
       rw [if_neg c6] at H
       refine RW.bool 24 (b' := false) (bool_f c6) rfl ?_
       refine RW.pure tabOk 4 rfl ?_
       obtain ⟨g12, H⟩ := guard_some H
       refine RW.indexBox tabOk g12.1 g12.2 ⟨rfl, rfl, rfl, rfl⟩ rfl rfl rfl rfl rfl rfl rfl ?_
       refine RW.storeBox tabOk gb3_0 [.bool false] ⟨rfl, rfl, rfl⟩ rfl rfl rfl rfl rfl rfl rfl (arrF_fit (by have := g12; omega)) ?_
       intro w15 x13 h43
       have h44 : Box w15.heap b3 54 (arrB 64 (updF ab3_0_0 it10_0.toNat false)) := by rw [lay_arrF] at h43; exact h43
       have sx13 := x13.size
       refine RW.done ?_
       refine NW.norm_block (NW.norm_block ?_)
       have h45 := Ext.turnB x0_0 x13 (by omega)
       have h46 := gb1_0.turnB x13 (by omega)
       have h47 := gb2_0.turnB x13 (by omega)
       exact NW.J fun a ha => ⟨(updF ab3_0_0 it10_0.toNat false), ha.sub ⟨rfl, rfl, rfl, rfl, rfl, trivial⟩, by omega, h45, h46, h47, h44, H⟩
   intro a w9 hJ hp
   obtain ⟨ab3_0_1, hS, hle, x0_1, gb1_1, gb2_1, gb3_1, H⟩ := hJ
   unfold hermitageref1_Two.j0 at H
   refine CW.go hp hS ?_
   refine CW.lex [.W, .W, .W] rfl ?_
   refine RW.pure tabOk 3 rfl ?_
   refine RW.done ?_
   exact NW.J fun a ha => ⟨n1, Nat.lt_succ_self n1, (w64 (it10_0 + 1)), ab3_0_1, ha.sub ⟨rfl, rfl, rfl, rfl, rfl, trivial⟩, by omega, x0_1, gb1_1, gb2_1, gb3_1, H⟩
  ·
   rw [if_neg c1] at H
   refine CW.cond_f rfl (decide_eq_false c1) ?_
   refine CW.exit ?_
   refine NW.exit_then (NW.exit_then (NW.exit_hit ?_))
   refine NW.next ?_
   refine CW.seq ?_
   refine CW.lex [.L, .X, .W] rfl ?_
   refine RW.load tabOk (arrB 64 ab3_0_0) (gb3_0.at 0) ⟨rfl, rfl, rfl, rfl⟩ rfl rfl rfl arrF_len ?_
   obtain ⟨y3, h48, H⟩ := bind_some H
   refine RW.callF (.inl rfl) ent35 ⟨rfl, rfl, rfl, rfl⟩ rfl rfl (hermitageref1_Of.calls k ab3_0_0 _ _ h48) ?_
   rintro _ w16 ⟨A3, c_3, rfl, x14, h49⟩
   refine ⟨_, rfl, x14, ?_⟩
   have sx14 := x14.size
   have h50 : Ow kSeg 93 w16.heap (okL [(w8.heap.size, some w16.heap.size, some 93)]) (okL []) A3 c_3 y3 := h49.close
   refine RW.pure tabOk 1 rfl ?_
   refine RW.done ?_
   refine NW.next ?_
   refine CW.ret ?_
   obtain rfl := Option.some.inj H
   have h51 := Ext.trans x0_0 x14
   exact NW.ret1 rfl (by rfl) ⟨A3, c_3, rfl, h51, (h50.sub (l' := [(w.heap.size, none, some 93)]) (li' := []) ⟨(.inl ⟨by omega, trivial, rfl⟩), trivial⟩ trivial)⟩

set_option maxHeartbeats 4000000 in
set_option maxRecDepth 100000 in
theorem hermitageref1_Ends.calls (A1 : Option Addr) (c_1 : Nat) (p0 : List Seg) (r : Int) (w : World) (hs1 : Sl kSeg w.heap okAll A1 p0) (hl1 : p0.length ≤ c_1) (H : hermitageref1_Ends.f p0 = some r) :
    Calls Tryd.prog 32 #[.slice A1 p0.length c_1] w fun e w' => e = .returned (.int .i64 r) ∧ Ext w w' := by
 have h1 : Sl kSeg w.heap (okL [(0, some w.heap.size, none)]) A1 p0 := hs1.old _ rfl
 have x0 : Ext w w := Upd.refl _ w
 unfold hermitageref1_Ends.f at H
 refine calls_start Tryd.func32 rfl 21 rfl [.slice A1 p0.length c_1] rfl ?_
 refine CW.seq ?_
 refine CW.lex [.W] rfl ?_
 refine RW.pure tabOk 1 rfl ?_
 refine RW.done ?_
 refine NW.next ?_
 refine CW.seq ?_
 refine CW.seq ?_
 refine CW.lex [.W, .W, .W] rfl ?_
 refine RW.pure tabOk 3 rfl ?_
 refine RW.done ?_
 refine NW.next ?_
 by_cases c1 : (p0.length : Int) = 0
 ·
  rw [if_pos c1] at H
  refine CW.cond_t rfl (beq_t c1) ?_
  refine CW.seq ?_
  refine CW.lex [.W] rfl ?_
  refine RW.pure tabOk 1 rfl ?_
  refine RW.done ?_
  refine NW.next ?_
  refine CW.ret ?_
  refine NW.ret_then ?_
  obtain rfl := Option.some.inj H
  exact NW.ret1 rfl (by rfl) ⟨rfl, x0⟩
 ·
  rw [if_neg c1] at H
  refine CW.cond_f rfl (beq_f c1) ?_
  refine CW.skip ?_
  refine NW.next ?_
  refine CW.seq ?_
  refine CW.ord [0, 0, 2, 6, 15, 31, 63, 0, 0, 256, 768, 1920, 3968, 8064, 16383, 32767] (ofL [(0, .W), (1, .W), (2, .W), (3, .W), (4, .W), (5, .W), (7, .W), (8, .W), (9, .W), (10, .W), (11, .W), (12, .W), (6, .L), (13, .L), (14, .W), (15, .W)] .nil) mixed (by kernel_rfl) ?_
  intro w1 x1
  have sx1 := x1.size
  refine RW.pure tabOk 4 rfl ?_
  obtain ⟨g1, H⟩ := guard_some H
  have h2 := h1.ext x1
  obtain ⟨ad1, e1, a1⟩ := kSeg_at h2 g1.1 g1.2
  refine RW.index tabOk g1.1 g1.2 e1 ⟨rfl, rfl, rfl, rfl⟩ rfl rfl rfl rfl rfl rfl ?_
  refine RW.pure tabOk 5 rfl ?_
  obtain ⟨g2, H⟩ := guard_some H
  obtain ⟨ad2, e2, a2⟩ := kSeg_at h2 g2.1 g2.2
  refine RW.index tabOk g2.1 g2.2 e2 ⟨rfl, rfl, rfl, rfl⟩ rfl rfl rfl rfl rfl rfl ?_
  refine RW.pure tabOk 1 rfl ?_
  refine RW.load tabOk [.int .i64 ((rd p0 (w64 ((p0.length : Int) - 1))).At)] ((a1.fld 0).take 1 rfl) ⟨rfl, rfl, rfl, rfl⟩ rfl rfl rfl rfl ?_
  refine RW.load tabOk [.int .i64 ((rd p0 (w64 ((p0.length : Int) - 1))).Len)] (a2.fld 1) ⟨rfl, rfl, rfl, rfl⟩ rfl rfl rfl rfl ?_
  refine RW.pure tabOk 2 rfl ?_
  refine RW.done ?_
  refine NW.next ?_
  refine CW.ret ?_
  obtain rfl := Option.some.inj H
  have h3 := Ext.trans x0 x1
  exact NW.ret1 rfl (by rfl) ⟨rfl, h3⟩

set_option maxHeartbeats 4000000 in
set_option maxRecDepth 100000 in
theorem hermitageref0_Between.calls (p0 : Int) (p1 : Int) (p2 : Int) (r : Bool) (w : World) (H : hermitageref0_Between.f p0 p1 p2 = some r) :
    Calls Tryd.prog 141 #[.int .i64 p0, .int .i64 p1, .int .i64 p2] w fun e w' => e = .returned (.bool r) ∧ Ext w w' := by
 have x0 : Ext w w := Upd.refl _ w
 unfold hermitageref0_Between.f at H
 refine calls_start Tryd.func141 rfl 15 rfl [.int .i64 p0, .int .i64 p1, .int .i64 p2] rfl ?_
 refine CW.seq ?_
 refine CW.lex [.W] rfl ?_
 refine RW.pure tabOk 1 rfl ?_
 refine RW.done ?_
 refine NW.next ?_
 refine CW.seq ?_
 refine CW.lex [.W, .W, .W, .W, .W, .W, .W, .W, .W] rfl ?_
 refine RW.pure tabOk 4 rfl ?_
 by_cases c1 : p1 ≤ p0
 ·
  rw [if_pos c1] at H
  refine RW.bool 10 (b' := true) (decide_eq_true c1) rfl ?_
  refine RW.pure tabOk 5 rfl ?_
  refine RW.done ?_
  refine NW.next ?_
  refine CW.ret ?_
  obtain rfl := Option.some.inj H
  exact NW.ret1 rfl (by rfl) ⟨rfl, x0⟩
 ·
  rw [if_neg c1] at H
  refine RW.bool 10 (b' := false) (decide_eq_false c1) rfl ?_
  refine RW.pure tabOk 5 rfl ?_
  refine RW.done ?_
  refine NW.next ?_
  refine CW.ret ?_
  obtain rfl := Option.some.inj H
  exact NW.ret1 rfl (by rfl) ⟨rfl, x0⟩

set_option maxHeartbeats 4000000 in
set_option maxRecDepth 100000 in
theorem hermitageref7_Device.calls (k : Nat) (p0 : Device) (A1 : Option Addr) (c_1 : Nat) (A2 : Option Addr) (c_2 : Nat) (r : Bool) (w : World) (hs1 : Sl kSeg w.heap okAll A1 p0.Free) (hl1 : p0.Free.length ≤ c_1) (hs2 : Sl kSeg w.heap okAll A2 p0.Late) (hl2 : p0.Late.length ≤ c_2) (H : hermitageref7_Device.f k p0 = some r) :
    Calls Tryd.prog 133 #[.agg #[.int .i64 p0.ID, .int .i64 p0.Size, .slice A1 p0.Free.length c_1, .slice A2 p0.Late.length c_2]] w fun e w' => e = .returned (.bool r) ∧ Ext w w' := by
 have h1 : Sl kSeg w.heap (okL [(0, some w.heap.size, none)]) A1 p0.Free := hs1.old _ rfl
 have h2 : Sl kSeg w.heap (okL [(0, some w.heap.size, none)]) A2 p0.Late := hs2.old _ rfl
 have x0 : Ext w w := Upd.refl _ w
 unfold hermitageref7_Device.f at H
 refine calls_start Tryd.func133 rfl 46 rfl [.agg #[.int .i64 p0.ID, .int .i64 p0.Size, .slice A1 p0.Free.length c_1, .slice A2 p0.Late.length c_2]] rfl ?_
 refine CW.seq ?_
 refine CW.lex [.X, .W] rfl ?_
 refine RW.box (cs := [.int .i64 p0.ID, .int .i64 p0.Size, .slice A1 p0.Free.length c_1, .slice A2 p0.Late.length c_2]) (.inl rfl) ⟨rfl, rfl, rfl, rfl⟩ rfl rfl rfl ?_
 intro b1 w1 x1 l1 h3
 have sx1 := x1.size
 have ltb1 := h3.lt
 refine RW.pure tabOk 1 rfl ?_
 refine RW.done ?_
 refine NW.next ?_
 refine CW.seq ?_
 refine CW.ord [0, 1, 3, 7, 15, 31, 63, 127, 255, 511, 1023, 2047, 4095, 8191, 16383, 32767, 65535, 131071, 262143, 524287, 1048575, 2097151, 524287, 4718591, 16777215, 33554431, 67108863, 134217727, 268435455, 536870911, 134217727, 1207959551, 4294967295, 8589934591, 17179869183, 34359738367, 68719476735, 34359738367, 171798691839, 549755813887, 1099511627775, 2199023255551, 4398046511103, 8796093022207] (ofL [(0, .W), (1, .L), (2, .X), (3, .W), (4, .W), (5, .L), (6, .X), (7, .W), (8, .W), (9, .W), (10, .L), (11, .X), (12, .W), (13, .W), (14, .W), (15, .L), (16, .X), (17, .W), (18, .W), (19, .W), (22, .W), (20, .L), (23, .L), (21, .X), (24, .W), (25, .W), (26, .W), (27, .W), (30, .W), (28, .L), (31, .L), (29, .X), (32, .W), (33, .W), (34, .W), (35, .W), (37, .W), (36, .L), (38, .L), (39, .X), (40, .W), (41, .W), (42, .W), (43, .W)] .nil) mixed (by kernel_rfl) ?_
 intro w2 x2
 have sx2 := x2.size
 refine RW.pure tabOk 1 rfl ?_
 have h4 := h3.ext x2
 refine RW.load tabOk [.int .i64 p0.ID] ((h4.at 0).take 1 rfl) ⟨rfl, rfl, rfl, rfl⟩ rfl rfl rfl rfl ?_
 obtain ⟨y1, h5, H⟩ := bind_some H
 refine RW.callF (.inl rfl) ent141 ⟨rfl, rfl, rfl, rfl⟩ rfl rfl (hermitageref0_Between.calls p0.ID 1 40 _ _ h5) ?_
 rintro _ w3 ⟨rfl, x3⟩
 refine ⟨_, rfl, x3, ?_⟩
 have sx3 := x3.size
 refine RW.pure tabOk 1 rfl ?_
 by_cases c1 : y1 = true
 ·
  rw [if_pos c1] at H
  refine RW.bool 6 (b' := true) (c1) rfl ?_
  refine RW.pure tabOk 1 rfl ?_
  have h6 := h4.ext x3
  refine RW.load tabOk [.int .i64 p0.Size] ((h6.at 1).take 1 rfl) ⟨rfl, rfl, rfl, rfl⟩ rfl rfl rfl rfl ?_
  obtain ⟨y2, h7, H⟩ := bind_some H
  refine RW.callF (.inl rfl) ent141 ⟨rfl, rfl, rfl, rfl⟩ rfl rfl (hermitageref0_Between.calls p0.Size 1 64 _ _ h7) ?_
  rintro _ w4 ⟨rfl, x4⟩
  refine ⟨_, rfl, x4, ?_⟩
  have sx4 := x4.size
  refine RW.pure tabOk 2 rfl ?_
  by_cases c2 : y2 = true
  ·
   rw [if_pos c2] at H
   refine RW.bool 11 (b' := true) (c2) rfl ?_
   refine RW.pure tabOk 1 rfl ?_
   have h8 := h6.ext x4
   refine RW.load tabOk [.slice A1 p0.Free.length c_1] ((h8.at 2).take 1 rfl) ⟨rfl, rfl, rfl, rfl⟩ rfl rfl rfl rfl ?_
   have h9 := (((h1.ext x1).ext x2).ext x3).ext x4
   obtain ⟨y3, h10, H⟩ := bind_some H
   refine RW.callF (.inl rfl) ent12 ⟨rfl, rfl, rfl, rfl⟩ rfl rfl (hermitageref1_Segs.calls k A1 c_1 p0.Free _ _ h9.all hl1 h10) ?_
   rintro _ w5 ⟨rfl, x5⟩
   refine ⟨_, rfl, x5, ?_⟩
   have sx5 := x5.size
   refine RW.pure tabOk 2 rfl ?_
   by_cases c3 : y3 = true
   ·
    rw [if_pos c3] at H
    refine RW.bool 16 (b' := true) (c3) rfl ?_
    refine RW.pure tabOk 1 rfl ?_
    have h11 := h8.ext x5
    refine RW.load tabOk [.slice A2 p0.Late.length c_2] (h11.at 3) ⟨rfl, rfl, rfl, rfl⟩ rfl rfl rfl rfl ?_
    have h12 := ((((h2.ext x1).ext x2).ext x3).ext x4).ext x5
    obtain ⟨y4, h13, H⟩ := bind_some H
    refine RW.callF (.inl rfl) ent12 ⟨rfl, rfl, rfl, rfl⟩ rfl rfl (hermitageref1_Segs.calls k A2 c_2 p0.Late _ _ h12.all hl2 h13) ?_
    rintro _ w6 ⟨rfl, x6⟩
    refine ⟨_, rfl, x6, ?_⟩
    have sx6 := x6.size
    refine RW.pure tabOk 2 rfl ?_
    by_cases c4 : y4 = true
    ·
     rw [if_pos c4] at H
     refine RW.bool 21 (b' := true) (c4) rfl ?_
     refine RW.pure tabOk 2 rfl ?_
     have h14 := h11.ext x6
     refine RW.load tabOk [.slice A1 p0.Free.length c_1] ((h14.at 2).take 1 rfl) ⟨rfl, rfl, rfl, rfl⟩ rfl rfl rfl rfl ?_
     refine RW.load tabOk [.int .i64 p0.Size] ((h14.at 1).take 1 rfl) ⟨rfl, rfl, rfl, rfl⟩ rfl rfl rfl rfl ?_
     have h15 := (h9.ext x5).ext x6
     obtain ⟨y5, h16, H⟩ := bind_some H
     refine RW.callF (.inl rfl) ent32 ⟨rfl, rfl, rfl, rfl⟩ rfl rfl (hermitageref1_Ends.calls A1 c_1 p0.Free _ _ h15.all hl1 h16) ?_
     rintro _ w7 ⟨rfl, x7⟩
     refine ⟨_, rfl, x7, ?_⟩
     have sx7 := x7.size
     refine RW.pure tabOk 3 rfl ?_
     by_cases c5 : y5 ≤ p0.Size
     ·
      rw [if_pos c5] at H
      refine RW.bool 29 (b' := true) (decide_eq_true c5) rfl ?_
      refine RW.pure tabOk 2 rfl ?_
      have h17 := h14.ext x7
      refine RW.load tabOk [.slice A2 p0.Late.length c_2] (h17.at 3) ⟨rfl, rfl, rfl, rfl⟩ rfl rfl rfl rfl ?_
      refine RW.load tabOk [.int .i64 p0.Size] ((h17.at 1).take 1 rfl) ⟨rfl, rfl, rfl, rfl⟩ rfl rfl rfl rfl ?_
      have h18 := (h12.ext x6).ext x7
      obtain ⟨y6, h19, H⟩ := bind_some H
      refine RW.callF (.inl rfl) ent32 ⟨rfl, rfl, rfl, rfl⟩ rfl rfl (hermitageref1_Ends.calls A2 c_2 p0.Late _ _ h18.all hl2 h19) ?_
      rintro _ w8 ⟨rfl, x8⟩
      refine ⟨_, rfl, x8, ?_⟩
      have sx8 := x8.size
      refine RW.pure tabOk 3 rfl ?_
      by_cases c6 : y6 ≤ p0.Size
      ·
       rw [if_pos c6] at H
       refine RW.bool 37 (b' := true) (decide_eq_true c6) rfl ?_
       refine RW.pure tabOk 2 rfl ?_
       have h20 := h17.ext x8
       refine RW.load tabOk [.slice A1 p0.Free.length c_1] ((h20.at 2).take 1 rfl) ⟨rfl, rfl, rfl, rfl⟩ rfl rfl rfl rfl ?_
       refine RW.load tabOk [.slice A2 p0.Late.length c_2] (h20.at 3) ⟨rfl, rfl, rfl, rfl⟩ rfl rfl rfl rfl ?_
       have h21 := (h15.ext x7).ext x8
       have h22 := h18.ext x8
       obtain ⟨y7, h23, H⟩ := bind_some H
       refine RW.callF (.inl rfl) ent20 ⟨rfl, rfl, rfl, rfl⟩ rfl rfl (hermitageref1_Two.calls k A1 c_1 p0.Free A2 c_2 p0.Late 2 _ _ h21.all hl1 h22.all hl2 h23) ?_
       rintro _ w9 ⟨A3, c_3, rfl, x9, h24⟩
       refine ⟨_, rfl, x9, ?_⟩
       have sx9 := x9.size
       have h25 : Ow kSeg 93 w9.heap (okL [(w8.heap.size, some w9.heap.size, some 93)]) (okL []) A3 c_3 y7 := h24.close
       refine RW.pure tabOk 4 rfl ?_
       refine RW.done ?_
       refine NW.next ?_
       refine CW.ret ?_
       obtain rfl := Option.some.inj H
       have h26 := Ext.trans (Ext.trans (Ext.trans (Ext.trans (Ext.trans (Ext.trans (Ext.trans (Ext.trans (Ext.trans x0 x1) x2) x3) x4) x5) x6) x7) x8) x9
       exact NW.ret1 rfl (by rfl) ⟨rfl, h26⟩
      ·
       rw [if_neg c6] at H
       refine RW.bool 37 (b' := false) (decide_eq_false c6) rfl ?_
       refine RW.pure tabOk 9 rfl ?_
       refine RW.done ?_
       refine NW.next ?_
       refine CW.ret ?_
       obtain rfl := Option.some.inj H
       have h27 := Ext.trans (Ext.trans (Ext.trans (Ext.trans (Ext.trans (Ext.trans (Ext.trans (Ext.trans x0 x1) x2) x3) x4) x5) x6) x7) x8
       exact NW.ret1 rfl (by rfl) ⟨rfl, h27⟩
     ·
      rw [if_neg c5] at H
      refine RW.bool 29 (b' := false) (decide_eq_false c5) rfl ?_
      refine RW.pure tabOk 17 rfl ?_
      refine RW.done ?_
      refine NW.next ?_
      refine CW.ret ?_
      obtain rfl := Option.some.inj H
      have h28 := Ext.trans (Ext.trans (Ext.trans (Ext.trans (Ext.trans (Ext.trans (Ext.trans x0 x1) x2) x3) x4) x5) x6) x7
      exact NW.ret1 rfl (by rfl) ⟨rfl, h28⟩
    ·
     rw [if_neg c4] at H
     refine RW.bool 21 (b' := false) (bool_f c4) rfl ?_
     refine RW.pure tabOk 25 rfl ?_
     refine RW.done ?_
     refine NW.next ?_
     refine CW.ret ?_
     obtain rfl := Option.some.inj H
     have h29 := Ext.trans (Ext.trans (Ext.trans (Ext.trans (Ext.trans (Ext.trans x0 x1) x2) x3) x4) x5) x6
     exact NW.ret1 rfl (by rfl) ⟨rfl, h29⟩
   ·
    rw [if_neg c3] at H
    refine RW.bool 16 (b' := false) (bool_f c3) rfl ?_
    refine RW.pure tabOk 30 rfl ?_
    refine RW.done ?_
    refine NW.next ?_
    refine CW.ret ?_
    obtain rfl := Option.some.inj H
    have h30 := Ext.trans (Ext.trans (Ext.trans (Ext.trans (Ext.trans x0 x1) x2) x3) x4) x5
    exact NW.ret1 rfl (by rfl) ⟨rfl, h30⟩
  ·
   rw [if_neg c2] at H
   refine RW.bool 11 (b' := false) (bool_f c2) rfl ?_
   refine RW.pure tabOk 35 rfl ?_
   refine RW.done ?_
   refine NW.next ?_
   refine CW.ret ?_
   obtain rfl := Option.some.inj H
   have h31 := Ext.trans (Ext.trans (Ext.trans (Ext.trans x0 x1) x2) x3) x4
   exact NW.ret1 rfl (by rfl) ⟨rfl, h31⟩
 ·
  rw [if_neg c1] at H
  refine RW.bool 6 (b' := false) (bool_f c1) rfl ?_
  refine RW.pure tabOk 40 rfl ?_
  refine RW.done ?_
  refine NW.next ?_
  refine CW.ret ?_
  obtain rfl := Option.some.inj H
  have h32 := Ext.trans (Ext.trans (Ext.trans x0 x1) x2) x3
  exact NW.ret1 rfl (by rfl) ⟨rfl, h32⟩

set_option maxHeartbeats 4000000 in
set_option maxRecDepth 100000 in
theorem hermitageref7_Devices.calls (k : Nat) (A1 : Option Addr) (c_1 : Nat) (p0 : List Device) (r : Bool) (w : World) (hs1 : Sl kDeviceR w.heap okAll A1 p0) (hl1 : p0.length ≤ c_1) (H : hermitageref7_Devices.f k p0 = some r) :
    Calls Tryd.prog 107 #[.slice A1 p0.length c_1] w fun e w' => e = .returned (.bool r) ∧ Ext w w' := by
 have h1 : Sl kDeviceR w.heap (okL [(0, some w.heap.size, none)]) A1 p0 := hs1.old _ rfl
 have x0 : Ext w w := Upd.refl _ w
 unfold hermitageref7_Devices.f at H
 refine calls_start Tryd.func107 rfl 37 rfl [.slice A1 p0.length c_1] rfl ?_
 refine CW.seq ?_
 refine CW.lex [.W] rfl ?_
 refine RW.pure tabOk 1 rfl ?_
 refine RW.done ?_
 refine NW.next ?_
 refine CW.seq ?_
 refine CW.seq ?_
 refine CW.lex [.W, .W, .W] rfl ?_
 refine RW.pure tabOk 3 rfl ?_
 refine RW.done ?_
 refine NW.next ?_
 by_cases c1 : 6 < (p0.length : Int)
 ·
  rw [if_pos c1] at H
  refine CW.cond_t rfl (decide_eq_true c1) ?_
  refine CW.seq ?_
  refine CW.lex [.W] rfl ?_
  refine RW.pure tabOk 1 rfl ?_
  refine RW.done ?_
  refine NW.next ?_
  refine CW.ret ?_
  refine NW.ret_then ?_
  obtain rfl := Option.some.inj H
  exact NW.ret1 rfl (by rfl) ⟨rfl, x0⟩
 ·
  rw [if_neg c1] at H
  refine CW.cond_f rfl (decide_eq_false c1) ?_
  refine CW.skip ?_
  refine NW.next ?_
  refine CW.seq ?_
  refine CW.seq ?_
  refine CW.lex [.W] rfl ?_
  refine RW.pure tabOk 1 rfl ?_
  refine RW.done ?_
  refine NW.next ?_
  refine CW.block ?_
  refine CW.loop (fun n1 a w1 => ∃ (it3_0 : Int), Sat 37 [(0, .slice A1 p0.length c_1), (3, .int .i64 it3_0)] a ∧ w.heap.size ≤ w1.heap.size ∧ Sl kDeviceR w1.heap (okL [(0, some w.heap.size, none)]) A1 p0 ∧ Ext w w1 ∧ hermitageref7_Devices.l0 p0 k n1 it3_0 = some r) k ?_ ?_
  · exact fun a ha => ⟨0, ha.sub ⟨rfl, rfl, trivial⟩, by omega, h1, x0, H⟩
  intro n1 a w1 hI hp
  obtain ⟨it3_0, hS, hle, gF1_0, x0_0, H⟩ := hI
  cases n1 with
  | zero => cases H
  | succ n1 =>
   rw [hermitageref7_Devices.l0] at H
   refine CW.go hp hS ?_
   refine CW.seq ?_
   refine CW.seq ?_
   refine CW.lex [.W, .W, .W, .W] rfl ?_
   refine RW.pure tabOk 4 rfl ?_
   refine RW.done ?_
   refine NW.next ?_
   by_cases c2 : it3_0 < (p0.length : Int)
   ·
    rw [if_pos c2] at H
    refine CW.cond_t rfl (decide_eq_true c2) ?_
    refine CW.skip ?_
    refine NW.next ?_
    refine CW.seq ?_
    refine CW.block ?_
    refine CW.seqJ (fun a w2 => ∃ (bt36_1 : Bool), Sat 37 [(0, .slice A1 p0.length c_1), (3, .int .i64 it3_0), (36, .bool bt36_1)] a ∧ w1.heap.size ≤ w2.heap.size ∧ Sl kDeviceR w2.heap (okL [(0, some w.heap.size, none)]) A1 p0 ∧ Ext w w2 ∧ hermitageref7_Devices.j0 it3_0 (hermitageref7_Devices.l0 p0 k n1) bt36_1 = some r) ?_ ?_
    ·
     refine CW.ord [0, 0, 3, 7, 15, 31, 63, 127, 255, 511, 1023, 1023, 3071, 8191, 16383, 32767, 1023, 1023, 197631, 459775, 984063, 2097151, 4194303, 8388607] (ofL [(0, .W), (1, .W), (2, .W), (3, .L), (4, .X), (5, .W), (6, .W), (7, .W), (8, .W), (9, .W), (10, .W), (11, .W), (12, .W), (13, .W), (14, .W), (16, .W), (17, .W), (18, .W), (19, .W), (15, .L), (20, .L), (21, .W), (22, .W), (23, .W)] .nil) mixed (by kernel_rfl) ?_
     intro w3 x1
     have sx1 := x1.size
     refine RW.pure tabOk 2 rfl ?_
     obtain ⟨g1, H⟩ := guard_some H
     have h2 := gF1_0.ext x1
     obtain ⟨ad1, A2, c_2, A3, c_3, e1, a1, l1, h3, l2, h4⟩ := kDeviceR_at h2 g1.1 g1.2
     refine RW.index tabOk g1.1 g1.2 e1 ⟨rfl, rfl, rfl, rfl⟩ rfl rfl rfl rfl rfl rfl ?_
     refine RW.load tabOk [.int .i64 ((rd p0 it3_0).ID), .int .i64 ((rd p0 it3_0).Size), .slice A2 ((rd p0 it3_0).Free).length c_2, .slice A3 ((rd p0 it3_0).Late).length c_3] a1 ⟨rfl, rfl, rfl, rfl⟩ rfl rfl rfl rfl ?_
     obtain ⟨y1, h5, H⟩ := bind_some H
     refine RW.callF (.inl rfl) ent133 ⟨rfl, rfl, rfl, rfl⟩ rfl rfl (hermitageref7_Device.calls k (rd p0 it3_0) A2 c_2 A3 c_3 _ _ h3.all l1 h4.all l2 h5) ?_
     rintro _ w4 ⟨rfl, x2⟩
     refine ⟨_, rfl, x2, ?_⟩
     have sx2 := x2.size
     refine RW.pure tabOk 2 rfl ?_
     by_cases c3 : y1 = true
     ·
      rw [if_pos c3] at H
      refine RW.bool 19 (b' := false) (not_f (c3)) rfl ?_
      refine RW.pure tabOk 3 rfl ?_
      by_cases c4 : 0 < it3_0
      ·
       rw [if_pos c4] at H
       refine RW.bool 22 (b' := true) (decide_eq_true c4) rfl ?_
       refine RW.pure tabOk 3 rfl ?_
       obtain ⟨g2, H⟩ := guard_some H
       have h6 := h2.ext x2
       obtain ⟨ad2, A4, c_4, A5, c_5, e2, a2, l3, h7, l4, h8⟩ := kDeviceR_at h6 g2.1 g2.2
       refine RW.index tabOk g2.1 g2.2 e2 ⟨rfl, rfl, rfl, rfl⟩ rfl rfl rfl rfl rfl rfl ?_
       refine RW.pure tabOk 3 rfl ?_
       obtain ⟨g3, H⟩ := guard_some H
       obtain ⟨ad3, A6, c_6, A7, c_7, e3, a3, l5, h9, l6, h10⟩ := kDeviceR_at h6 g3.1 g3.2
       refine RW.index tabOk g3.1 g3.2 e3 ⟨rfl, rfl, rfl, rfl⟩ rfl rfl rfl rfl rfl rfl ?_
       refine RW.pure tabOk 1 rfl ?_
       refine RW.load tabOk [.int .i64 ((rd p0 (w64 (it3_0 - 1))).ID)] ((a2.fld 0).take 1 rfl) ⟨rfl, rfl, rfl, rfl⟩ rfl rfl rfl rfl ?_
       refine RW.load tabOk [.int .i64 ((rd p0 it3_0).ID)] ((a3.fld 0).take 1 rfl) ⟨rfl, rfl, rfl, rfl⟩ rfl rfl rfl rfl ?_
       refine RW.pure tabOk 3 rfl ?_
       refine RW.done ?_
       have h11 := Ext.trans (Ext.trans x0_0 x1) x2
       exact NW.J fun a ha => ⟨(decide (((rd p0 it3_0).ID) ≤ ((rd p0 (w64 (it3_0 - 1))).ID))), ha.sub ⟨rfl, rfl, rfl, trivial⟩, by omega, h6, h11, H⟩
      ·
       rw [if_neg c4] at H
       refine RW.bool 22 (b' := false) (decide_eq_false c4) rfl ?_
       refine RW.pure tabOk 14 rfl ?_
       refine RW.done ?_
       have h12 := h2.ext x2
       have h13 := Ext.trans (Ext.trans x0_0 x1) x2
       exact NW.J fun a ha => ⟨false, ha.sub ⟨rfl, rfl, rfl, trivial⟩, by omega, h12, h13, H⟩
     ·
      rw [if_neg c3] at H
      refine RW.bool 19 (b' := true) (not_t (bool_f c3)) rfl ?_
      refine RW.pure tabOk 17 rfl ?_
      refine RW.done ?_
      have h14 := h2.ext x2
      have h15 := Ext.trans (Ext.trans x0_0 x1) x2
      exact NW.J fun a ha => ⟨true, ha.sub ⟨rfl, rfl, rfl, trivial⟩, by omega, h14, h15, H⟩
    intro a w2 hJ hp
    obtain ⟨bt36_1, hS, hle, gF1_1, x0_1, H⟩ := hJ
    unfold hermitageref7_Devices.j0 at H
    refine CW.go hp hS ?_
    by_cases c5 : bt36_1 = true
    ·
     rw [if_pos c5] at H
     refine CW.cond_t rfl (c5) ?_
     refine CW.seq ?_
     refine CW.lex [.W] rfl ?_
     refine RW.pure tabOk 1 rfl ?_
     refine RW.done ?_
     refine NW.next ?_
     refine CW.ret ?_
     refine NW.ret_block (NW.ret_then (NW.ret_then (NW.ret_block (NW.ret_then ?_))))
     obtain rfl := Option.some.inj H
     exact NW.ret1 rfl (by rfl) ⟨rfl, x0_1⟩
    ·
     rw [if_neg c5] at H
     refine CW.cond_f rfl (bool_f c5) ?_
     refine CW.skip ?_
     refine NW.norm_block (NW.next ?_)
     refine CW.lex [.W, .W, .W] rfl ?_
     refine RW.pure tabOk 3 rfl ?_
     refine RW.done ?_
     exact NW.J fun a ha => ⟨n1, Nat.lt_succ_self n1, (w64 (it3_0 + 1)), ha.sub ⟨rfl, rfl, trivial⟩, by omega, gF1_1, x0_1, H⟩
   ·
    rw [if_neg c2] at H
    refine CW.cond_f rfl (decide_eq_false c2) ?_
    refine CW.exit ?_
    refine NW.exit_then (NW.exit_then (NW.exit_hit ?_))
    refine NW.next ?_
    refine CW.seq ?_
    refine CW.lex [.W] rfl ?_
    refine RW.pure tabOk 1 rfl ?_
    refine RW.done ?_
    refine NW.next ?_
    refine CW.ret ?_
    obtain rfl := Option.some.inj H
    exact NW.ret1 rfl (by rfl) ⟨rfl, x0_0⟩

set_option maxHeartbeats 4000000 in
set_option maxRecDepth 100000 in
theorem hermitageref1_List.calls (k : Nat) (A1 : Option Addr) (c_1 : Nat) (p0 : List Seg) (r : (List Int)) (w : World) (hs1 : Sl kSeg w.heap okAll A1 p0) (hl1 : p0.length ≤ c_1) (H : hermitageref1_List.f k p0 = some r) :
    Calls Tryd.prog 28 #[.slice A1 p0.length c_1] w fun e w' => ∃ (B1 : Option Addr) (d1 : Nat), e = .returned (.slice B1 r.length d1) ∧ Ext w w' ∧ Ow (Kd.int .i64) 3 w'.heap (okL [(w.heap.size, none, some 3)]) (okL []) B1 d1 r := by
 have h1 : Sl kSeg w.heap (okL [(0, some w.heap.size, none)]) A1 p0 := hs1.old _ rfl
 have x0 : Ext w w := Upd.refl _ w
 unfold hermitageref1_List.f at H
 refine calls_start Tryd.func28 rfl 20 rfl [.slice A1 p0.length c_1] rfl ?_
 refine CW.seq ?_
 refine CW.lex [.W] rfl ?_
 refine RW.pure tabOk 1 rfl ?_
 refine RW.done ?_
 refine NW.next ?_
 refine CW.seq ?_
 refine CW.lex [.W] rfl ?_
 refine RW.pure tabOk 1 rfl ?_
 refine RW.done ?_
 refine NW.next ?_
 refine CW.seq ?_
 refine CW.lex [.W, .X, .X, .M] rfl ?_
 refine RW.pure tabOk 1 rfl ?_
 obtain ⟨y1, h2, H⟩ := bind_some H
 refine RW.callF (.inl rfl) ent57 ⟨rfl, rfl, rfl, rfl⟩ rfl rfl (hermitageref1_Set.calls k A1 c_1 p0 _ _ h1.all hl1 h2) ?_
 rintro _ w1 ⟨rfl, x1⟩
 refine ⟨_, rfl, x1, ?_⟩
 have sx1 := x1.size
 refine RW.alloc tabOk (.inl rfl) ⟨rfl, rfl, rfl, rfl⟩ rfl rfl ?_
 intro b1 w2 x2 l1 h3
 have sx2 := x2.size
 have ltb1 := h3.lt
 refine RW.storeBox tabOk h3 (arrB 64 y1) ⟨rfl, rfl, rfl⟩ rfl rfl rfl rfl rfl arrF_len (arrF_all fun _ => rfl) (arrF_fitAll arrF_len) ?_
 intro w3 x3 h4
 have h5 : Box w3.heap b1 54 (arrB 64 y1) := by rw [lay_arrFull] at h4; exact h4
 have sx3 := x3.size
 refine RW.done ?_
 refine NW.next ?_
 refine CW.seq ?_
 refine CW.seq ?_
 refine CW.lex [.W] rfl ?_
 refine RW.pure tabOk 1 rfl ?_
 refine RW.done ?_
 refine NW.next ?_
 refine CW.block ?_
 refine CW.loop (fun n1 a w4 => ∃ (lt3_0 : List Int) (At3_0 : Option Addr) (ct3_0 : Nat) (it5_0 : Int), Sat 20 [(3, .slice At3_0 lt3_0.length ct3_0), (4, .pointer (some ⟨b1, 0, none⟩)), (5, .int .i64 it5_0)] a ∧ w3.heap.size ≤ w4.heap.size ∧ Ow (Kd.int .i64) 3 w4.heap (okL [(w3.heap.size, none, some 3)]) (okL []) At3_0 ct3_0 lt3_0 ∧ Ext w w4 ∧ Box w4.heap b1 54 (arrB 64 y1) ∧ hermitageref1_List.l0 y1 n1 lt3_0 it5_0 = some r) k ?_ ?_
 have h6 := Ext.turnB (Ext.trans (Ext.trans x0 x1) x2) x3 (by omega)
 · exact fun a ha => ⟨([] : List Int), none, 0, 0, ha.sub ⟨rfl, rfl, rfl, trivial⟩, by omega, Ow.nil, h6, h5, H⟩
 intro n1 a w4 hI hp
 obtain ⟨lt3_0, At3_0, ct3_0, it5_0, hS, hle, ft3_0, x0_0, gb1_0, H⟩ := hI
 cases n1 with
 | zero => cases H
 | succ n1 =>
  rw [hermitageref1_List.l0] at H
  refine CW.go hp hS ?_
  have h7 : Ow (Kd.int .i64) 3 w4.heap (okL [(w3.heap.size, some w4.heap.size, some 3)]) (okL []) At3_0 ct3_0 lt3_0 := ft3_0.close
  refine CW.seq ?_
  refine CW.seq ?_
  refine CW.lex [.W, .W] rfl ?_
  refine RW.pure tabOk 2 rfl ?_
  refine RW.done ?_
  refine NW.next ?_
  by_cases c1 : it5_0 < 64
  ·
   rw [if_pos c1] at H
   refine CW.cond_t rfl (decide_eq_true c1) ?_
   refine CW.skip ?_
   refine NW.next ?_
   refine CW.seqJ (fun a w5 => ∃ (lt3_1 : List Int) (At3_1 : Option Addr) (ct3_1 : Nat), Sat 20 [(3, .slice At3_1 lt3_1.length ct3_1), (4, .pointer (some ⟨b1, 0, none⟩)), (5, .int .i64 it5_0)] a ∧ w4.heap.size ≤ w5.heap.size ∧ Ow (Kd.int .i64) 3 w5.heap (okL [(w3.heap.size, none, some 3)]) (okL []) At3_1 ct3_1 lt3_1 ∧ Ext w w5 ∧ Box w5.heap b1 54 (arrB 64 y1) ∧ hermitageref1_List.j0 it5_0 (hermitageref1_List.l0 y1 n1) lt3_1 = some r) ?_ ?_
   ·
    refine CW.block ?_
    refine CW.seq ?_
    refine CW.lex [.W, .W, .L] rfl ?_
    refine RW.pure tabOk 1 rfl ?_
    obtain ⟨g1, H⟩ := guard_some H
    refine RW.indexBox tabOk g1.1 g1.2 ⟨rfl, rfl, rfl, rfl⟩ rfl rfl rfl rfl rfl rfl rfl ?_
    refine RW.load tabOk [.bool (y1 it5_0.toNat)] (gb1_0.elF (by have := g1; omega)) ⟨rfl, rfl, rfl, rfl⟩ rfl rfl rfl rfl ?_
    refine RW.done ?_
    refine NW.next ?_
    by_cases c2 : (y1 it5_0.toNat) = true
    ·
     rw [if_pos c2] at H
     refine CW.cond_t rfl (c2) ?_
     refine CW.lex [.W, .W, .X, .M, .W] rfl ?_
     refine RW.pure tabOk 2 rfl ?_
     refine RW.buildSlice (cs := [.int .i64 it5_0]) tabOk (.inl rfl) ⟨rfl, rfl, rfl, rfl⟩ rfl rfl rfl rfl rfl rfl rfl ?_
     intro b2 w6 x4 l2 h8
     have sx4 := x4.size
     have ltb2 := h8.lt
     have h9 := h7.ext x4
     obtain ⟨g2, H⟩ := guard_some H
     refine RW.append1L (d := (Kd.int .i64)) (v := it5_0) (l := [(w3.heap.size, some w4.heap.size, some 3)]) (li := []) (ly := []) (xs := lt3_0) tabOk h9 h8 rfl trivial (by simp only [maxLen]; omega) g2 ⟨rfl, rfl, rfl, rfl⟩ rfl rfl rfl rfl rfl rfl rfl ?_
     intro A2 c_2 w7 x5 h10
     have sx5 := x5.size
     have h11 := h10.close.sub (l' := [(w3.heap.size, some w7.heap.size, some 3)]) (li' := []) ⟨(.inl ⟨by omega, by omega, rfl⟩), ⟨(.inl ⟨by omega, by omega, rfl⟩), trivial⟩⟩ trivial
     refine RW.pure tabOk 1 rfl ?_
     refine RW.done ?_
     refine NW.norm_block ?_
     have h12 := Ext.turn (Ext.trans x0_0 x4) x5 ⟨by omega, trivial⟩
     have h13 := (gb1_0.ext x4).turnL x5 (.inl (by decide))
     exact NW.J fun a ha => ⟨(lt3_0 ++ [it5_0]), A2, c_2, ha.sub ⟨rfl, rfl, rfl, trivial⟩, by omega, (h11.sub ⟨(.inl ⟨by omega, trivial, rfl⟩), trivial⟩ trivial), h12, h13, H⟩
    ·
     rw [if_neg c2] at H
     refine CW.cond_f rfl (bool_f c2) ?_
     refine CW.skip ?_
     refine NW.norm_block ?_
     exact NW.J fun a ha => ⟨lt3_0, At3_0, ct3_0, ha.sub ⟨rfl, rfl, rfl, trivial⟩, by omega, (h7.sub ⟨(.inl ⟨by omega, trivial, rfl⟩), trivial⟩ trivial), x0_0, gb1_0, H⟩
   intro a w5 hJ hp
   obtain ⟨lt3_1, At3_1, ct3_1, hS, hle, ft3_1, x0_1, gb1_1, H⟩ := hJ
   unfold hermitageref1_List.j0 at H
   refine CW.go hp hS ?_
   have h14 : Ow (Kd.int .i64) 3 w5.heap (okL [(w3.heap.size, some w5.heap.size, some 3)]) (okL []) At3_1 ct3_1 lt3_1 := ft3_1.close
   refine CW.lex [.W, .W, .W] rfl ?_
   refine RW.pure tabOk 3 rfl ?_
   refine RW.done ?_
   exact NW.J fun a ha => ⟨n1, Nat.lt_succ_self n1, lt3_1, At3_1, ct3_1, (w64 (it5_0 + 1)), ha.sub ⟨rfl, rfl, rfl, trivial⟩, by omega, (h14.sub ⟨(.inl ⟨by omega, trivial, rfl⟩), trivial⟩ trivial), x0_1, gb1_1, H⟩
  ·
   rw [if_neg c1] at H
   refine CW.cond_f rfl (decide_eq_false c1) ?_
   refine CW.exit ?_
   refine NW.exit_then (NW.exit_then (NW.exit_hit ?_))
   refine NW.next ?_
   refine CW.seq ?_
   refine CW.lex [.W, .W] rfl ?_
   refine RW.pure tabOk 2 rfl ?_
   refine RW.done ?_
   refine NW.next ?_
   refine CW.ret ?_
   obtain rfl := Option.some.inj H
   exact NW.ret1 rfl (by rfl) ⟨At3_0, ct3_0, rfl, x0_0, (h7.sub (l' := [(w.heap.size, none, some 3)]) (li' := []) ⟨(.inl ⟨by omega, trivial, rfl⟩), trivial⟩ trivial)⟩

set_option maxHeartbeats 4000000 in
set_option maxRecDepth 100000 in
theorem hermitageref1_Count.calls (k : Nat) (A1 : Option Addr) (c_1 : Nat) (p0 : List Seg) (r : Int) (w : World) (hs1 : Sl kSeg w.heap okAll A1 p0) (hl1 : p0.length ≤ c_1) (H : hermitageref1_Count.f k p0 = some r) :
    Calls Tryd.prog 27 #[.slice A1 p0.length c_1] w fun e w' => e = .returned (.int .i64 r) ∧ Ext w w' := by
 have h1 : Sl kSeg w.heap (okL [(0, some w.heap.size, none)]) A1 p0 := hs1.old _ rfl
 have x0 : Ext w w := Upd.refl _ w
 unfold hermitageref1_Count.f at H
 refine calls_start Tryd.func27 rfl 6 rfl [.slice A1 p0.length c_1] rfl ?_
 refine CW.seq ?_
 refine CW.lex [.W] rfl ?_
 refine RW.pure tabOk 1 rfl ?_
 refine RW.done ?_
 refine NW.next ?_
 refine CW.seq ?_
 refine CW.lex [.W, .X, .W, .W] rfl ?_
 refine RW.pure tabOk 1 rfl ?_
 obtain ⟨y1, h2, H⟩ := bind_some H
 refine RW.callF (.inl rfl) ent28 ⟨rfl, rfl, rfl, rfl⟩ rfl rfl (hermitageref1_List.calls k A1 c_1 p0 _ _ h1.all hl1 h2) ?_
 rintro _ w1 ⟨A2, c_2, rfl, x1, h3⟩
 refine ⟨_, rfl, x1, ?_⟩
 have sx1 := x1.size
 have h4 : Ow (Kd.int .i64) 3 w1.heap (okL [(w.heap.size, some w1.heap.size, some 3)]) (okL []) A2 c_2 y1 := h3.close
 refine RW.pure tabOk 2 rfl ?_
 refine RW.done ?_
 refine NW.next ?_
 refine CW.ret ?_
 obtain rfl := Option.some.inj H
 have h5 := Ext.trans x0 x1
 exact NW.ret1 rfl (by rfl) ⟨rfl, h5⟩

set_option maxHeartbeats 4000000 in
set_option maxRecDepth 100000 in
theorem hermitageref7_Count.calls (k : Nat) (A1 : Option Addr) (c_1 : Nat) (p0 : List Device) (p1 : Int) (r : Int) (w : World) (hs1 : Sl kDeviceR w.heap okAll A1 p0) (hl1 : p0.length ≤ c_1) (H : hermitageref7_Count.f k p0 p1 = some r) :
    Calls Tryd.prog 111 #[.slice A1 p0.length c_1, .int .i64 p1] w fun e w' => e = .returned (.int .i64 r) ∧ Ext w w' := by
 have h1 : Sl kDeviceR w.heap (okL [(0, some w.heap.size, none)]) A1 p0 := hs1.old _ rfl
 have x0 : Ext w w := Upd.refl _ w
 unfold hermitageref7_Count.f at H
 refine calls_start Tryd.func111 rfl 29 rfl [.slice A1 p0.length c_1, .int .i64 p1] rfl ?_
 refine CW.seq ?_
 refine CW.lex [.W] rfl ?_
 refine RW.pure tabOk 1 rfl ?_
 refine RW.done ?_
 refine NW.next ?_
 refine CW.seq ?_
 refine CW.lex [.W] rfl ?_
 refine RW.pure tabOk 1 rfl ?_
 refine RW.done ?_
 refine NW.next ?_
 refine CW.seq ?_
 refine CW.seq ?_
 refine CW.lex [.W] rfl ?_
 refine RW.pure tabOk 1 rfl ?_
 refine RW.done ?_
 refine NW.next ?_
 refine CW.block ?_
 refine CW.loop (fun n1 a w1 => ∃ (it5_0 : Int) (it6_0 : Int), Sat 29 [(0, .slice A1 p0.length c_1), (1, .int .i64 p1), (5, .int .i64 it5_0), (6, .int .i64 it6_0)] a ∧ w.heap.size ≤ w1.heap.size ∧ Sl kDeviceR w1.heap (okL [(0, some w.heap.size, none)]) A1 p0 ∧ Ext w w1 ∧ hermitageref7_Count.l0 p0 p1 k n1 it5_0 it6_0 = some r) k ?_ ?_
 · exact fun a ha => ⟨0, 0, ha.sub ⟨rfl, rfl, rfl, rfl, trivial⟩, by omega, h1, x0, H⟩
 intro n1 a w1 hI hp
 obtain ⟨it5_0, it6_0, hS, hle, gF1_0, x0_0, H⟩ := hI
 cases n1 with
 | zero => cases H
 | succ n1 =>
  rw [hermitageref7_Count.l0] at H
  refine CW.go hp hS ?_
  refine CW.seq ?_
  refine CW.seq ?_
  refine CW.lex [.W, .W, .W, .W] rfl ?_
  refine RW.pure tabOk 4 rfl ?_
  refine RW.done ?_
  refine NW.next ?_
  by_cases c1 : it6_0 < (p0.length : Int)
  ·
   rw [if_pos c1] at H
   refine CW.cond_t rfl (decide_eq_true c1) ?_
   refine CW.skip ?_
   refine NW.next ?_
   refine CW.seqJ (fun a w2 => ∃ (it5_1 : Int), Sat 29 [(0, .slice A1 p0.length c_1), (1, .int .i64 p1), (5, .int .i64 it5_1), (6, .int .i64 it6_0)] a ∧ w1.heap.size ≤ w2.heap.size ∧ Sl kDeviceR w2.heap (okL [(0, some w.heap.size, none)]) A1 p0 ∧ Ext w w2 ∧ hermitageref7_Count.j0 it6_0 (hermitageref7_Count.l0 p0 p1 k n1) it5_1 = some r) ?_ ?_
   ·
    refine CW.block ?_
    refine CW.seq ?_
    refine CW.lex [.W, .W, .W, .W, .L, .W, .W] rfl ?_
    refine RW.pure tabOk 2 rfl ?_
    obtain ⟨g1, H⟩ := guard_some H
    obtain ⟨ad1, A2, c_2, A3, c_3, e1, a1, l1, h2, l2, h3⟩ := kDeviceR_at gF1_0 g1.1 g1.2
    refine RW.index tabOk g1.1 g1.2 e1 ⟨rfl, rfl, rfl, rfl⟩ rfl rfl rfl rfl rfl rfl ?_
    refine RW.pure tabOk 1 rfl ?_
    refine RW.load tabOk [.int .i64 ((rd p0 it6_0).ID)] ((a1.fld 0).take 1 rfl) ⟨rfl, rfl, rfl, rfl⟩ rfl rfl rfl rfl ?_
    refine RW.pure tabOk 2 rfl ?_
    refine RW.done ?_
    refine NW.next ?_
    by_cases c2 : (rd p0 it6_0).ID = p1
    ·
     rw [if_pos c2] at H
     refine CW.cond_f rfl (bne_f c2) ?_
     refine CW.skip ?_
     refine NW.norm_block ?_
     exact NW.J fun a ha => ⟨it5_0, ha.sub ⟨rfl, rfl, rfl, rfl, trivial⟩, by omega, gF1_0, x0_0, H⟩
    ·
     rw [if_neg c2] at H
     refine CW.cond_t rfl (bne_t c2) ?_
     refine CW.lex [.W, .W, .W, .W, .W, .L, .X, .W, .W] rfl ?_
     refine RW.pure tabOk 3 rfl ?_
     obtain ⟨g2, H⟩ := guard_some H
     obtain ⟨ad2, A4, c_4, A5, c_5, e2, a2, l3, h4, l4, h5⟩ := kDeviceR_at gF1_0 g2.1 g2.2
     refine RW.index tabOk g2.1 g2.2 e2 ⟨rfl, rfl, rfl, rfl⟩ rfl rfl rfl rfl rfl rfl ?_
     refine RW.pure tabOk 1 rfl ?_
     refine RW.load tabOk [.slice A4 ((rd p0 it6_0).Free).length c_4] ((a2.fld 2).take 1 rfl) ⟨rfl, rfl, rfl, rfl⟩ rfl rfl rfl rfl ?_
     obtain ⟨y1, h6, H⟩ := bind_some H
     refine RW.callF (.inl rfl) ent27 ⟨rfl, rfl, rfl, rfl⟩ rfl rfl (hermitageref1_Count.calls k A4 c_4 ((rd p0 it6_0).Free) _ _ h4.all l3 h6) ?_
     rintro _ w3 ⟨rfl, x1⟩
     refine ⟨_, rfl, x1, ?_⟩
     have sx1 := x1.size
     refine RW.pure tabOk 2 rfl ?_
     refine RW.done ?_
     refine NW.norm_block ?_
     have h7 := gF1_0.ext x1
     have h8 := Ext.trans x0_0 x1
     exact NW.J fun a ha => ⟨(w64 (it5_0 + y1)), ha.sub ⟨rfl, rfl, rfl, rfl, trivial⟩, by omega, h7, h8, H⟩
   intro a w2 hJ hp
   obtain ⟨it5_1, hS, hle, gF1_1, x0_1, H⟩ := hJ
   unfold hermitageref7_Count.j0 at H
   refine CW.go hp hS ?_
   refine CW.lex [.W, .W, .W] rfl ?_
   refine RW.pure tabOk 3 rfl ?_
   refine RW.done ?_
   exact NW.J fun a ha => ⟨n1, Nat.lt_succ_self n1, it5_1, (w64 (it6_0 + 1)), ha.sub ⟨rfl, rfl, rfl, rfl, trivial⟩, by omega, gF1_1, x0_1, H⟩
  ·
   rw [if_neg c1] at H
   refine CW.cond_f rfl (decide_eq_false c1) ?_
   refine CW.exit ?_
   refine NW.exit_then (NW.exit_then (NW.exit_hit ?_))
   refine NW.next ?_
   refine CW.seq ?_
   refine CW.lex [.W, .W] rfl ?_
   refine RW.pure tabOk 2 rfl ?_
   refine RW.done ?_
   refine NW.next ?_
   refine CW.ret ?_
   obtain rfl := Option.some.inj H
   exact NW.ret1 rfl (by rfl) ⟨rfl, x0_0⟩

set_option maxHeartbeats 4000000 in
set_option maxRecDepth 100000 in
theorem hermitageref7_Take.calls (k : Nat) (A1 : Option Addr) (c_1 : Nat) (p0 : List Device) (p1 : Int) (p2 : Int) (r : (List Ptr) × (List Device) × Bool) (w : World) (hs1 : Sl kDeviceR w.heap okAll A1 p0) (hl1 : p0.length ≤ c_1) (H : hermitageref7_Take.f k p0 p1 p2 = some r) :
    Calls Tryd.prog 108 #[.slice A1 p0.length c_1, .int .i64 p1, .int .i64 p2] w fun e w' => ∃ (B1 : Option Addr) (d1 : Nat) (B2 : Option Addr) (d2 : Nat), e = .returned (.tuple #[.slice B1 r.1.length d1, .slice B2 r.2.1.length d2, .bool r.2.2]) ∧ Ext w w' ∧ Ow kPtr 70 w'.heap (okL [(w.heap.size, none, some 70)]) (okL []) B1 d1 r.1 ∧ Ow kDeviceO 84 w'.heap (okL [(w.heap.size, none, some 84)]) (okL [(w.heap.size, none, some 93)]) B2 d2 r.2.1 := by
 have h1 : Sl kDeviceR w.heap (okL [(0, some w.heap.size, none)]) A1 p0 := hs1.old _ rfl
 have x0 : Ext w w := Upd.refl _ w
 unfold hermitageref7_Take.f at H
 refine calls_start Tryd.func108 rfl 87 rfl [.slice A1 p0.length c_1, .int .i64 p1, .int .i64 p2] rfl ?_
 refine CW.seq ?_
 refine CW.lex [.W, .W, .W] rfl ?_
 refine RW.pure tabOk 3 rfl ?_
 refine RW.done ?_
 refine NW.next ?_
 refine CW.seq ?_
 refine CW.seq ?_
 refine CW.lex [.W, .W, .X, .W, .W] rfl ?_
 refine RW.pure tabOk 2 rfl ?_
 obtain ⟨y1, h2, H⟩ := bind_some H
 refine RW.callF (.inl rfl) ent111 ⟨rfl, rfl, rfl, rfl⟩ rfl rfl (hermitageref7_Count.calls k A1 c_1 p0 p2 _ _ h1.all hl1 h2) ?_
 rintro _ w1 ⟨rfl, x1⟩
 refine ⟨_, rfl, x1, ?_⟩
 have sx1 := x1.size
 refine RW.pure tabOk 2 rfl ?_
 refine RW.done ?_
 refine NW.next ?_
 by_cases c1 : y1 < p1
 ·
  rw [if_pos c1] at H
  refine CW.cond_t rfl (decide_eq_true c1) ?_
  refine CW.seq ?_
  refine CW.lex [.W, .W, .W] rfl ?_
  refine RW.pure tabOk 3 rfl ?_
  refine RW.done ?_
  refine NW.next ?_
  refine CW.ret ?_
  refine NW.ret_then ?_
  obtain rfl := Option.some.inj H
  have h3 := Ext.trans x0 x1
  exact NW.ret3 rfl (by rfl) (by rfl) (by rfl) ⟨none, 0, none, 0, rfl, h3, Ow.nil, Ow.nil⟩
 ·
  rw [if_neg c1] at H
  refine CW.cond_f rfl (decide_eq_false c1) ?_
  refine CW.skip ?_
  refine NW.next ?_
  refine CW.seq ?_
  refine CW.lex [.W, .X, .W] rfl ?_
  refine RW.pure tabOk 1 rfl ?_
  have h4 := h1.ext x1
  obtain ⟨y2, h5, H⟩ := bind_some H
  refine RW.callF (.inl rfl) ent88 ⟨rfl, rfl, rfl, rfl⟩ rfl rfl (hermitageref0_CopyDevices.calls k A1 c_1 p0 _ _ h4.all hl1 h5) ?_
  rintro _ w2 ⟨A2, c_2, rfl, x2, h6⟩
  refine ⟨_, rfl, x2, ?_⟩
  have sx2 := x2.size
  have h7 : Ow kDeviceO 84 w2.heap (okL [(w1.heap.size, some w2.heap.size, some 84)]) (okL [(w1.heap.size, some w2.heap.size, some 93)]) A2 c_2 y2 := h6.close
  refine RW.pure tabOk 1 rfl ?_
  refine RW.done ?_
  refine NW.next ?_
  refine CW.seq ?_
  refine CW.lex [.W] rfl ?_
  refine RW.pure tabOk 1 rfl ?_
  refine RW.done ?_
  refine NW.next ?_
  refine CW.seq ?_
  refine CW.seq ?_
  refine CW.lex [.W] rfl ?_
  refine RW.pure tabOk 1 rfl ?_
  refine RW.done ?_
  refine NW.next ?_
  refine CW.block ?_
  refine CW.loop (fun n1 a w3 => ∃ (lt0_0 : List Device) (lt9_0 : List Ptr) (At9_0 : Option Addr) (ct9_0 : Nat) (it10_0 : Int), Sat 87 [(0, .slice A2 lt0_0.length c_2), (1, .int .i64 p1), (2, .int .i64 p2), (9, .slice At9_0 lt9_0.length ct9_0), (10, .int .i64 it10_0)] a ∧ w2.heap.size ≤ w3.heap.size ∧ Ow kDeviceO 84 w3.heap (okL [(w1.heap.size, none, some 84)]) (okL [(w1.heap.size, none, some 93)]) A2 c_2 lt0_0 ∧ Ow kPtr 70 w3.heap (okL [(w2.heap.size, none, some 70)]) (okL []) At9_0 ct9_0 lt9_0 ∧ Ext w w3 ∧ lt0_0.length = y2.length ∧ hermitageref7_Take.l0 p1 p2 k n1 lt0_0 lt9_0 it10_0 = some r) k ?_ ?_
  have h8 := Ext.trans (Ext.trans x0 x1) x2
  · exact fun a ha => ⟨y2, ([] : List Ptr), none, 0, 0, ha.sub ⟨rfl, rfl, rfl, rfl, rfl, trivial⟩, by omega, (h7.sub ⟨(.inl ⟨by omega, trivial, rfl⟩), trivial⟩ ⟨(.inl ⟨by omega, trivial, rfl⟩), trivial⟩), Ow.nil, h8, (by (try simp only [List.length_set]) <;> omega), H⟩
  intro n1 a w3 hI hp
  obtain ⟨lt0_0, lt9_0, At9_0, ct9_0, it10_0, hS, hle, ft0_0, ft9_0, x0_0, ln_lt0_0, H⟩ := hI
  cases n1 with
  | zero => cases H
  | succ n1 =>
   rw [hermitageref7_Take.l0] at H
   refine CW.go hp hS ?_
   have h9 : Ow kDeviceO 84 w3.heap (okL [(w1.heap.size, some w3.heap.size, some 84)]) (okL [(w1.heap.size, some w3.heap.size, some 93)]) A2 c_2 lt0_0 := ft0_0.close
   have h10 : Ow kPtr 70 w3.heap (okL [(w2.heap.size, some w3.heap.size, some 70)]) (okL []) At9_0 ct9_0 lt9_0 := ft9_0.close
   refine CW.seq ?_
   refine CW.seq ?_
   refine CW.lex [.W, .W, .W] rfl ?_
   refine RW.pure tabOk 3 rfl ?_
   refine RW.done ?_
   refine NW.next ?_
   by_cases c2 : it10_0 < p1
   ·
    rw [if_pos c2] at H
    refine CW.cond_t rfl (decide_eq_true c2) ?_
    refine CW.skip ?_
    refine NW.next ?_
    refine CW.seq ?_
    refine CW.block ?_
    refine CW.seq ?_
    refine CW.lex [.W, .W] rfl ?_
    refine RW.pure tabOk 2 rfl ?_
    refine RW.done ?_
    refine NW.next ?_
    refine CW.seq ?_
    refine CW.seq ?_
    refine CW.lex [.W] rfl ?_
    refine RW.pure tabOk 1 rfl ?_
    refine RW.done ?_
    refine NW.next ?_
    refine CW.block ?_
    refine CW.loop (fun n2 a w4 => ∃ (it11_1 : Int) (it12_1 : Int) (it13_1 : Int), Sat 87 [(0, .slice A2 lt0_0.length c_2), (1, .int .i64 p1), (2, .int .i64 p2), (9, .slice At9_0 lt9_0.length ct9_0), (10, .int .i64 it10_0), (11, .int .i64 it11_1), (12, .int .i64 it12_1), (13, .int .i64 it13_1)] a ∧ w3.heap.size ≤ w4.heap.size ∧ Ow kDeviceO 84 w4.heap (okL [(w1.heap.size, some w3.heap.size, some 84)]) (okL [(w1.heap.size, some w3.heap.size, some 93)]) A2 c_2 lt0_0 ∧ Ow kPtr 70 w4.heap (okL [(w2.heap.size, some w3.heap.size, some 70)]) (okL []) At9_0 ct9_0 lt9_0 ∧ Ext w w4 ∧ hermitageref7_Take.l1 p2 k lt9_0 it10_0 lt0_0 (hermitageref7_Take.l0 p1 p2 k n1) n2 it11_1 it12_1 it13_1 = some r) k ?_ ?_
    · exact fun a ha => ⟨(-1), 0, 0, ha.sub ⟨rfl, rfl, rfl, rfl, rfl, rfl, rfl, rfl, trivial⟩, by omega, h9, h10, x0_0, H⟩
    intro n2 a w4 hI hp
    obtain ⟨it11_1, it12_1, it13_1, hS, hle, gL0_t0_1, gL0_t9_1, x0_1, H⟩ := hI
    cases n2 with
    | zero => cases H
    | succ n2 =>
     rw [hermitageref7_Take.l1] at H
     refine CW.go hp hS ?_
     refine CW.seq ?_
     refine CW.seq ?_
     refine CW.lex [.W, .W, .W, .W] rfl ?_
     refine RW.pure tabOk 4 rfl ?_
     refine RW.done ?_
     refine NW.next ?_
     by_cases c3 : it13_1 < (lt0_0.length : Int)
     ·
      rw [if_pos c3] at H
      refine CW.cond_t rfl (decide_eq_true c3) ?_
      refine CW.skip ?_
      refine NW.next ?_
      refine CW.seqJ (fun a w5 => ∃ (it11_2 : Int) (it12_2 : Int), Sat 87 [(0, .slice A2 lt0_0.length c_2), (1, .int .i64 p1), (2, .int .i64 p2), (9, .slice At9_0 lt9_0.length ct9_0), (10, .int .i64 it10_0), (11, .int .i64 it11_2), (12, .int .i64 it12_2), (13, .int .i64 it13_1)] a ∧ w4.heap.size ≤ w5.heap.size ∧ Ow kDeviceO 84 w5.heap (okL [(w1.heap.size, some w3.heap.size, some 84)]) (okL [(w1.heap.size, some w3.heap.size, some 93)]) A2 c_2 lt0_0 ∧ Ow kPtr 70 w5.heap (okL [(w2.heap.size, some w3.heap.size, some 70)]) (okL []) At9_0 ct9_0 lt9_0 ∧ Ext w w5 ∧ hermitageref7_Take.j0 it13_1 (hermitageref7_Take.l1 p2 k lt9_0 it10_0 lt0_0 (hermitageref7_Take.l0 p1 p2 k n1) n2) it11_2 it12_2 = some r) ?_ ?_
      ·
       refine CW.block ?_
       refine CW.seq ?_
       refine CW.lex [.W, .W, .W, .W, .L, .X, .W] rfl ?_
       refine RW.pure tabOk 2 rfl ?_
       obtain ⟨g1, H⟩ := guard_some H
       obtain ⟨ad1, A3, c_3, A4, c_4, e1, a1, h11, h12⟩ := kDeviceO_ato gL0_t0_1 g1.1 g1.2
       refine RW.index tabOk g1.1 g1.2 e1 ⟨rfl, rfl, rfl, rfl⟩ rfl rfl rfl rfl rfl rfl ?_
       refine RW.pure tabOk 1 rfl ?_
       refine RW.load tabOk [.slice A3 ((rd lt0_0 it13_1).Free).length c_3] ((a1.fld 2).take 1 rfl) ⟨rfl, rfl, rfl, rfl⟩ rfl rfl rfl rfl ?_
       obtain ⟨y3, h13, H⟩ := bind_some H
       refine RW.callF (.inl rfl) ent27 ⟨rfl, rfl, rfl, rfl⟩ rfl rfl (hermitageref1_Count.calls k A3 c_3 ((rd lt0_0 it13_1).Free) _ _ h11.all h11.len h13) ?_
       rintro _ w6 ⟨rfl, x3⟩
       refine ⟨_, rfl, x3, ?_⟩
       have sx3 := x3.size
       refine RW.pure tabOk 1 rfl ?_
       refine RW.done ?_
       refine NW.next ?_
       refine CW.seqJ (fun a w7 => ∃ (bt51_3 : Bool), Sat 87 [(0, .slice A2 lt0_0.length c_2), (1, .int .i64 p1), (2, .int .i64 p2), (9, .slice At9_0 lt9_0.length ct9_0), (10, .int .i64 it10_0), (11, .int .i64 it11_1), (12, .int .i64 it12_1), (13, .int .i64 it13_1), (14, .int .i64 y3), (51, .bool bt51_3)] a ∧ w6.heap.size ≤ w7.heap.size ∧ Ow kDeviceO 84 w7.heap (okL [(w1.heap.size, some w3.heap.size, some 84)]) (okL [(w1.heap.size, some w3.heap.size, some 93)]) A2 c_2 lt0_0 ∧ Ow kPtr 70 w7.heap (okL [(w2.heap.size, some w3.heap.size, some 70)]) (okL []) At9_0 ct9_0 lt9_0 ∧ Ext w w7 ∧ hermitageref7_Take.j1 it11_1 it12_1 it13_1 y3 (hermitageref7_Take.l1 p2 k lt9_0 it10_0 lt0_0 (hermitageref7_Take.l0 p1 p2 k n1) n2) bt51_3 = some r) ?_ ?_
       ·
        refine CW.lex [.W, .W, .W, .W, .L, .W, .W, .W, .W, .W, .W, .W] rfl ?_
        refine RW.pure tabOk 2 rfl ?_
        obtain ⟨g2, H⟩ := guard_some H
        have h14 := gL0_t0_1.ext x3
        obtain ⟨ad2, A5, c_5, A6, c_6, e2, a2, h15, h16⟩ := kDeviceO_ato h14 g2.1 g2.2
        refine RW.index tabOk g2.1 g2.2 e2 ⟨rfl, rfl, rfl, rfl⟩ rfl rfl rfl rfl rfl rfl ?_
        refine RW.pure tabOk 1 rfl ?_
        refine RW.load tabOk [.int .i64 ((rd lt0_0 it13_1).ID)] ((a2.fld 0).take 1 rfl) ⟨rfl, rfl, rfl, rfl⟩ rfl rfl rfl rfl ?_
        refine RW.pure tabOk 3 rfl ?_
        by_cases c4 : (rd lt0_0 it13_1).ID = p2
        ·
         rw [if_pos c4] at H
         refine RW.bool 47 (b' := false) (bne_f c4) rfl ?_
         refine RW.pure tabOk 4 rfl ?_
         refine RW.done ?_
         have h17 := gL0_t9_1.ext x3
         have h18 := Ext.trans x0_1 x3
         exact NW.J fun a ha => ⟨false, ha.sub ⟨rfl, rfl, rfl, rfl, rfl, rfl, rfl, rfl, rfl, rfl, trivial⟩, by omega, h14, h17, h18, H⟩
        ·
         rw [if_neg c4] at H
         refine RW.bool 47 (b' := true) (bne_t c4) rfl ?_
         refine RW.pure tabOk 4 rfl ?_
         refine RW.done ?_
         have h19 := gL0_t9_1.ext x3
         have h20 := Ext.trans x0_1 x3
         exact NW.J fun a ha => ⟨(decide (it12_1 < y3)), ha.sub ⟨rfl, rfl, rfl, rfl, rfl, rfl, rfl, rfl, rfl, rfl, trivial⟩, by omega, h14, h19, h20, H⟩
       intro a w7 hJ hp
       obtain ⟨bt51_3, hS, hle, gL0_t0_3, gL0_t9_3, x0_3, H⟩ := hJ
       unfold hermitageref7_Take.j1 at H
       refine CW.go hp hS ?_
       by_cases c5 : bt51_3 = true
       ·
        rw [if_pos c5] at H
        refine CW.cond_t rfl (c5) ?_
        refine CW.lex [.W, .W, .W, .W] rfl ?_
        refine RW.pure tabOk 4 rfl ?_
        refine RW.done ?_
        refine NW.norm_block ?_
        exact NW.J fun a ha => ⟨it13_1, y3, ha.sub ⟨rfl, rfl, rfl, rfl, rfl, rfl, rfl, rfl, trivial⟩, by omega, gL0_t0_3, gL0_t9_3, x0_3, H⟩
       ·
        rw [if_neg c5] at H
        refine CW.cond_f rfl (bool_f c5) ?_
        refine CW.skip ?_
        refine NW.norm_block ?_
        exact NW.J fun a ha => ⟨it11_1, it12_1, ha.sub ⟨rfl, rfl, rfl, rfl, rfl, rfl, rfl, rfl, trivial⟩, by omega, gL0_t0_3, gL0_t9_3, x0_3, H⟩
      intro a w5 hJ hp
      obtain ⟨it11_2, it12_2, hS, hle, gL0_t0_2, gL0_t9_2, x0_2, H⟩ := hJ
      unfold hermitageref7_Take.j0 at H
      refine CW.go hp hS ?_
      refine CW.lex [.W, .W, .W] rfl ?_
      refine RW.pure tabOk 3 rfl ?_
      refine RW.done ?_
      exact NW.J fun a ha => ⟨n2, Nat.lt_succ_self n2, it11_2, it12_2, (w64 (it13_1 + 1)), ha.sub ⟨rfl, rfl, rfl, rfl, rfl, rfl, rfl, rfl, trivial⟩, by omega, gL0_t0_2, gL0_t9_2, x0_2, H⟩
     ·
      rw [if_neg c3] at H
      refine CW.cond_f rfl (decide_eq_false c3) ?_
      refine CW.exit ?_
      refine NW.exit_then (NW.exit_then (NW.exit_hit ?_))
      refine NW.next ?_
      refine CW.seq ?_
      refine CW.lex [.W, .W, .W, .W, .L, .W, .W, .L, .W] rfl ?_
      refine RW.pure tabOk 2 rfl ?_
      obtain ⟨g3, H⟩ := guard_some H
      obtain ⟨ad3, A7, c_7, A8, c_8, e3, a3, h21, h22⟩ := kDeviceO_ato gL0_t0_1 g3.1 g3.2
      refine RW.index tabOk g3.1 g3.2 e3 ⟨rfl, rfl, rfl, rfl⟩ rfl rfl rfl rfl rfl rfl ?_
      refine RW.pure tabOk 1 rfl ?_
      refine RW.load tabOk [.slice A7 ((rd lt0_0 it11_1).Free).length c_7] ((a3.fld 2).take 1 rfl) ⟨rfl, rfl, rfl, rfl⟩ rfl rfl rfl rfl ?_
      obtain ⟨g4, H⟩ := guard_some H
      obtain ⟨ad4, e4, a4⟩ := kSeg_at h21.slL g4.1 g4.2
      refine RW.index tabOk g4.1 g4.2 e4 ⟨rfl, rfl, rfl, rfl⟩ rfl rfl rfl rfl rfl rfl ?_
      refine RW.pure tabOk 1 rfl ?_
      refine RW.load tabOk [.int .i64 ((rd ((rd lt0_0 it11_1).Free) 0).At)] ((a4.fld 0).take 1 rfl) ⟨rfl, rfl, rfl, rfl⟩ rfl rfl rfl rfl ?_
      refine RW.pure tabOk 1 rfl ?_
      refine RW.done ?_
      refine NW.next ?_
      refine CW.seq ?_
      refine CW.lex [.W, .W, .W, .W, .W, .L, .W, .W, .X, .M, .W] rfl ?_
      refine RW.pure tabOk 3 rfl ?_
      obtain ⟨g5, H⟩ := guard_some H
      obtain ⟨ad5, A9, c_9, A10, c_10, e5, a5, h23, h24⟩ := kDeviceO_ato gL0_t0_1 g5.1 g5.2
      refine RW.index tabOk g5.1 g5.2 e5 ⟨rfl, rfl, rfl, rfl⟩ rfl rfl rfl rfl rfl rfl ?_
      refine RW.pure tabOk 1 rfl ?_
      refine RW.load tabOk [.int .i64 ((rd lt0_0 it11_1).ID)] ((a5.fld 0).take 1 rfl) ⟨rfl, rfl, rfl, rfl⟩ rfl rfl rfl rfl ?_
      refine RW.pure tabOk 2 rfl ?_
      refine RW.buildSlice (cs := [.int .i64 ((rd lt0_0 it11_1).ID), .int .i64 ((rd ((rd lt0_0 it11_1).Free) 0).At)]) tabOk (.inl rfl) ⟨rfl, rfl, rfl, rfl⟩ rfl rfl rfl rfl rfl rfl rfl ?_
      intro b1 w8 x4 l9 h25
      have sx4 := x4.size
      have ltb1 := h25.lt
      have h26 := gL0_t9_1.ext x4
      obtain ⟨g6, H⟩ := guard_some H
      refine RW.append1L (d := kPtr) (v := (⟨(rd lt0_0 it11_1).ID, (rd ((rd lt0_0 it11_1).Free) 0).At⟩ : Ptr)) (l := [(w2.heap.size, some w3.heap.size, some 70)]) (li := []) (ly := []) (xs := lt9_0) tabOk h26 h25 (kPtr_mk (⟨(rd lt0_0 it11_1).ID, (rd ((rd lt0_0 it11_1).Free) 0).At⟩ : Ptr)) trivial (by simp only [maxLen]; omega) g6 ⟨rfl, rfl, rfl, rfl⟩ rfl rfl rfl rfl rfl rfl rfl ?_
      intro A11 c_11 w9 x5 h27
      have sx5 := x5.size
      have h28 := h27.close.sub (l' := [(w2.heap.size, some w9.heap.size, some 70)]) (li' := []) ⟨(.inl ⟨by omega, by omega, rfl⟩), ⟨(.inl ⟨by omega, by omega, rfl⟩), trivial⟩⟩ trivial
      refine RW.pure tabOk 1 rfl ?_
      refine RW.done ?_
      refine NW.next ?_
      refine CW.lex [.W, .W, .W, .W, .W, .W, .L, .W, .W, .X, .X, .W, .W, .M] rfl ?_
      refine RW.pure tabOk 4 rfl ?_
      obtain ⟨g7, H⟩ := guard_some H
      have h29 := (gL0_t0_1.ext x4).turnL x5 ⟨⟨.inl (show (84 : Nat) ≠ 70 by decide), trivial⟩, trivial⟩ ⟨⟨.inl (show (93 : Nat) ≠ 70 by decide), trivial⟩, trivial⟩
      obtain ⟨ad6, A12, c_12, A13, c_13, e6, a6, h30, h31⟩ := kDeviceO_ato h29 g7.1 g7.2
      refine RW.index tabOk g7.1 g7.2 e6 ⟨rfl, rfl, rfl, rfl⟩ rfl rfl rfl rfl rfl rfl ?_
      refine RW.pure tabOk 1 rfl ?_
      refine RW.load tabOk [.slice A12 ((rd lt0_0 it11_1).Free).length c_12] ((a6.fld 2).take 1 rfl) ⟨rfl, rfl, rfl, rfl⟩ rfl rfl rfl rfl ?_
      refine RW.pure tabOk 2 rfl ?_
      refine RW.buildSlice (cs := [.int .i64 ((rd ((rd lt0_0 it11_1).Free) 0).At), .int .i64 1]) tabOk (.inl rfl) ⟨rfl, rfl, rfl, rfl⟩ rfl rfl rfl rfl rfl rfl rfl ?_
      intro b2 w10 x6 l12 h32
      have sx6 := x6.size
      have ltb2 := h32.lt
      have h33 := h30.ext x6
      have h34 : Ow kSeg 93 w10.heap (okL [(w9.heap.size, some w10.heap.size, some 93)]) (okL []) (some ⟨b2, 0, none⟩) 1 ([(⟨(rd ((rd lt0_0 it11_1).Free) 0).At, 1⟩ : Seg)] : List Seg) := Ow.of_box h32 (.inl ⟨l12, ltb2, rfl⟩) (Nat.le_of_ble_eq_true rfl) (Ch.cons (d := kSeg) (cs := [.int .i64 ((rd ((rd lt0_0 it11_1).Free) 0).At), .int .i64 1]) (x := (⟨(rd ((rd lt0_0 it11_1).Free) 0).At, 1⟩ : Seg)) (kSeg_mk (⟨(rd ((rd lt0_0 it11_1).Free) 0).At, 1⟩ : Seg)) Ch.nil)
      obtain ⟨y4, h35, H⟩ := bind_some H
      refine RW.callF (.inl rfl) ent20 ⟨rfl, rfl, rfl, rfl⟩ rfl rfl (hermitageref1_Two.calls k A12 c_12 ((rd lt0_0 it11_1).Free) (some ⟨b2, 0, none⟩) 1 ([(⟨(rd ((rd lt0_0 it11_1).Free) 0).At, 1⟩ : Seg)] : List Seg) 1 _ _ h33.all h33.len h34.all h34.len h35) ?_
      rintro _ w11 ⟨A14, c_14, rfl, x7, h36⟩
      refine ⟨_, rfl, x7, ?_⟩
      have sx7 := x7.size
      have h37 : Ow kSeg 93 w11.heap (okL [(w10.heap.size, some w11.heap.size, some 93)]) (okL []) A14 c_14 y4 := h36.close
      obtain ⟨g8, H⟩ := guard_some H
      have h38 := (h29.ext x6).ext x7
      obtain ⟨ad7, A15, c_15, A16, c_16, e7, a7, h39, h40⟩ := kDeviceO_ato h38 g8.1 g8.2
      refine RW.index tabOk g8.1 g8.2 e7 ⟨rfl, rfl, rfl, rfl⟩ rfl rfl rfl rfl rfl rfl ?_
      refine RW.pure tabOk 1 rfl ?_
      refine RW.storeElL (y := (⟨(rd lt0_0 it11_1).ID, (rd lt0_0 it11_1).Size, y4, (rd lt0_0 it11_1).Late⟩ : Device)) (lv := [(w10.heap.size, some w11.heap.size, some 93)]) (k := 2) tabOk h38 (j := it11_1.toNat) (by have := g8; omega) default [.slice A14 y4.length c_14] (fun cs ok' hr => by obtain ⟨qa1, qc1, qa2, qc2, rfl, q1, q2⟩ := kDeviceO_open hr; exact ⟨by simp, kDeviceO_mk (⟨(rd lt0_0 it11_1).ID, (rd lt0_0 it11_1).Size, y4, (rd lt0_0 it11_1).Late⟩ : Device) (h37.mono (fun _ _ ho => Or.inr (okL_sub (l := [(w10.heap.size, some w11.heap.size, some 93)]) (l' := [(w10.heap.size, some w11.heap.size, some 93)]) ⟨(.inl ⟨by omega, by omega, rfl⟩), trivial⟩ ho)) (fun _ _ ho => Or.inr (okL_sub (l := []) (l' := [(w10.heap.size, some w11.heap.size, some 93)]) trivial ho))) (q2.mono (fun _ _ ho => Or.inl ho) (fun _ _ ho => Or.inl ho))⟩) ⟨⟨.inl (show (93 : Nat) ≠ 84 by decide), trivial⟩, trivial⟩ ⟨rfl, rfl, rfl⟩ rfl rfl e7 rfl rfl rfl rfl rfl ?_
      intro w12 x8 h41
      have sx8 := x8.size
      have h42 := h41.close.sub (l' := [(w1.heap.size, some w3.heap.size, some 84)]) (li' := [(w1.heap.size, some w11.heap.size, some 93)]) ⟨(.inl ⟨by omega, by omega, rfl⟩), trivial⟩ ⟨(.inl ⟨by omega, by omega, rfl⟩), ⟨(.inl ⟨by omega, by omega, rfl⟩), trivial⟩⟩
      refine RW.tell 0 (v' := .slice A2 (lt0_0.set it11_1.toNat (⟨(rd lt0_0 it11_1).ID, (rd lt0_0 it11_1).Size, y4, (rd lt0_0 it11_1).Late⟩ : Device)).length c_2) (by simp only [List.length_set]) rfl ?_
      refine RW.done ?_
      refine NW.norm_block (NW.next ?_)
      refine CW.lex [.W, .W, .W] rfl ?_
      refine RW.pure tabOk 3 rfl ?_
      refine RW.done ?_
      have h43 := ((h28.ext x6).ext x7).turnL x8 ⟨⟨.inl (show (70 : Nat) ≠ 84 by decide), trivial⟩, trivial⟩ trivial
      have h44 := Ext.turn (Ext.trans (Ext.trans (Ext.turn (Ext.trans x0_1 x4) x5 ⟨by omega, trivial⟩) x6) x7) x8 ⟨by omega, trivial⟩
      exact NW.J fun a ha => ⟨n1, Nat.lt_succ_self n1, (lt0_0.set it11_1.toNat (⟨(rd lt0_0 it11_1).ID, (rd lt0_0 it11_1).Size, y4, (rd lt0_0 it11_1).Late⟩ : Device)), (lt9_0 ++ [(⟨(rd lt0_0 it11_1).ID, (rd ((rd lt0_0 it11_1).Free) 0).At⟩ : Ptr)]), A11, c_11, (w64 (it10_0 + 1)), ha.sub ⟨rfl, rfl, rfl, rfl, rfl, trivial⟩, by omega, (h42.sub ⟨(.inl ⟨by omega, trivial, rfl⟩), trivial⟩ ⟨(.inl ⟨by omega, trivial, rfl⟩), trivial⟩), (h43.sub ⟨(.inl ⟨by omega, trivial, rfl⟩), trivial⟩ trivial), h44, (by (try simp only [List.length_set]) <;> omega), H⟩
   ·
    rw [if_neg c2] at H
    refine CW.cond_f rfl (decide_eq_false c2) ?_
    refine CW.exit ?_
    refine NW.exit_then (NW.exit_then (NW.exit_hit ?_))
    refine NW.next ?_
    refine CW.seq ?_
    refine CW.lex [.W, .W, .W, .W, .W] rfl ?_
    refine RW.pure tabOk 5 rfl ?_
    refine RW.done ?_
    refine NW.next ?_
    refine CW.ret ?_
    obtain rfl := Option.some.inj H
    exact NW.ret3 rfl (by rfl) (by rfl) (by rfl) ⟨At9_0, ct9_0, A2, c_2, rfl, x0_0, (h10.sub (l' := [(w.heap.size, none, some 70)]) (li' := []) ⟨(.inl ⟨by omega, trivial, rfl⟩), trivial⟩ trivial), (h9.sub (l' := [(w.heap.size, none, some 84)]) (li' := [(w.heap.size, none, some 93)]) ⟨(.inl ⟨by omega, trivial, rfl⟩), trivial⟩ ⟨(.inl ⟨by omega, trivial, rfl⟩), trivial⟩)⟩

set_option maxHeartbeats 4000000 in
set_option maxRecDepth 100000 in
theorem hermitageref1_Has.calls (k : Nat) (A1 : Option Addr) (c_1 : Nat) (p0 : List Seg) (p1 : Int) (r : Bool) (w : World) (hs1 : Sl kSeg w.heap okAll A1 p0) (hl1 : p0.length ≤ c_1) (H : hermitageref1_Has.f k p0 p1 = some r) :
    Calls Tryd.prog 34 #[.slice A1 p0.length c_1, .int .i64 p1] w fun e w' => e = .returned (.bool r) ∧ Ext w w' := by
 have h1 : Sl kSeg w.heap (okL [(0, some w.heap.size, none)]) A1 p0 := hs1.old _ rfl
 have x0 : Ext w w := Upd.refl _ w
 unfold hermitageref1_Has.f at H
 refine calls_start Tryd.func34 rfl 15 rfl [.slice A1 p0.length c_1, .int .i64 p1] rfl ?_
 refine CW.seq ?_
 refine CW.lex [.W] rfl ?_
 refine RW.pure tabOk 1 rfl ?_
 refine RW.done ?_
 refine NW.next ?_
 refine CW.seq ?_
 refine CW.lex [.W, .X, .X, .M] rfl ?_
 refine RW.pure tabOk 1 rfl ?_
 obtain ⟨y1, h2, H⟩ := bind_some H
 refine RW.callF (.inl rfl) ent57 ⟨rfl, rfl, rfl, rfl⟩ rfl rfl (hermitageref1_Set.calls k A1 c_1 p0 _ _ h1.all hl1 h2) ?_
 rintro _ w1 ⟨rfl, x1⟩
 refine ⟨_, rfl, x1, ?_⟩
 have sx1 := x1.size
 refine RW.alloc tabOk (.inl rfl) ⟨rfl, rfl, rfl, rfl⟩ rfl rfl ?_
 intro b1 w2 x2 l1 h3
 have sx2 := x2.size
 have ltb1 := h3.lt
 refine RW.storeBox tabOk h3 (arrB 64 y1) ⟨rfl, rfl, rfl⟩ rfl rfl rfl rfl rfl arrF_len (arrF_all fun _ => rfl) (arrF_fitAll arrF_len) ?_
 intro w3 x3 h4
 have h5 : Box w3.heap b1 54 (arrB 64 y1) := by rw [lay_arrFull] at h4; exact h4
 have sx3 := x3.size
 refine RW.done ?_
 refine NW.next ?_
 refine CW.seq ?_
 refine CW.lex [.W, .X, .W, .W, .W, .L, .W, .W] rfl ?_
 refine RW.pure tabOk 1 rfl ?_
 obtain ⟨y2, h6, H⟩ := bind_some H
 refine RW.callF (.inl rfl) ent31 ⟨rfl, rfl, rfl, rfl⟩ rfl rfl (hermitageref0_Num.calls p1 63 _ _ h6) ?_
 rintro _ w4 ⟨rfl, x4⟩
 refine ⟨_, rfl, x4, ?_⟩
 have sx4 := x4.size
 refine RW.pure tabOk 1 rfl ?_
 by_cases c1 : y2 = true
 ·
  rw [if_pos c1] at H
  refine RW.bool 10 (b' := true) (c1) rfl ?_
  refine RW.pure tabOk 1 rfl ?_
  obtain ⟨g1, H⟩ := guard_some H
  refine RW.indexBox tabOk g1.1 g1.2 ⟨rfl, rfl, rfl, rfl⟩ rfl rfl rfl rfl rfl rfl rfl ?_
  have h7 := h5.ext x4
  refine RW.load tabOk [.bool (y1 p1.toNat)] (h7.elF (by have := g1; omega)) ⟨rfl, rfl, rfl, rfl⟩ rfl rfl rfl rfl ?_
  refine RW.pure tabOk 2 rfl ?_
  refine RW.done ?_
  refine NW.next ?_
  refine CW.ret ?_
  obtain rfl := Option.some.inj H
  have h8 := Ext.trans (Ext.turnB (Ext.trans (Ext.trans x0 x1) x2) x3 (by omega)) x4
  exact NW.ret1 rfl (by rfl) ⟨rfl, h8⟩
 ·
  rw [if_neg c1] at H
  refine RW.bool 10 (b' := false) (bool_f c1) rfl ?_
  refine RW.pure tabOk 5 rfl ?_
  refine RW.done ?_
  refine NW.next ?_
  refine CW.ret ?_
  obtain rfl := Option.some.inj H
  have h9 := Ext.trans (Ext.turnB (Ext.trans (Ext.trans x0 x1) x2) x3 (by omega)) x4
  exact NW.ret1 rfl (by rfl) ⟨rfl, h9⟩

set_option maxHeartbeats 4000000 in
set_option maxRecDepth 100000 in
theorem hermitageref7_At.calls (k : Nat) (A1 : Option Addr) (c_1 : Nat) (p0 : List Device) (p1 : Int) (r : Int) (w : World) (hs1 : Sl kDeviceR w.heap okAll A1 p0) (hl1 : p0.length ≤ c_1) (H : hermitageref7_At.f k p0 p1 = some r) :
    Calls Tryd.prog 113 #[.slice A1 p0.length c_1, .int .i64 p1] w fun e w' => e = .returned (.int .i64 r) ∧ Ext w w' := by
 have h1 : Sl kDeviceR w.heap (okL [(0, some w.heap.size, none)]) A1 p0 := hs1.old _ rfl
 have x0 : Ext w w := Upd.refl _ w
 unfold hermitageref7_At.f at H
 refine calls_start Tryd.func113 rfl 20 rfl [.slice A1 p0.length c_1, .int .i64 p1] rfl ?_
 refine CW.seq ?_
 refine CW.lex [.W] rfl ?_
 refine RW.pure tabOk 1 rfl ?_
 refine RW.done ?_
 refine NW.next ?_
 refine CW.seq ?_
 refine CW.seq ?_
 refine CW.lex [.W] rfl ?_
 refine RW.pure tabOk 1 rfl ?_
 refine RW.done ?_
 refine NW.next ?_
 refine CW.block ?_
 refine CW.loop (fun n1 a w1 => ∃ (it5_0 : Int), Sat 20 [(0, .slice A1 p0.length c_1), (1, .int .i64 p1), (5, .int .i64 it5_0)] a ∧ w.heap.size ≤ w1.heap.size ∧ Sl kDeviceR w1.heap (okL [(0, some w.heap.size, none)]) A1 p0 ∧ Ext w w1 ∧ hermitageref7_At.l0 p0 p1 n1 it5_0 = some r) k ?_ ?_
 · exact fun a ha => ⟨0, ha.sub ⟨rfl, rfl, rfl, trivial⟩, by omega, h1, x0, H⟩
 intro n1 a w1 hI hp
 obtain ⟨it5_0, hS, hle, gF1_0, x0_0, H⟩ := hI
 cases n1 with
 | zero => cases H
 | succ n1 =>
  rw [hermitageref7_At.l0] at H
  refine CW.go hp hS ?_
  refine CW.seq ?_
  refine CW.seq ?_
  refine CW.lex [.W, .W, .W, .W] rfl ?_
  refine RW.pure tabOk 4 rfl ?_
  refine RW.done ?_
  refine NW.next ?_
  by_cases c1 : it5_0 < (p0.length : Int)
  ·
   rw [if_pos c1] at H
   refine CW.cond_t rfl (decide_eq_true c1) ?_
   refine CW.skip ?_
   refine NW.next ?_
   refine CW.seq ?_
   refine CW.block ?_
   refine CW.seq ?_
   refine CW.lex [.W, .W, .W, .W, .L, .W, .W] rfl ?_
   refine RW.pure tabOk 2 rfl ?_
   obtain ⟨g1, H⟩ := guard_some H
   obtain ⟨ad1, A2, c_2, A3, c_3, e1, a1, l1, h2, l2, h3⟩ := kDeviceR_at gF1_0 g1.1 g1.2
   refine RW.index tabOk g1.1 g1.2 e1 ⟨rfl, rfl, rfl, rfl⟩ rfl rfl rfl rfl rfl rfl ?_
   refine RW.pure tabOk 1 rfl ?_
   refine RW.load tabOk [.int .i64 ((rd p0 it5_0).ID)] ((a1.fld 0).take 1 rfl) ⟨rfl, rfl, rfl, rfl⟩ rfl rfl rfl rfl ?_
   refine RW.pure tabOk 2 rfl ?_
   refine RW.done ?_
   refine NW.next ?_
   by_cases c2 : (rd p0 it5_0).ID = p1
   ·
    rw [if_pos c2] at H
    refine CW.cond_t rfl (beq_t c2) ?_
    refine CW.seq ?_
    refine CW.lex [.W, .W] rfl ?_
    refine RW.pure tabOk 2 rfl ?_
    refine RW.done ?_
    refine NW.next ?_
    refine CW.ret ?_
    refine NW.ret_block (NW.ret_then (NW.ret_then (NW.ret_block (NW.ret_then ?_))))
    obtain rfl := Option.some.inj H
    exact NW.ret1 rfl (by rfl) ⟨rfl, x0_0⟩
   ·
    rw [if_neg c2] at H
    refine CW.cond_f rfl (beq_f c2) ?_
    refine CW.skip ?_
    refine NW.norm_block (NW.next ?_)
    refine CW.lex [.W, .W, .W] rfl ?_
    refine RW.pure tabOk 3 rfl ?_
    refine RW.done ?_
    exact NW.J fun a ha => ⟨n1, Nat.lt_succ_self n1, (w64 (it5_0 + 1)), ha.sub ⟨rfl, rfl, rfl, trivial⟩, by omega, gF1_0, x0_0, H⟩
  ·
   rw [if_neg c1] at H
   refine CW.cond_f rfl (decide_eq_false c1) ?_
   refine CW.exit ?_
   refine NW.exit_then (NW.exit_then (NW.exit_hit ?_))
   refine NW.next ?_
   refine CW.seq ?_
   refine CW.lex [.W] rfl ?_
   refine RW.pure tabOk 1 rfl ?_
   refine RW.done ?_
   refine NW.next ?_
   refine CW.ret ?_
   obtain rfl := Option.some.inj H
   exact NW.ret1 rfl (by rfl) ⟨rfl, x0_0⟩

set_option maxHeartbeats 4000000 in
set_option maxRecDepth 100000 in
theorem hermitageref7_Give.calls (k : Nat) (A1 : Option Addr) (c_1 : Nat) (p0 : List Device) (A2 : Option Addr) (c_2 : Nat) (p1 : List Ptr) (r : (List Device) × Int) (w : World) (hs1 : Sl kDeviceR w.heap okAll A1 p0) (hl1 : p0.length ≤ c_1) (hs2 : Sl kPtr w.heap okAll A2 p1) (hl2 : p1.length ≤ c_2) (H : hermitageref7_Give.f k p0 p1 = some r) :
    Calls Tryd.prog 109 #[.slice A1 p0.length c_1, .slice A2 p1.length c_2] w fun e w' => ∃ (B1 : Option Addr) (d1 : Nat), e = .returned (.tuple #[.slice B1 r.1.length d1, .int .i64 r.2]) ∧ Ext w w' ∧ Ow kDeviceO 84 w'.heap (okL [(w.heap.size, none, some 84)]) (okL [(w.heap.size, none, some 93)]) B1 d1 r.1 := by
 have h1 : Sl kDeviceR w.heap (okL [(0, some w.heap.size, none)]) A1 p0 := hs1.old _ rfl
 have h2 : Sl kPtr w.heap (okL [(0, some w.heap.size, none)]) A2 p1 := hs2.old _ rfl
 have x0 : Ext w w := Upd.refl _ w
 unfold hermitageref7_Give.f at H
 refine calls_start Tryd.func109 rfl 80 rfl [.slice A1 p0.length c_1, .slice A2 p1.length c_2] rfl ?_
 refine CW.seq ?_
 refine CW.lex [.W, .W] rfl ?_
 refine RW.pure tabOk 2 rfl ?_
 refine RW.done ?_
 refine NW.next ?_
 refine CW.seq ?_
 refine CW.lex [.W, .X, .W] rfl ?_
 refine RW.pure tabOk 1 rfl ?_
 obtain ⟨y1, h3, H⟩ := bind_some H
 refine RW.callF (.inl rfl) ent88 ⟨rfl, rfl, rfl, rfl⟩ rfl rfl (hermitageref0_CopyDevices.calls k A1 c_1 p0 _ _ h1.all hl1 h3) ?_
 rintro _ w1 ⟨A3, c_3, rfl, x1, h4⟩
 refine ⟨_, rfl, x1, ?_⟩
 have sx1 := x1.size
 have h5 : Ow kDeviceO 84 w1.heap (okL [(w.heap.size, some w1.heap.size, some 84)]) (okL [(w.heap.size, some w1.heap.size, some 93)]) A3 c_3 y1 := h4.close
 refine RW.pure tabOk 1 rfl ?_
 refine RW.done ?_
 refine NW.next ?_
 refine CW.seq ?_
 refine CW.seq ?_
 refine CW.lex [.W] rfl ?_
 refine RW.pure tabOk 1 rfl ?_
 refine RW.done ?_
 refine NW.next ?_
 refine CW.block ?_
 refine CW.loop (fun n1 a w2 => ∃ (lt0_0 : List Device) (it6_0 : Int), Sat 80 [(0, .slice A3 lt0_0.length c_3), (1, .slice A2 p1.length c_2), (6, .int .i64 it6_0)] a ∧ w1.heap.size ≤ w2.heap.size ∧ Ow kDeviceO 84 w2.heap (okL [(w.heap.size, none, some 84)]) (okL [(w.heap.size, none, some 93)]) A3 c_3 lt0_0 ∧ Sl kPtr w2.heap (okL [(0, some w.heap.size, none)]) A2 p1 ∧ Ext w w2 ∧ lt0_0.length = y1.length ∧ hermitageref7_Give.l0 p1 k n1 lt0_0 it6_0 = some r) k ?_ ?_
 have h6 := h2.ext x1
 have h7 := Ext.trans x0 x1
 · exact fun a ha => ⟨y1, 0, ha.sub ⟨rfl, rfl, rfl, trivial⟩, by omega, (h5.sub ⟨(.inl ⟨by omega, trivial, rfl⟩), trivial⟩ ⟨(.inl ⟨by omega, trivial, rfl⟩), trivial⟩), h6, h7, (by (try simp only [List.length_set]) <;> omega), H⟩
 intro n1 a w2 hI hp
 obtain ⟨lt0_0, it6_0, hS, hle, ft0_0, gF2_0, x0_0, ln_lt0_0, H⟩ := hI
 cases n1 with
 | zero => cases H
 | succ n1 =>
  rw [hermitageref7_Give.l0] at H
  refine CW.go hp hS ?_
  have h8 : Ow kDeviceO 84 w2.heap (okL [(w.heap.size, some w2.heap.size, some 84)]) (okL [(w.heap.size, some w2.heap.size, some 93)]) A3 c_3 lt0_0 := ft0_0.close
  refine CW.seq ?_
  refine CW.seq ?_
  refine CW.lex [.W, .W, .W, .W] rfl ?_
  refine RW.pure tabOk 4 rfl ?_
  refine RW.done ?_
  refine NW.next ?_
  by_cases c1 : it6_0 < (p1.length : Int)
  ·
   rw [if_pos c1] at H
   refine CW.cond_t rfl (decide_eq_true c1) ?_
   refine CW.skip ?_
   refine NW.next ?_
   refine CW.seq ?_
   refine CW.block ?_
   refine CW.seq ?_
   refine CW.lex [.W, .W, .W, .W, .W, .L, .X, .W] rfl ?_
   refine RW.pure tabOk 3 rfl ?_
   obtain ⟨g1, H⟩ := guard_some H
   obtain ⟨ad1, e1, a1⟩ := kPtr_at gF2_0 g1.1 g1.2
   refine RW.index tabOk g1.1 g1.2 e1 ⟨rfl, rfl, rfl, rfl⟩ rfl rfl rfl rfl rfl rfl ?_
   refine RW.pure tabOk 1 rfl ?_
   refine RW.load tabOk [.int .i64 ((rd p1 it6_0).Dev)] ((a1.fld 0).take 1 rfl) ⟨rfl, rfl, rfl, rfl⟩ rfl rfl rfl rfl ?_
   obtain ⟨y2, h9, H⟩ := bind_some H
   refine RW.callF (.inl rfl) ent113 ⟨rfl, rfl, rfl, rfl⟩ rfl rfl (hermitageref7_At.calls k A3 c_3 lt0_0 ((rd p1 it6_0).Dev) _ _ (h8.all.to kDevice_ro rfl) h8.len h9) ?_
   rintro _ w3 ⟨rfl, x2⟩
   refine ⟨_, rfl, x2, ?_⟩
   have sx2 := x2.size
   refine RW.pure tabOk 1 rfl ?_
   refine RW.done ?_
   refine NW.next ?_
   refine CW.seq ?_
   refine CW.seq ?_
   refine CW.lex [.W, .W] rfl ?_
   refine RW.pure tabOk 2 rfl ?_
   refine RW.done ?_
   refine NW.next ?_
   by_cases c2 : y2 < 0
   ·
    rw [if_pos c2] at H
    refine CW.cond_t rfl (decide_eq_true c2) ?_
    refine CW.seq ?_
    refine CW.lex [.W, .W] rfl ?_
    refine RW.pure tabOk 2 rfl ?_
    refine RW.done ?_
    refine NW.next ?_
    refine CW.ret ?_
    refine NW.ret_then (NW.ret_block (NW.ret_then (NW.ret_then (NW.ret_block (NW.ret_then ?_)))))
    obtain rfl := Option.some.inj H
    have h10 := Ext.trans x0_0 x2
    exact NW.ret2 rfl (by rfl) (by rfl) ⟨none, 0, rfl, h10, Ow.nil⟩
   ·
    rw [if_neg c2] at H
    refine CW.cond_f rfl (decide_eq_false c2) ?_
    refine CW.skip ?_
    refine NW.next ?_
    refine CW.seq ?_
    refine CW.seq ?_
    refine CW.ord [0, 0, 3, 7, 15, 0, 0, 96, 224, 480, 992, 2047, 4095] (ofL [(0, .W), (1, .W), (2, .W), (3, .W), (5, .W), (6, .W), (7, .W), (8, .W), (4, .L), (9, .L), (10, .W), (11, .X), (12, .W)] .nil) mixed (by kernel_rfl) ?_
    intro w4 x3
    have sx3 := x3.size
    refine RW.pure tabOk 2 rfl ?_
    obtain ⟨g2, H⟩ := guard_some H
    have h11 := (gF2_0.ext x2).ext x3
    obtain ⟨ad2, e2, a2⟩ := kPtr_at h11 g2.1 g2.2
    refine RW.index tabOk g2.1 g2.2 e2 ⟨rfl, rfl, rfl, rfl⟩ rfl rfl rfl rfl rfl rfl ?_
    refine RW.pure tabOk 3 rfl ?_
    obtain ⟨g3, H⟩ := guard_some H
    have h12 := (h8.ext x2).ext x3
    obtain ⟨ad3, A4, c_4, A5, c_5, e3, a3, h13, h14⟩ := kDeviceO_ato h12 g3.1 g3.2
    refine RW.index tabOk g3.1 g3.2 e3 ⟨rfl, rfl, rfl, rfl⟩ rfl rfl rfl rfl rfl rfl ?_
    refine RW.pure tabOk 1 rfl ?_
    refine RW.load tabOk [.int .i64 ((rd p1 it6_0).At)] (a2.fld 1) ⟨rfl, rfl, rfl, rfl⟩ rfl rfl rfl rfl ?_
    refine RW.load tabOk [.int .i64 ((rd lt0_0 y2).Size)] ((a3.fld 1).take 1 rfl) ⟨rfl, rfl, rfl, rfl⟩ rfl rfl rfl rfl ?_
    refine RW.pure tabOk 1 rfl ?_
    obtain ⟨y3, h15, H⟩ := bind_some H
    refine RW.callF (.inl rfl) ent31 ⟨rfl, rfl, rfl, rfl⟩ rfl rfl (hermitageref0_Num.calls ((rd p1 it6_0).At) (w64 (((rd lt0_0 y2).Size) - 1)) _ _ h15) ?_
    rintro _ w5 ⟨rfl, x4⟩
    refine ⟨_, rfl, x4, ?_⟩
    have sx4 := x4.size
    refine RW.pure tabOk 1 rfl ?_
    refine RW.done ?_
    refine NW.next ?_
    by_cases c3 : y3 = true
    ·
     rw [if_pos c3] at H
     refine CW.cond_f rfl (not_f (c3)) ?_
     refine CW.skip ?_
     refine NW.next ?_
     refine CW.seq ?_
     refine CW.seqJ (fun a w6 => ∃ (bt61_1 : Bool), Sat 80 [(0, .slice A3 lt0_0.length c_3), (1, .slice A2 p1.length c_2), (6, .int .i64 it6_0), (7, .int .i64 y2), (61, .bool bt61_1)] a ∧ w5.heap.size ≤ w6.heap.size ∧ Ow kDeviceO 84 w6.heap (okL [(w.heap.size, some w2.heap.size, some 84)]) (okL [(w.heap.size, some w2.heap.size, some 93)]) A3 c_3 lt0_0 ∧ Sl kPtr w6.heap (okL [(0, some w.heap.size, none)]) A2 p1 ∧ Ext w w6 ∧ hermitageref7_Give.j0 p1 k it6_0 lt0_0 y2 (hermitageref7_Give.l0 p1 k n1) bt61_1 = some r) ?_ ?_
     ·
      refine CW.ord [0, 0, 3, 7, 15, 0, 0, 96, 224, 480, 1023, 2047, 4095, 4095, 16383, 32767, 65535, 4095, 4095, 397311, 921599, 1970175, 4194303, 8388607] (ofL [(0, .W), (1, .W), (2, .W), (3, .W), (5, .W), (6, .W), (7, .W), (8, .W), (4, .L), (9, .L), (10, .X), (11, .W), (12, .W), (13, .W), (14, .W), (15, .W), (17, .W), (18, .W), (19, .W), (20, .W), (16, .L), (21, .L), (22, .X), (23, .W)] .nil) mixed (by kernel_rfl) ?_
      intro w7 x5
      have sx5 := x5.size
      refine RW.pure tabOk 2 rfl ?_
      obtain ⟨g4, H⟩ := guard_some H
      have h16 := (h12.ext x4).ext x5
      obtain ⟨ad4, A6, c_6, A7, c_7, e4, a4, h17, h18⟩ := kDeviceO_ato h16 g4.1 g4.2
      refine RW.index tabOk g4.1 g4.2 e4 ⟨rfl, rfl, rfl, rfl⟩ rfl rfl rfl rfl rfl rfl ?_
      refine RW.pure tabOk 3 rfl ?_
      obtain ⟨g5, H⟩ := guard_some H
      have h19 := (h11.ext x4).ext x5
      obtain ⟨ad5, e5, a5⟩ := kPtr_at h19 g5.1 g5.2
      refine RW.index tabOk g5.1 g5.2 e5 ⟨rfl, rfl, rfl, rfl⟩ rfl rfl rfl rfl rfl rfl ?_
      refine RW.pure tabOk 1 rfl ?_
      refine RW.load tabOk [.slice A6 ((rd lt0_0 y2).Free).length c_6] ((a4.fld 2).take 1 rfl) ⟨rfl, rfl, rfl, rfl⟩ rfl rfl rfl rfl ?_
      refine RW.load tabOk [.int .i64 ((rd p1 it6_0).At)] (a5.fld 1) ⟨rfl, rfl, rfl, rfl⟩ rfl rfl rfl rfl ?_
      obtain ⟨y4, h20, H⟩ := bind_some H
      refine RW.callF (.inl rfl) ent34 ⟨rfl, rfl, rfl, rfl⟩ rfl rfl (hermitageref1_Has.calls k A6 c_6 ((rd lt0_0 y2).Free) ((rd p1 it6_0).At) _ _ h17.all h17.len h20) ?_
      rintro _ w8 ⟨rfl, x6⟩
      refine ⟨_, rfl, x6, ?_⟩
      have sx6 := x6.size
      refine RW.pure tabOk 1 rfl ?_
      by_cases c4 : y4 = true
      ·
       rw [if_pos c4] at H
       refine RW.bool 49 (b' := true) (c4) rfl ?_
       refine RW.pure tabOk 12 rfl ?_
       refine RW.done ?_
       have h21 := h16.ext x6
       have h22 := h19.ext x6
       have h23 := Ext.trans (Ext.trans (Ext.trans (Ext.trans (Ext.trans x0_0 x2) x3) x4) x5) x6
       exact NW.J fun a ha => ⟨true, ha.sub ⟨rfl, rfl, rfl, rfl, rfl, trivial⟩, by omega, h21, h22, h23, H⟩
      ·
       rw [if_neg c4] at H
       refine RW.bool 49 (b' := false) (bool_f c4) rfl ?_
       refine RW.pure tabOk 2 rfl ?_
       obtain ⟨g6, H⟩ := guard_some H
       have h24 := h16.ext x6
       obtain ⟨ad6, A8, c_8, A9, c_9, e6, a6, h25, h26⟩ := kDeviceO_ato h24 g6.1 g6.2
       refine RW.index tabOk g6.1 g6.2 e6 ⟨rfl, rfl, rfl, rfl⟩ rfl rfl rfl rfl rfl rfl ?_
       refine RW.pure tabOk 3 rfl ?_
       obtain ⟨g7, H⟩ := guard_some H
       have h27 := h19.ext x6
       obtain ⟨ad7, e7, a7⟩ := kPtr_at h27 g7.1 g7.2
       refine RW.index tabOk g7.1 g7.2 e7 ⟨rfl, rfl, rfl, rfl⟩ rfl rfl rfl rfl rfl rfl ?_
       refine RW.pure tabOk 1 rfl ?_
       refine RW.load tabOk [.slice A9 ((rd lt0_0 y2).Late).length c_9] (a6.fld 3) ⟨rfl, rfl, rfl, rfl⟩ rfl rfl rfl rfl ?_
       refine RW.load tabOk [.int .i64 ((rd p1 it6_0).At)] (a7.fld 1) ⟨rfl, rfl, rfl, rfl⟩ rfl rfl rfl rfl ?_
       obtain ⟨y5, h28, H⟩ := bind_some H
       refine RW.callF (.inl rfl) ent34 ⟨rfl, rfl, rfl, rfl⟩ rfl rfl (hermitageref1_Has.calls k A9 c_9 ((rd lt0_0 y2).Late) ((rd p1 it6_0).At) _ _ h26.all h26.len h28) ?_
       rintro _ w9 ⟨rfl, x7⟩
       refine ⟨_, rfl, x7, ?_⟩
       have sx7 := x7.size
       refine RW.pure tabOk 1 rfl ?_
       refine RW.done ?_
       have h29 := h24.ext x7
       have h30 := h27.ext x7
       have h31 := Ext.trans (Ext.trans (Ext.trans (Ext.trans (Ext.trans (Ext.trans x0_0 x2) x3) x4) x5) x6) x7
       exact NW.J fun a ha => ⟨y5, ha.sub ⟨rfl, rfl, rfl, rfl, rfl, trivial⟩, by omega, h29, h30, h31, H⟩
     intro a w6 hJ hp
     obtain ⟨bt61_1, hS, hle, gL0_t0_1, gF2_1, x0_1, H⟩ := hJ
     unfold hermitageref7_Give.j0 at H
     refine CW.go hp hS ?_
     by_cases c5 : bt61_1 = true
     ·
      rw [if_pos c5] at H
      refine CW.cond_t rfl (c5) ?_
      refine CW.seq ?_
      refine CW.lex [.W, .W] rfl ?_
      refine RW.pure tabOk 2 rfl ?_
      refine RW.done ?_
      refine NW.next ?_
      refine CW.ret ?_
      refine NW.ret_then (NW.ret_block (NW.ret_then (NW.ret_then (NW.ret_block (NW.ret_then ?_)))))
      obtain rfl := Option.some.inj H
      exact NW.ret2 rfl (by rfl) (by rfl) ⟨none, 0, rfl, x0_1, Ow.nil⟩
     ·
      rw [if_neg c5] at H
      refine CW.cond_f rfl (bool_f c5) ?_
      refine CW.skip ?_
      refine NW.next ?_
      refine CW.ord [0, 0, 0, 0, 12, 28, 60, 0, 0, 384, 896, 1920, 3968, 8064, 16380, 32767, 65535, 131071] (ofL [(0, .W), (1, .W), (2, .W), (3, .W), (4, .W), (5, .W), (7, .W), (8, .W), (9, .W), (10, .W), (6, .L), (11, .L), (12, .W), (13, .X), (14, .X), (15, .W), (16, .W), (17, .M)] .nil) mixed (by kernel_rfl) ?_
      intro w10 x8
      have sx8 := x8.size
      refine RW.pure tabOk 4 rfl ?_
      obtain ⟨g8, H⟩ := guard_some H
      have h32 := gL0_t0_1.ext x8
      obtain ⟨ad8, A10, c_10, A11, c_11, e8, a8, h33, h34⟩ := kDeviceO_ato h32 g8.1 g8.2
      refine RW.index tabOk g8.1 g8.2 e8 ⟨rfl, rfl, rfl, rfl⟩ rfl rfl rfl rfl rfl rfl ?_
      refine RW.pure tabOk 3 rfl ?_
      obtain ⟨g9, H⟩ := guard_some H
      have h35 := gF2_1.ext x8
      obtain ⟨ad9, e9, a9⟩ := kPtr_at h35 g9.1 g9.2
      refine RW.index tabOk g9.1 g9.2 e9 ⟨rfl, rfl, rfl, rfl⟩ rfl rfl rfl rfl rfl rfl ?_
      refine RW.pure tabOk 1 rfl ?_
      refine RW.load tabOk [.slice A11 ((rd lt0_0 y2).Late).length c_11] (a8.fld 3) ⟨rfl, rfl, rfl, rfl⟩ rfl rfl rfl rfl ?_
      refine RW.load tabOk [.int .i64 ((rd p1 it6_0).At)] (a9.fld 1) ⟨rfl, rfl, rfl, rfl⟩ rfl rfl rfl rfl ?_
      refine RW.pure tabOk 1 rfl ?_
      refine RW.buildSlice (cs := [.int .i64 ((rd p1 it6_0).At), .int .i64 1]) tabOk (.inl rfl) ⟨rfl, rfl, rfl, rfl⟩ rfl rfl rfl rfl rfl rfl rfl ?_
      intro b1 w11 x9 l9 h36
      have sx9 := x9.size
      have ltb1 := h36.lt
      have h37 := h34.ext x9
      have h38 : Ow kSeg 93 w11.heap (okL [(w10.heap.size, some w11.heap.size, some 93)]) (okL []) (some ⟨b1, 0, none⟩) 1 ([(⟨(rd p1 it6_0).At, 1⟩ : Seg)] : List Seg) := Ow.of_box h36 (.inl ⟨l9, ltb1, rfl⟩) (Nat.le_of_ble_eq_true rfl) (Ch.cons (d := kSeg) (cs := [.int .i64 ((rd p1 it6_0).At), .int .i64 1]) (x := (⟨(rd p1 it6_0).At, 1⟩ : Seg)) (kSeg_mk (⟨(rd p1 it6_0).At, 1⟩ : Seg)) Ch.nil)
      obtain ⟨y6, h39, H⟩ := bind_some H
      refine RW.callF (.inl rfl) ent20 ⟨rfl, rfl, rfl, rfl⟩ rfl rfl (hermitageref1_Two.calls k A11 c_11 ((rd lt0_0 y2).Late) (some ⟨b1, 0, none⟩) 1 ([(⟨(rd p1 it6_0).At, 1⟩ : Seg)] : List Seg) 0 _ _ h37.all h37.len h38.all h38.len h39) ?_
      rintro _ w12 ⟨A12, c_12, rfl, x10, h40⟩
      refine ⟨_, rfl, x10, ?_⟩
      have sx10 := x10.size
      have h41 : Ow kSeg 93 w12.heap (okL [(w11.heap.size, some w12.heap.size, some 93)]) (okL []) A12 c_12 y6 := h40.close
      obtain ⟨g10, H⟩ := guard_some H
      have h42 := (h32.ext x9).ext x10
      obtain ⟨ad10, A13, c_13, A14, c_14, e10, a10, h43, h44⟩ := kDeviceO_ato h42 g10.1 g10.2
      refine RW.index tabOk g10.1 g10.2 e10 ⟨rfl, rfl, rfl, rfl⟩ rfl rfl rfl rfl rfl rfl ?_
      refine RW.pure tabOk 1 rfl ?_
      refine RW.storeElL (y := (⟨(rd lt0_0 y2).ID, (rd lt0_0 y2).Size, (rd lt0_0 y2).Free, y6⟩ : Device)) (lv := [(w11.heap.size, some w12.heap.size, some 93)]) (k := 3) tabOk h42 (j := y2.toNat) (by have := g10; omega) default [.slice A12 y6.length c_12] (fun cs ok' hr => by obtain ⟨qa1, qc1, qa2, qc2, rfl, q1, q2⟩ := kDeviceO_open hr; exact ⟨by simp, kDeviceO_mk (⟨(rd lt0_0 y2).ID, (rd lt0_0 y2).Size, (rd lt0_0 y2).Free, y6⟩ : Device) (q1.mono (fun _ _ ho => Or.inl ho) (fun _ _ ho => Or.inl ho)) (h41.mono (fun _ _ ho => Or.inr (okL_sub (l := [(w11.heap.size, some w12.heap.size, some 93)]) (l' := [(w11.heap.size, some w12.heap.size, some 93)]) ⟨(.inl ⟨by omega, by omega, rfl⟩), trivial⟩ ho)) (fun _ _ ho => Or.inr (okL_sub (l := []) (l' := [(w11.heap.size, some w12.heap.size, some 93)]) trivial ho)))⟩) ⟨⟨.inl (show (93 : Nat) ≠ 84 by decide), trivial⟩, trivial⟩ ⟨rfl, rfl, rfl⟩ rfl rfl e10 rfl rfl rfl rfl rfl ?_
      intro w13 x11 h45
      have sx11 := x11.size
      have h46 := h45.close.sub (l' := [(w.heap.size, some w2.heap.size, some 84)]) (li' := [(w.heap.size, some w12.heap.size, some 93)]) ⟨(.inl ⟨by omega, by omega, rfl⟩), trivial⟩ ⟨(.inl ⟨by omega, by omega, rfl⟩), ⟨(.inl ⟨by omega, by omega, rfl⟩), trivial⟩⟩
      refine RW.tell 0 (v' := .slice A3 (lt0_0.set y2.toNat (⟨(rd lt0_0 y2).ID, (rd lt0_0 y2).Size, (rd lt0_0 y2).Free, y6⟩ : Device)).length c_3) (by simp only [List.length_set]) rfl ?_
      refine RW.done ?_
      refine NW.norm_block (NW.next ?_)
      refine CW.lex [.W, .W, .W] rfl ?_
      refine RW.pure tabOk 3 rfl ?_
      refine RW.done ?_
      have h47 := ((h35.ext x9).ext x10).turnL x11 ⟨⟨.inr (.inl (by omega)), trivial⟩, trivial⟩
      have h48 := Ext.turn (Ext.trans (Ext.trans (Ext.trans x0_1 x8) x9) x10) x11 ⟨by omega, trivial⟩
      exact NW.J fun a ha => ⟨n1, Nat.lt_succ_self n1, (lt0_0.set y2.toNat (⟨(rd lt0_0 y2).ID, (rd lt0_0 y2).Size, (rd lt0_0 y2).Free, y6⟩ : Device)), (w64 (it6_0 + 1)), ha.sub ⟨rfl, rfl, rfl, trivial⟩, by omega, (h46.sub ⟨(.inl ⟨by omega, trivial, rfl⟩), trivial⟩ ⟨(.inl ⟨by omega, trivial, rfl⟩), trivial⟩), h47, h48, (by (try simp only [List.length_set]) <;> omega), H⟩
    ·
     rw [if_neg c3] at H
     refine CW.cond_t rfl (not_t (bool_f c3)) ?_
     refine CW.seq ?_
     refine CW.lex [.W, .W] rfl ?_
     refine RW.pure tabOk 2 rfl ?_
     refine RW.done ?_
     refine NW.next ?_
     refine CW.ret ?_
     refine NW.ret_then (NW.ret_block (NW.ret_then (NW.ret_then (NW.ret_block (NW.ret_then ?_)))))
     obtain rfl := Option.some.inj H
     have h49 := Ext.trans (Ext.trans (Ext.trans x0_0 x2) x3) x4
     exact NW.ret2 rfl (by rfl) (by rfl) ⟨none, 0, rfl, h49, Ow.nil⟩
  ·
   rw [if_neg c1] at H
   refine CW.cond_f rfl (decide_eq_false c1) ?_
   refine CW.exit ?_
   refine NW.exit_then (NW.exit_then (NW.exit_hit ?_))
   refine NW.next ?_
   refine CW.seq ?_
   refine CW.lex [.W, .W, .W] rfl ?_
   refine RW.pure tabOk 3 rfl ?_
   refine RW.done ?_
   refine NW.next ?_
   refine CW.ret ?_
   obtain rfl := Option.some.inj H
   exact NW.ret2 rfl (by rfl) (by rfl) ⟨A3, c_3, rfl, x0_0, (h8.sub (l' := [(w.heap.size, none, some 84)]) (li' := [(w.heap.size, none, some 93)]) ⟨(.inl ⟨by omega, trivial, rfl⟩), trivial⟩ ⟨(.inl ⟨by omega, trivial, rfl⟩), trivial⟩)⟩

set_option maxHeartbeats 4000000 in
set_option maxRecDepth 100000 in
theorem hermitageref7_Commit.calls (k : Nat) (A1 : Option Addr) (c_1 : Nat) (p0 : List Device) (r : (List Device)) (w : World) (hs1 : Sl kDeviceR w.heap okAll A1 p0) (hl1 : p0.length ≤ c_1) (H : hermitageref7_Commit.f k p0 = some r) :
    Calls Tryd.prog 110 #[.slice A1 p0.length c_1] w fun e w' => ∃ (B1 : Option Addr) (d1 : Nat), e = .returned (.slice B1 r.length d1) ∧ Ext w w' ∧ Ow kDeviceO 84 w'.heap (okL [(w.heap.size, none, some 84)]) (okL [(w.heap.size, none, some 93)]) B1 d1 r := by
 have h1 : Sl kDeviceR w.heap (okL [(0, some w.heap.size, none)]) A1 p0 := hs1.old _ rfl
 have x0 : Ext w w := Upd.refl _ w
 unfold hermitageref7_Commit.f at H
 refine calls_start Tryd.func110 rfl 32 rfl [.slice A1 p0.length c_1] rfl ?_
 refine CW.seq ?_
 refine CW.lex [.W] rfl ?_
 refine RW.pure tabOk 1 rfl ?_
 refine RW.done ?_
 refine NW.next ?_
 refine CW.seq ?_
 refine CW.lex [.W, .X, .W] rfl ?_
 refine RW.pure tabOk 1 rfl ?_
 obtain ⟨y1, h2, H⟩ := bind_some H
 refine RW.callF (.inl rfl) ent88 ⟨rfl, rfl, rfl, rfl⟩ rfl rfl (hermitageref0_CopyDevices.calls k A1 c_1 p0 _ _ h1.all hl1 h2) ?_
 rintro _ w1 ⟨A2, c_2, rfl, x1, h3⟩
 refine ⟨_, rfl, x1, ?_⟩
 have sx1 := x1.size
 have h4 : Ow kDeviceO 84 w1.heap (okL [(w.heap.size, some w1.heap.size, some 84)]) (okL [(w.heap.size, some w1.heap.size, some 93)]) A2 c_2 y1 := h3.close
 refine RW.pure tabOk 1 rfl ?_
 refine RW.done ?_
 refine NW.next ?_
 refine CW.seq ?_
 refine CW.seq ?_
 refine CW.lex [.W] rfl ?_
 refine RW.pure tabOk 1 rfl ?_
 refine RW.done ?_
 refine NW.next ?_
 refine CW.block ?_
 refine CW.loop (fun n1 a w2 => ∃ (lt0_0 : List Device) (it3_0 : Int), Sat 32 [(0, .slice A2 lt0_0.length c_2), (3, .int .i64 it3_0)] a ∧ w1.heap.size ≤ w2.heap.size ∧ Ow kDeviceO 84 w2.heap (okL [(w.heap.size, none, some 84)]) (okL [(w.heap.size, none, some 93)]) A2 c_2 lt0_0 ∧ Ext w w2 ∧ lt0_0.length = y1.length ∧ hermitageref7_Commit.l0 k n1 lt0_0 it3_0 = some r) k ?_ ?_
 have h5 := Ext.trans x0 x1
 · exact fun a ha => ⟨y1, 0, ha.sub ⟨rfl, rfl, trivial⟩, by omega, (h4.sub ⟨(.inl ⟨by omega, trivial, rfl⟩), trivial⟩ ⟨(.inl ⟨by omega, trivial, rfl⟩), trivial⟩), h5, (by (try simp only [List.length_set]) <;> omega), H⟩
 intro n1 a w2 hI hp
 obtain ⟨lt0_0, it3_0, hS, hle, ft0_0, x0_0, ln_lt0_0, H⟩ := hI
 cases n1 with
 | zero => cases H
 | succ n1 =>
  rw [hermitageref7_Commit.l0] at H
  refine CW.go hp hS ?_
  have h6 : Ow kDeviceO 84 w2.heap (okL [(w.heap.size, some w2.heap.size, some 84)]) (okL [(w.heap.size, some w2.heap.size, some 93)]) A2 c_2 lt0_0 := ft0_0.close
  refine CW.seq ?_
  refine CW.seq ?_
  refine CW.lex [.W, .W, .W, .W] rfl ?_
  refine RW.pure tabOk 4 rfl ?_
  refine RW.done ?_
  refine NW.next ?_
  by_cases c1 : it3_0 < (lt0_0.length : Int)
  ·
   rw [if_pos c1] at H
   refine CW.cond_t rfl (decide_eq_true c1) ?_
   refine CW.skip ?_
   refine NW.next ?_
   refine CW.seq ?_
   refine CW.block ?_
   refine CW.ord [0, 0, 0, 0, 0, 0, 48, 112, 240, 0, 0, 1536, 3584, 7680, 16368, 32755, 65523, 131059, 262143, 524287, 1048575] (ofL [(0, .W), (1, .W), (2, .W), (3, .W), (4, .W), (5, .W), (6, .W), (7, .W), (9, .W), (10, .W), (11, .W), (12, .W), (8, .L), (13, .L), (14, .X), (15, .W), (16, .W), (17, .M), (18, .W), (19, .W), (20, .M)] .nil) mixed (by kernel_rfl) ?_
   intro w3 x2
   have sx2 := x2.size
   refine RW.pure tabOk 6 rfl ?_
   obtain ⟨g1, H⟩ := guard_some H
   have h7 := h6.ext x2
   obtain ⟨ad1, A3, c_3, A4, c_4, e1, a1, h8, h9⟩ := kDeviceO_ato h7 g1.1 g1.2
   refine RW.index tabOk g1.1 g1.2 e1 ⟨rfl, rfl, rfl, rfl⟩ rfl rfl rfl rfl rfl rfl ?_
   refine RW.pure tabOk 3 rfl ?_
   obtain ⟨g2, H⟩ := guard_some H
   obtain ⟨ad2, A5, c_5, A6, c_6, e2, a2, h10, h11⟩ := kDeviceO_ato h7 g2.1 g2.2
   refine RW.index tabOk g2.1 g2.2 e2 ⟨rfl, rfl, rfl, rfl⟩ rfl rfl rfl rfl rfl rfl ?_
   refine RW.pure tabOk 1 rfl ?_
   refine RW.load tabOk [.slice A3 ((rd lt0_0 it3_0).Free).length c_3] ((a1.fld 2).take 1 rfl) ⟨rfl, rfl, rfl, rfl⟩ rfl rfl rfl rfl ?_
   refine RW.load tabOk [.slice A6 ((rd lt0_0 it3_0).Late).length c_6] (a2.fld 3) ⟨rfl, rfl, rfl, rfl⟩ rfl rfl rfl rfl ?_
   obtain ⟨y2, h12, H⟩ := bind_some H
   refine RW.callF (.inl rfl) ent20 ⟨rfl, rfl, rfl, rfl⟩ rfl rfl (hermitageref1_Two.calls k A3 c_3 ((rd lt0_0 it3_0).Free) A6 c_6 ((rd lt0_0 it3_0).Late) 0 _ _ h8.all h8.len h11.all h11.len h12) ?_
   rintro _ w4 ⟨A7, c_7, rfl, x3, h13⟩
   refine ⟨_, rfl, x3, ?_⟩
   have sx3 := x3.size
   have h14 : Ow kSeg 93 w4.heap (okL [(w3.heap.size, some w4.heap.size, some 93)]) (okL []) A7 c_7 y2 := h13.close
   obtain ⟨g3, H⟩ := guard_some H
   have h15 := h7.ext x3
   obtain ⟨ad3, A8, c_8, A9, c_9, e3, a3, h16, h17⟩ := kDeviceO_ato h15 g3.1 g3.2
   refine RW.index tabOk g3.1 g3.2 e3 ⟨rfl, rfl, rfl, rfl⟩ rfl rfl rfl rfl rfl rfl ?_
   refine RW.pure tabOk 1 rfl ?_
   refine RW.storeElL (y := (⟨(rd lt0_0 it3_0).ID, (rd lt0_0 it3_0).Size, y2, (rd lt0_0 it3_0).Late⟩ : Device)) (lv := [(w3.heap.size, some w4.heap.size, some 93)]) (k := 2) tabOk h15 (j := it3_0.toNat) (by have := g3; omega) default [.slice A7 y2.length c_7] (fun cs ok' hr => by obtain ⟨qa1, qc1, qa2, qc2, rfl, q1, q2⟩ := kDeviceO_open hr; exact ⟨by simp, kDeviceO_mk (⟨(rd lt0_0 it3_0).ID, (rd lt0_0 it3_0).Size, y2, (rd lt0_0 it3_0).Late⟩ : Device) (h14.mono (fun _ _ ho => Or.inr (okL_sub (l := [(w3.heap.size, some w4.heap.size, some 93)]) (l' := [(w3.heap.size, some w4.heap.size, some 93)]) ⟨(.inl ⟨by omega, by omega, rfl⟩), trivial⟩ ho)) (fun _ _ ho => Or.inr (okL_sub (l := []) (l' := [(w3.heap.size, some w4.heap.size, some 93)]) trivial ho))) (q2.mono (fun _ _ ho => Or.inl ho) (fun _ _ ho => Or.inl ho))⟩) ⟨⟨.inl (show (93 : Nat) ≠ 84 by decide), trivial⟩, trivial⟩ ⟨rfl, rfl, rfl⟩ rfl rfl e3 rfl rfl rfl rfl rfl ?_
   intro w5 x4 h18
   have sx4 := x4.size
   have h19 := h18.close.sub (l' := [(w.heap.size, some w2.heap.size, some 84)]) (li' := [(w.heap.size, some w4.heap.size, some 93)]) ⟨(.inl ⟨by omega, by omega, rfl⟩), trivial⟩ ⟨(.inl ⟨by omega, by omega, rfl⟩), ⟨(.inl ⟨by omega, by omega, rfl⟩), trivial⟩⟩
   refine RW.tell 0 (v' := .slice A2 (lt0_0.set it3_0.toNat (⟨(rd lt0_0 it3_0).ID, (rd lt0_0 it3_0).Size, y2, (rd lt0_0 it3_0).Late⟩ : Device)).length c_2) (by simp only [List.length_set]) rfl ?_
   refine RW.tell 14 (v' := .slice A2 (lt0_0.set it3_0.toNat (⟨(rd lt0_0 it3_0).ID, (rd lt0_0 it3_0).Size, y2, (rd lt0_0 it3_0).Late⟩ : Device)).length c_2) (by simp only [List.length_set]) rfl ?_
   obtain ⟨g4, H⟩ := guard_some H
   obtain ⟨ad4, A10, c_10, A11, c_11, e4, a4, h20, h21⟩ := kDeviceO_ato h19 g4.1 g4.2
   refine RW.index tabOk g4.1 g4.2 e4 ⟨rfl, rfl, rfl, rfl⟩ rfl rfl rfl rfl rfl rfl ?_
   refine RW.pure tabOk 1 rfl ?_
   refine RW.storeElL (y := (⟨(rd (lt0_0.set it3_0.toNat (⟨(rd lt0_0 it3_0).ID, (rd lt0_0 it3_0).Size, y2, (rd lt0_0 it3_0).Late⟩ : Device)) it3_0).ID, (rd (lt0_0.set it3_0.toNat (⟨(rd lt0_0 it3_0).ID, (rd lt0_0 it3_0).Size, y2, (rd lt0_0 it3_0).Late⟩ : Device)) it3_0).Size, (rd (lt0_0.set it3_0.toNat (⟨(rd lt0_0 it3_0).ID, (rd lt0_0 it3_0).Size, y2, (rd lt0_0 it3_0).Late⟩ : Device)) it3_0).Free, ([] : List Seg)⟩ : Device)) (lv := []) (k := 3) tabOk h19 (j := it3_0.toNat) (by have := g4; omega) default [.slice none 0 0] (fun cs ok' hr => by obtain ⟨qa1, qc1, qa2, qc2, rfl, q1, q2⟩ := kDeviceO_open hr; exact ⟨by simp, kDeviceO_mk (⟨(rd (lt0_0.set it3_0.toNat (⟨(rd lt0_0 it3_0).ID, (rd lt0_0 it3_0).Size, y2, (rd lt0_0 it3_0).Late⟩ : Device)) it3_0).ID, (rd (lt0_0.set it3_0.toNat (⟨(rd lt0_0 it3_0).ID, (rd lt0_0 it3_0).Size, y2, (rd lt0_0 it3_0).Late⟩ : Device)) it3_0).Size, (rd (lt0_0.set it3_0.toNat (⟨(rd lt0_0 it3_0).ID, (rd lt0_0 it3_0).Size, y2, (rd lt0_0 it3_0).Late⟩ : Device)) it3_0).Free, ([] : List Seg)⟩ : Device) (q1.mono (fun _ _ ho => Or.inl ho) (fun _ _ ho => Or.inl ho)) Ow.nil⟩) trivial ⟨rfl, rfl, rfl⟩ rfl rfl e4 rfl rfl rfl rfl rfl ?_
   intro w6 x5 h22
   have sx5 := x5.size
   have h23 := h22.sub (l' := [(w.heap.size, some w2.heap.size, some 84)]) (li' := [(w.heap.size, some w4.heap.size, some 93)]) ⟨(.inl ⟨by omega, by omega, rfl⟩), trivial⟩ ⟨(.inl ⟨by omega, by omega, rfl⟩), trivial⟩
   refine RW.tell 0 (v' := .slice A2 ((lt0_0.set it3_0.toNat (⟨(rd lt0_0 it3_0).ID, (rd lt0_0 it3_0).Size, y2, (rd lt0_0 it3_0).Late⟩ : Device)).set it3_0.toNat (⟨(rd (lt0_0.set it3_0.toNat (⟨(rd lt0_0 it3_0).ID, (rd lt0_0 it3_0).Size, y2, (rd lt0_0 it3_0).Late⟩ : Device)) it3_0).ID, (rd (lt0_0.set it3_0.toNat (⟨(rd lt0_0 it3_0).ID, (rd lt0_0 it3_0).Size, y2, (rd lt0_0 it3_0).Late⟩ : Device)) it3_0).Size, (rd (lt0_0.set it3_0.toNat (⟨(rd lt0_0 it3_0).ID, (rd lt0_0 it3_0).Size, y2, (rd lt0_0 it3_0).Late⟩ : Device)) it3_0).Free, ([] : List Seg)⟩ : Device)).length c_2) (by simp only [List.length_set]) rfl ?_
   refine RW.done ?_
   refine NW.norm_block (NW.next ?_)
   refine CW.lex [.W, .W, .W] rfl ?_
   refine RW.pure tabOk 3 rfl ?_
   refine RW.done ?_
   have h24 := Ext.turn (Ext.turn (Ext.trans (Ext.trans x0_0 x2) x3) x4 ⟨by omega, trivial⟩) x5 ⟨by omega, trivial⟩
   exact NW.J fun a ha => ⟨n1, Nat.lt_succ_self n1, ((lt0_0.set it3_0.toNat (⟨(rd lt0_0 it3_0).ID, (rd lt0_0 it3_0).Size, y2, (rd lt0_0 it3_0).Late⟩ : Device)).set it3_0.toNat (⟨(rd (lt0_0.set it3_0.toNat (⟨(rd lt0_0 it3_0).ID, (rd lt0_0 it3_0).Size, y2, (rd lt0_0 it3_0).Late⟩ : Device)) it3_0).ID, (rd (lt0_0.set it3_0.toNat (⟨(rd lt0_0 it3_0).ID, (rd lt0_0 it3_0).Size, y2, (rd lt0_0 it3_0).Late⟩ : Device)) it3_0).Size, (rd (lt0_0.set it3_0.toNat (⟨(rd lt0_0 it3_0).ID, (rd lt0_0 it3_0).Size, y2, (rd lt0_0 it3_0).Late⟩ : Device)) it3_0).Free, ([] : List Seg)⟩ : Device)), (w64 (it3_0 + 1)), ha.sub ⟨rfl, rfl, trivial⟩, by omega, (h23.sub ⟨(.inl ⟨by omega, trivial, rfl⟩), trivial⟩ ⟨(.inl ⟨by omega, trivial, rfl⟩), trivial⟩), h24, (by (try simp only [List.length_set]) <;> omega), H⟩
  ·
   rw [if_neg c1] at H
   refine CW.cond_f rfl (decide_eq_false c1) ?_
   refine CW.exit ?_
   refine NW.exit_then (NW.exit_then (NW.exit_hit ?_))
   refine NW.next ?_
   refine CW.seq ?_
   refine CW.lex [.W, .W] rfl ?_
   refine RW.pure tabOk 2 rfl ?_
   refine RW.done ?_
   refine NW.next ?_
   refine CW.ret ?_
   obtain rfl := Option.some.inj H
   exact NW.ret1 rfl (by rfl) ⟨A2, c_2, rfl, x0_0, (h6.sub (l' := [(w.heap.size, none, some 84)]) (li' := [(w.heap.size, none, some 93)]) ⟨(.inl ⟨by omega, trivial, rfl⟩), trivial⟩ ⟨(.inl ⟨by omega, trivial, rfl⟩), trivial⟩)⟩

set_option maxHeartbeats 4000000 in
set_option maxRecDepth 100000 in
theorem room_Used.calls (k : Nat) (A1 : Option Addr) (c_1 : Nat) (p0 : List Device) (p1 : Int) (r : Int × Int) (w : World) (hs1 : Sl kDeviceR w.heap okAll A1 p0) (hl1 : p0.length ≤ c_1) (H : room_Used.f k p0 p1 = some r) :
    Calls Tryd.prog 112 #[.slice A1 p0.length c_1, .int .i64 p1] w fun e w' => e = .returned (.tuple #[.int .i64 r.1, .int .i64 r.2]) ∧ Ext w w' := by
 have h1 : Sl kDeviceR w.heap (okL [(0, some w.heap.size, none)]) A1 p0 := hs1.old _ rfl
 have x0 : Ext w w := Upd.refl _ w
 unfold room_Used.f at H
 refine calls_start Tryd.func112 rfl 25 rfl [.slice A1 p0.length c_1, .int .i64 p1] rfl ?_
 refine CW.seq ?_
 refine CW.lex [.W, .W] rfl ?_
 refine RW.pure tabOk 2 rfl ?_
 refine RW.done ?_
 refine NW.next ?_
 refine CW.seq ?_
 refine CW.seq ?_
 refine CW.lex [.W, .X, .W] rfl ?_
 refine RW.pure tabOk 1 rfl ?_
 obtain ⟨y1, h2, H⟩ := bind_some H
 refine RW.callF (.inl rfl) ent66 ⟨rfl, rfl, rfl, rfl⟩ rfl rfl (room_May.calls k A1 c_1 p0 _ _ h1.all hl1 h2) ?_
 rintro _ w1 ⟨rfl, x1⟩
 refine ⟨_, rfl, x1, ?_⟩
 have sx1 := x1.size
 refine RW.pure tabOk 1 rfl ?_
 refine RW.done ?_
 refine NW.next ?_
 by_cases c1 : y1 = true
 ·
  rw [if_pos c1] at H
  refine CW.cond_f rfl (not_f (c1)) ?_
  refine CW.skip ?_
  refine NW.next ?_
  refine CW.seq ?_
  refine CW.lex [.W, .W, .X, .W, .W, .W, .W, .W] rfl ?_
  refine RW.pure tabOk 2 rfl ?_
  have h3 := h1.ext x1
  obtain ⟨y2, h4, H⟩ := bind_some H
  refine RW.callF (.inl rfl) ent86 ⟨rfl, rfl, rfl, rfl⟩ rfl rfl (room_Find.calls k A1 c_1 p0 p1 _ _ h3.all hl1 h4) ?_
  rintro _ w2 ⟨rfl, x2⟩
  refine ⟨_, rfl, x2, ?_⟩
  have sx2 := x2.size
  refine RW.pure tabOk 5 rfl ?_
  refine RW.done ?_
  refine NW.next ?_
  refine CW.seq ?_
  refine CW.seq ?_
  refine CW.lex [.W, .W] rfl ?_
  refine RW.pure tabOk 2 rfl ?_
  refine RW.done ?_
  refine NW.next ?_
  by_cases c2 : y2.2 = true
  ·
   rw [if_pos c2] at H
   refine CW.cond_f rfl (not_f (c2)) ?_
   refine CW.skip ?_
   refine NW.next ?_
   refine CW.seq ?_
   refine CW.lex [.W, .W, .W, .L, .X, .X, .W, .W] rfl ?_
   refine RW.pure tabOk 2 rfl ?_
   obtain ⟨g1, H⟩ := guard_some H
   have h5 := h3.ext x2
   obtain ⟨ad1, A2, c_2, A3, c_3, e1, a1, l1, h6, l2, h7⟩ := kDeviceR_at h5 g1.1 g1.2
   refine RW.index tabOk g1.1 g1.2 e1 ⟨rfl, rfl, rfl, rfl⟩ rfl rfl rfl rfl rfl rfl ?_
   refine RW.load tabOk [.int .i64 ((rd p0 y2.1).ID), .int .i64 ((rd p0 y2.1).Size), .slice A2 ((rd p0 y2.1).Free).length c_2, .slice A3 ((rd p0 y2.1).Late).length c_3] a1 ⟨rfl, rfl, rfl, rfl⟩ rfl rfl rfl rfl ?_
   obtain ⟨y3, h8, H⟩ := bind_some H
   refine RW.callF (.inl rfl) ent87 ⟨rfl, rfl, rfl, rfl⟩ rfl rfl (room_Busy.calls k (rd p0 y2.1) A2 c_2 A3 c_3 _ _ h6.all l1 h7.all l2 h8) ?_
   rintro _ w3 ⟨rfl, x3⟩
   refine ⟨_, rfl, x3, ?_⟩
   have sx3 := x3.size
   obtain ⟨y4, h9, H⟩ := bind_some H
   refine RW.callF (.inl rfl) ent59 ⟨rfl, rfl, rfl, rfl⟩ rfl rfl (seg_Set_Count.calls y3 _ _ h9) ?_
   rintro _ w4 ⟨rfl, x4⟩
   refine ⟨_, rfl, x4, ?_⟩
   have sx4 := x4.size
   refine RW.pure tabOk 2 rfl ?_
   refine RW.done ?_
   refine NW.next ?_
   refine CW.ret ?_
   obtain rfl := Option.some.inj H
   have h10 := Ext.trans (Ext.trans (Ext.trans (Ext.trans x0 x1) x2) x3) x4
   exact NW.ret2 rfl (by rfl) (by rfl) ⟨rfl, h10⟩
  ·
   rw [if_neg c2] at H
   refine CW.cond_t rfl (not_t (bool_f c2)) ?_
   refine CW.seq ?_
   refine CW.lex [.W, .W] rfl ?_
   refine RW.pure tabOk 2 rfl ?_
   refine RW.done ?_
   refine NW.next ?_
   refine CW.ret ?_
   refine NW.ret_then ?_
   obtain rfl := Option.some.inj H
   have h11 := Ext.trans (Ext.trans x0 x1) x2
   exact NW.ret2 rfl (by rfl) (by rfl) ⟨rfl, h11⟩
 ·
  rw [if_neg c1] at H
  refine CW.cond_t rfl (not_t (bool_f c1)) ?_
  refine CW.seq ?_
  refine CW.lex [.W, .W] rfl ?_
  refine RW.pure tabOk 2 rfl ?_
  refine RW.done ?_
  refine NW.next ?_
  refine CW.ret ?_
  refine NW.ret_then ?_
  obtain rfl := Option.some.inj H
  have h12 := Ext.trans x0 x1
  exact NW.ret2 rfl (by rfl) (by rfl) ⟨rfl, h12⟩

set_option maxHeartbeats 4000000 in
set_option maxRecDepth 100000 in
theorem hermitageref7_Used.calls (k : Nat) (p0 : Device) (A1 : Option Addr) (c_1 : Nat) (A2 : Option Addr) (c_2 : Nat) (r : Int) (w : World) (hs1 : Sl kSeg w.heap okAll A1 p0.Free) (hl1 : p0.Free.length ≤ c_1) (hs2 : Sl kSeg w.heap okAll A2 p0.Late) (hl2 : p0.Late.length ≤ c_2) (H : hermitageref7_Used.f k p0 = some r) :
    Calls Tryd.prog 114 #[.agg #[.int .i64 p0.ID, .int .i64 p0.Size, .slice A1 p0.Free.length c_1, .slice A2 p0.Late.length c_2]] w fun e w' => e = .returned (.int .i64 r) ∧ Ext w w' := by
 have h1 : Sl kSeg w.heap (okL [(0, some w.heap.size, none)]) A1 p0.Free := hs1.old _ rfl
 have h2 : Sl kSeg w.heap (okL [(0, some w.heap.size, none)]) A2 p0.Late := hs2.old _ rfl
 have x0 : Ext w w := Upd.refl _ w
 unfold hermitageref7_Used.f at H
 refine calls_start Tryd.func114 rfl 13 rfl [.agg #[.int .i64 p0.ID, .int .i64 p0.Size, .slice A1 p0.Free.length c_1, .slice A2 p0.Late.length c_2]] rfl ?_
 refine CW.seq ?_
 refine CW.lex [.X, .W] rfl ?_
 refine RW.box (cs := [.int .i64 p0.ID, .int .i64 p0.Size, .slice A1 p0.Free.length c_1, .slice A2 p0.Late.length c_2]) (.inl rfl) ⟨rfl, rfl, rfl, rfl⟩ rfl rfl rfl ?_
 intro b1 w1 x1 l1 h3
 have sx1 := x1.size
 have ltb1 := h3.lt
 refine RW.pure tabOk 1 rfl ?_
 refine RW.done ?_
 refine NW.next ?_
 refine CW.seq ?_
 refine CW.ord [0, 1, 0, 4, 12, 31, 0, 64, 220, 511, 1023] (ofL [(0, .W), (2, .W), (6, .W), (1, .L), (3, .L), (7, .L), (4, .X), (5, .W), (8, .X), (9, .W), (10, .W)] .nil) mixed (by kernel_rfl) ?_
 intro w2 x2
 have sx2 := x2.size
 refine RW.pure tabOk 3 rfl ?_
 have h4 := h3.ext x2
 refine RW.load tabOk [.int .i64 p0.Size] ((h4.at 1).take 1 rfl) ⟨rfl, rfl, rfl, rfl⟩ rfl rfl rfl rfl ?_
 refine RW.load tabOk [.slice A1 p0.Free.length c_1] ((h4.at 2).take 1 rfl) ⟨rfl, rfl, rfl, rfl⟩ rfl rfl rfl rfl ?_
 refine RW.load tabOk [.slice A2 p0.Late.length c_2] (h4.at 3) ⟨rfl, rfl, rfl, rfl⟩ rfl rfl rfl rfl ?_
 have h5 := (h1.ext x1).ext x2
 obtain ⟨y1, h6, H⟩ := bind_some H
 refine RW.callF (.inl rfl) ent27 ⟨rfl, rfl, rfl, rfl⟩ rfl rfl (hermitageref1_Count.calls k A1 c_1 p0.Free _ _ h5.all hl1 h6) ?_
 rintro _ w3 ⟨rfl, x3⟩
 refine ⟨_, rfl, x3, ?_⟩
 have sx3 := x3.size
 refine RW.pure tabOk 1 rfl ?_
 have h7 := ((h2.ext x1).ext x2).ext x3
 obtain ⟨y2, h8, H⟩ := bind_some H
 refine RW.callF (.inl rfl) ent27 ⟨rfl, rfl, rfl, rfl⟩ rfl rfl (hermitageref1_Count.calls k A2 c_2 p0.Late _ _ h7.all hl2 h8) ?_
 rintro _ w4 ⟨rfl, x4⟩
 refine ⟨_, rfl, x4, ?_⟩
 have sx4 := x4.size
 refine RW.pure tabOk 2 rfl ?_
 refine RW.done ?_
 refine NW.next ?_
 refine CW.ret ?_
 obtain rfl := Option.some.inj H
 have h9 := Ext.trans (Ext.trans (Ext.trans (Ext.trans x0 x1) x2) x3) x4
 exact NW.ret1 rfl (by rfl) ⟨rfl, h9⟩

set_option maxHeartbeats 4000000 in
set_option maxRecDepth 100000 in
theorem room_Check.calls (k : Nat) (A1 : Option Addr) (c_1 : Nat) (p0 : List Device) (r : Int) (w : World) (hs1 : Sl kDeviceR w.heap okAll A1 p0) (hl1 : p0.length ≤ c_1) (H : room_Check.f k p0 = some r) :
    Calls Tryd.prog 115 #[.slice A1 p0.length c_1] w fun e w' => e = .returned (.int .i64 r) ∧ Ext w w' := by
 have h1 : Sl kDeviceR w.heap (okL [(0, some w.heap.size, none)]) A1 p0 := hs1.old _ rfl
 have x0 : Ext w w := Upd.refl _ w
 unfold room_Check.f at H
 refine calls_start Tryd.func115 rfl 6 rfl [.slice A1 p0.length c_1] rfl ?_
 refine CW.seq ?_
 refine CW.lex [.W] rfl ?_
 refine RW.pure tabOk 1 rfl ?_
 refine RW.done ?_
 refine NW.next ?_
 refine CW.seq ?_
 refine CW.seq ?_
 refine CW.lex [.W, .X, .W] rfl ?_
 refine RW.pure tabOk 1 rfl ?_
 obtain ⟨y1, h2, H⟩ := bind_some H
 refine RW.callF (.inl rfl) ent66 ⟨rfl, rfl, rfl, rfl⟩ rfl rfl (room_May.calls k A1 c_1 p0 _ _ h1.all hl1 h2) ?_
 rintro _ w1 ⟨rfl, x1⟩
 refine ⟨_, rfl, x1, ?_⟩
 have sx1 := x1.size
 refine RW.pure tabOk 1 rfl ?_
 refine RW.done ?_
 refine NW.next ?_
 by_cases c1 : y1 = true
 ·
  rw [if_pos c1] at H
  refine CW.cond_f rfl (not_f (c1)) ?_
  refine CW.skip ?_
  refine NW.next ?_
  refine CW.seq ?_
  refine CW.lex [.W] rfl ?_
  refine RW.pure tabOk 1 rfl ?_
  refine RW.done ?_
  refine NW.next ?_
  refine CW.ret ?_
  obtain rfl := Option.some.inj H
  have h3 := Ext.trans x0 x1
  exact NW.ret1 rfl (by rfl) ⟨rfl, h3⟩
 ·
  rw [if_neg c1] at H
  refine CW.cond_t rfl (not_t (bool_f c1)) ?_
  refine CW.seq ?_
  refine CW.lex [.W] rfl ?_
  refine RW.pure tabOk 1 rfl ?_
  refine RW.done ?_
  refine NW.next ?_
  refine CW.ret ?_
  refine NW.ret_then ?_
  obtain rfl := Option.some.inj H
  have h4 := Ext.trans x0 x1
  exact NW.ret1 rfl (by rfl) ⟨rfl, h4⟩

end Go.Proofs.YtnaajldlloglkaaDoor.W
