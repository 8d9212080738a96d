/- Walks; printed by a program of the claim. -/
import Derived.Test.YtnaajldlloglkaaDoorSegW1
set_option linter.unusedVariables false
set_option linter.unusedSimpArgs false
namespace Go.Proofs.YtnaajldlloglkaaDoor.W
open Go.H Go.Proofs
set_option maxHeartbeats 4000000 in
set_option maxRecDepth 100000 in
theorem hermitagelaw1_SegTwos.calls (k : Nat) (p0 : hermitagelaw1Ask) (A1 : Option Addr) (c_1 : Nat) (A2 : Option Addr) (c_2 : Nat) (r : Bool) (w : World) (hs1 : Sl (Kd.sl kSeg) w.heap okAll A1 p0.L) (hl1 : p0.L.length ≤ c_1) (hs2 : Sl (Kd.int .i64) w.heap okAll A2 p0.N) (hl2 : p0.N.length ≤ c_2) {gT : Nat} (hG : Box w.heap 0 gT (arrI .u8 64 tz)) (H : hermitagelaw1_SegTwos.f k p0 = some r) :
    Calls Tryd.prog 4 #[.agg #[.slice A1 p0.L.length c_1, .slice A2 p0.N.length c_2]] w fun e w' => e = .returned (.bool r) ∧ Ext w w' := by
  have h1 : Sl (Kd.sl kSeg) w.heap (okL [(0, some w.heap.size, none)]) A1 p0.L := hs1.old _ rfl
  have h2 : Sl (Kd.int .i64) w.heap (okL [(0, some w.heap.size, none)]) A2 p0.N := hs2.old _ rfl
  have hG0 : 0 < w.heap.size := hG.lt
  have x0 : Ext w w := Upd.refl _ w
  unfold hermitagelaw1_SegTwos.f at H
  refine calls_start Tryd.func4 rfl 214 rfl [.agg #[.slice A1 p0.L.length c_1, .slice A2 p0.N.length c_2]] rfl ?_
  refine CW.seq ?_
  refine CW.lex [.X, .W] rfl ?_
  refine RW.box (cs := [.slice A1 p0.L.length c_1, .slice A2 p0.N.length c_2]) (.inl rfl) ⟨rfl, rfl, rfl, rfl⟩ rfl rfl rfl ?_
  intro b1 w1 x1 l1 h3
  have sx1 := x1.size
  have ltb1 := h3.lt
  refine RW.pure tabOk 1 rfl ?_
  refine RW.done ?_
  refine NW.next ?_
  refine CW.seq ?_
  refine CW.seq ?_
  refine CW.lex [.L, .X] rfl ?_
  refine RW.load tabOk [.slice A1 p0.L.length c_1, .slice A2 p0.N.length c_2] (h3.at 0) ⟨rfl, rfl, rfl, rfl⟩ rfl rfl rfl rfl ?_
  have h4 := h1.ext x1
  have h5 := h2.ext x1
  obtain ⟨y1, h6, H⟩ := bind_some H
  refine RW.callF (.inl rfl) ent11 ⟨rfl, rfl, rfl, rfl⟩ rfl rfl (hermitagelaw1_Heavy.calls k p0 A1 c_1 A2 c_2 _ _ h4.all hl1 h5.all hl2 h6) ?_
  rintro _ w2 ⟨rfl, x2⟩
  refine ⟨_, rfl, x2, ?_⟩
  have sx2 := x2.size
  refine RW.done ?_
  refine NW.next ?_
  by_cases c1 : y1 = true
  · rw [if_pos c1] at H
    refine CW.cond_t rfl (c1) ?_
    refine CW.seq ?_
    refine CW.lex [.W] rfl ?_
    refine RW.pure tabOk 1 rfl ?_
    refine RW.done ?_
    refine NW.next ?_
    refine CW.ret ?_
    refine NW.ret_then ?_
    obtain rfl := Option.some.inj H
    have h7 := Ext.trans (Ext.trans x0 x1) x2
    exact NW.ret1 rfl (by rfl) ⟨rfl, h7⟩
  · rw [if_neg c1] at H
    refine CW.cond_f rfl (bool_f c1) ?_
    refine CW.skip ?_
    refine NW.next ?_
    refine CW.seq ?_
    refine CW.seq ?_
    refine CW.lex [.W] rfl ?_
    refine RW.pure tabOk 1 rfl ?_
    refine RW.done ?_
    refine NW.next ?_
    refine CW.block ?_
    refine CW.loop (fun n1 a w3 => ∃ (it3_0 : Int), Sat 214 [(1, .pointer (some ⟨b1, 0, none⟩)), (3, .int .i64 it3_0)] a ∧ w2.heap.size ≤ w3.heap.size ∧ Sl (Kd.sl kSeg) w3.heap (okL [(0, some w.heap.size, none)]) A1 p0.L ∧ Sl (Kd.int .i64) w3.heap (okL [(0, some w.heap.size, none)]) A2 p0.N ∧ Ext w w3 ∧ Box w3.heap b1 25 [.slice A1 p0.L.length c_1, .slice A2 p0.N.length c_2] ∧ Box w3.heap 0 gT (arrI .u8 64 tz) ∧ hermitagelaw1_SegTwos.l0 p0 k n1 it3_0 = some r) k ?_ ?_
    have h8 := h4.ext x2
    have h9 := h5.ext x2
    have h10 := Ext.trans (Ext.trans x0 x1) x2
    have h11 := h3.ext x2
    have h12 := (hG.ext x1).ext x2
    · exact fun a ha => ⟨0, ha.sub ⟨rfl, rfl, trivial⟩, by omega, h8, h9, h10, h11, h12, H⟩
    intro n1 a w3 hI hp
    obtain ⟨it3_0, hS, hle, gF1_0, gF2_0, x0_0, gb1_0, g0_0, H⟩ := hI
    cases n1 with
    | zero => cases H
    | succ n1 =>
      rw [hermitagelaw1_SegTwos.l0] at H
      refine CW.go hp hS ?_
      refine CW.seq ?_
      refine CW.seqJ (fun a w4 => ∃ (bt29_1 : Bool), Sat 214 [(1, .pointer (some ⟨b1, 0, none⟩)), (3, .int .i64 it3_0), (29, .bool bt29_1)] a ∧ w3.heap.size ≤ w4.heap.size ∧ Sl (Kd.sl kSeg) w4.heap (okL [(0, some w.heap.size, none)]) A1 p0.L ∧ Sl (Kd.int .i64) w4.heap (okL [(0, some w.heap.size, none)]) A2 p0.N ∧ Ext w w4 ∧ Box w4.heap b1 25 [.slice A1 p0.L.length c_1, .slice A2 p0.N.length c_2] ∧ Box w4.heap 0 gT (arrI .u8 64 tz) ∧ hermitagelaw1_SegTwos.j0 p0 k it3_0 (hermitagelaw1_SegTwos.l0 p0 k n1) bt29_1 = some r) ?_ ?_
      ·
        refine CW.lex [.W, .W, .L, .W, .W, .W, .W, .W, .W] rfl ?_
        refine RW.pure tabOk 2 rfl ?_
        refine RW.load tabOk [.slice A1 p0.L.length c_1] ((gb1_0.at 0).take 1 rfl) ⟨rfl, rfl, rfl, rfl⟩ rfl rfl rfl rfl ?_
        refine RW.pure tabOk 3 rfl ?_
        by_cases c2 : it3_0 < (p0.L.length : Int)
        · rw [if_pos c2] at H
          refine RW.bool 26 (b' := true) (decide_eq_true c2) rfl ?_
          refine RW.pure tabOk 3 rfl ?_
          refine RW.done ?_
          exact NW.J fun a ha => ⟨(decide (it3_0 < 5)), ha.sub ⟨rfl, rfl, rfl, trivial⟩, by omega, gF1_0, gF2_0, x0_0, gb1_0, g0_0, H⟩
        · rw [if_neg c2] at H
          refine RW.bool 26 (b' := false) (decide_eq_false c2) rfl ?_
          refine RW.pure tabOk 3 rfl ?_
          refine RW.done ?_
          exact NW.J fun a ha => ⟨false, ha.sub ⟨rfl, rfl, rfl, trivial⟩, by omega, gF1_0, gF2_0, x0_0, gb1_0, g0_0, H⟩
      intro a w4 hJ hp
      obtain ⟨bt29_1, hS, hle, gF1_1, gF2_1, x0_1, gb1_1, g0_1, H⟩ := hJ
      unfold hermitagelaw1_SegTwos.j0 at H
      refine CW.go hp hS ?_
      by_cases c3 : bt29_1 = true
      · rw [if_pos c3] at H
        refine CW.cond_t rfl (c3) ?_
        refine CW.skip ?_
        refine NW.next ?_
        refine CW.seq ?_
        refine CW.block ?_
        refine CW.seq ?_
        refine CW.lex [.W] rfl ?_
        refine RW.pure tabOk 1 rfl ?_
        refine RW.done ?_
        refine NW.next ?_
        refine CW.block ?_
        refine CW.loop (fun n2 a w5 => ∃ (it4_2 : Int), Sat 214 [(1, .pointer (some ⟨b1, 0, none⟩)), (3, .int .i64 it3_0), (4, .int .i64 it4_2)] a ∧ w4.heap.size ≤ w5.heap.size ∧ Sl (Kd.sl kSeg) w5.heap (okL [(0, some w.heap.size, none)]) A1 p0.L ∧ Sl (Kd.int .i64) w5.heap (okL [(0, some w.heap.size, none)]) A2 p0.N ∧ Ext w w5 ∧ Box w5.heap b1 25 [.slice A1 p0.L.length c_1, .slice A2 p0.N.length c_2] ∧ Box w5.heap 0 gT (arrI .u8 64 tz) ∧ hermitagelaw1_SegTwos.l1 p0 k it3_0 (hermitagelaw1_SegTwos.l0 p0 k n1) n2 it4_2 = some r) k ?_ ?_
        · exact fun a ha => ⟨0, ha.sub ⟨rfl, rfl, rfl, trivial⟩, by omega, gF1_1, gF2_1, x0_1, gb1_1, g0_1, H⟩
        intro n2 a w5 hI hp
        obtain ⟨it4_2, hS, hle, gF1_2, gF2_2, x0_2, gb1_2, g0_2, H⟩ := hI
        cases n2 with
        | zero => cases H
        | succ n2 =>
          rw [hermitagelaw1_SegTwos.l1] at H
          refine CW.go hp hS ?_
          refine CW.seq ?_
          refine CW.seqJ (fun a w6 => ∃ (bt40_3 : Bool), Sat 214 [(1, .pointer (some ⟨b1, 0, none⟩)), (3, .int .i64 it3_0), (4, .int .i64 it4_2), (40, .bool bt40_3)] a ∧ w5.heap.size ≤ w6.heap.size ∧ Sl (Kd.sl kSeg) w6.heap (okL [(0, some w.heap.size, none)]) A1 p0.L ∧ Sl (Kd.int .i64) w6.heap (okL [(0, some w.heap.size, none)]) A2 p0.N ∧ Ext w w6 ∧ Box w6.heap b1 25 [.slice A1 p0.L.length c_1, .slice A2 p0.N.length c_2] ∧ Box w6.heap 0 gT (arrI .u8 64 tz) ∧ hermitagelaw1_SegTwos.j1 p0 k it3_0 it4_2 (hermitagelaw1_SegTwos.l0 p0 k n1) (hermitagelaw1_SegTwos.l1 p0 k it3_0 (hermitagelaw1_SegTwos.l0 p0 k n1) n2) bt40_3 = some r) ?_ ?_
          ·
            refine CW.lex [.W, .W, .L, .W, .W, .W, .W, .W, .W] rfl ?_
            refine RW.pure tabOk 2 rfl ?_
            refine RW.load tabOk [.slice A1 p0.L.length c_1] ((gb1_2.at 0).take 1 rfl) ⟨rfl, rfl, rfl, rfl⟩ rfl rfl rfl rfl ?_
            refine RW.pure tabOk 3 rfl ?_
            by_cases c4 : it4_2 < (p0.L.length : Int)
            · rw [if_pos c4] at H
              refine RW.bool 37 (b' := true) (decide_eq_true c4) rfl ?_
              refine RW.pure tabOk 3 rfl ?_
              refine RW.done ?_
              exact NW.J fun a ha => ⟨(decide (it4_2 < 5)), ha.sub ⟨rfl, rfl, rfl, rfl, trivial⟩, by omega, gF1_2, gF2_2, x0_2, gb1_2, g0_2, H⟩
            · rw [if_neg c4] at H
              refine RW.bool 37 (b' := false) (decide_eq_false c4) rfl ?_
              refine RW.pure tabOk 3 rfl ?_
              refine RW.done ?_
              exact NW.J fun a ha => ⟨false, ha.sub ⟨rfl, rfl, rfl, rfl, trivial⟩, by omega, gF1_2, gF2_2, x0_2, gb1_2, g0_2, H⟩
          intro a w6 hJ hp
          obtain ⟨bt40_3, hS, hle, gF1_3, gF2_3, x0_3, gb1_3, g0_3, H⟩ := hJ
          unfold hermitagelaw1_SegTwos.j1 at H
          refine CW.go hp hS ?_
          by_cases c5 : bt40_3 = true
          · rw [if_pos c5] at H
            refine CW.cond_t rfl (c5) ?_
            refine CW.skip ?_
            refine NW.next ?_
            refine CW.seq ?_
            refine CW.block ?_
            refine CW.seq ?_
            refine CW.ord [0, 1, 0, 7, 15, 31, 0, 64, 0, 448, 960, 2047, 4095, 8191] [(0, .W), (2, .W), (6, .W), (8, .W), (1, .L), (3, .W), (4, .L), (7, .L), (9, .W), (10, .L), (5, .X), (11, .X), (12, .W), (13, .W)] mixed (by kernel_rfl) ?_
            intro w7 x3
            have sx3 := x3.size
            refine RW.pure tabOk 4 rfl ?_
            have h13 := gb1_3.ext x3
            refine RW.load tabOk [.slice A1 p0.L.length c_1] ((h13.at 0).take 1 rfl) ⟨rfl, rfl, rfl, rfl⟩ rfl rfl rfl rfl ?_
            obtain ⟨g1, H⟩ := guard_some H
            have h14 := gF1_3.ext x3
            obtain ⟨ad1, A3, c_3, e1, a1, l2, h15⟩ := sl_at h14 g1.1 g1.2
            refine RW.index tabOk g1.1 g1.2 e1 ⟨rfl, rfl, rfl, rfl⟩ rfl rfl rfl rfl rfl rfl ?_
            refine RW.load tabOk [.slice A3 (rd p0.L it3_0).length c_3] a1 ⟨rfl, rfl, rfl, rfl⟩ rfl rfl rfl rfl ?_
            refine RW.load tabOk [.slice A1 p0.L.length c_1] ((h13.at 0).take 1 rfl) ⟨rfl, rfl, rfl, rfl⟩ rfl rfl rfl rfl ?_
            obtain ⟨g2, H⟩ := guard_some H
            obtain ⟨ad2, A4, c_4, e2, a2, l3, h16⟩ := sl_at h14 g2.1 g2.2
            refine RW.index tabOk g2.1 g2.2 e2 ⟨rfl, rfl, rfl, rfl⟩ rfl rfl rfl rfl rfl rfl ?_
            refine RW.load tabOk [.slice A4 (rd p0.L it4_2).length c_4] a2 ⟨rfl, rfl, rfl, rfl⟩ rfl rfl rfl rfl ?_
            obtain ⟨y2, h17, H⟩ := bind_some H
            refine RW.callF (.inl rfl) ent17 ⟨rfl, rfl, rfl, rfl⟩ rfl rfl (hermitageref0_CopySegs.calls k A3 c_3 (rd p0.L it3_0) _ _ h15.all l2 h17) ?_
            rintro _ w8 ⟨A5, c_5, rfl, x4, h18⟩
            refine ⟨_, rfl, x4, ?_⟩
            have sx4 := x4.size
            have h19 : Ow kSeg 93 w8.heap (okL [(w7.heap.size, some w8.heap.size, some 93)]) (okL []) A5 c_5 y2 := h18.close
            have h20 := h16.ext x4
            obtain ⟨y3, h21, H⟩ := bind_some H
            refine RW.callF (.inl rfl) ent17 ⟨rfl, rfl, rfl, rfl⟩ rfl rfl (hermitageref0_CopySegs.calls k A4 c_4 (rd p0.L it4_2) _ _ h20.all l3 h21) ?_
            rintro _ w9 ⟨A6, c_6, rfl, x5, h22⟩
            refine ⟨_, rfl, x5, ?_⟩
            have sx5 := x5.size
            have h23 : Ow kSeg 93 w9.heap (okL [(w8.heap.size, some w9.heap.size, some 93)]) (okL []) A6 c_6 y3 := h22.close
            refine RW.pure tabOk 2 rfl ?_
            refine RW.done ?_
            refine NW.next ?_
            refine CW.seq ?_
            refine CW.lex [.W, .W, .X, .W, .W, .W, .W, .W] rfl ?_
            refine RW.pure tabOk 2 rfl ?_
            have h24 := h19.ext x5
            have h25 := ((g0_3.ext x3).ext x4).ext x5
            obtain ⟨y4, h26, H⟩ := bind_some H
            refine RW.callF (.inl rfl) ent18 ⟨rfl, rfl, rfl, rfl⟩ rfl rfl (seg_Less.calls k A5 c_5 y2 A6 c_6 y3 _ _ h24.all h24.len h23.all h23.len h25 h26) ?_
            rintro _ w10 ⟨A7, c_7, rfl, x6, h27⟩
            refine ⟨_, rfl, x6, ?_⟩
            have sx6 := x6.size
            have h28 : Ow kSeg 93 w10.heap (okL [(w9.heap.size, some w10.heap.size, some 93)]) (okL []) A7 c_7 y4.1 := h27.close
            refine RW.pure tabOk 5 rfl ?_
            refine RW.done ?_
            refine NW.next ?_
            refine CW.seq ?_
            refine CW.lex [.W, .W, .X, .W, .W, .W, .W, .W] rfl ?_
            refine RW.pure tabOk 2 rfl ?_
            have h29 := h24.ext x6
            have h30 := h23.ext x6
            have h31 := h25.ext x6
            obtain ⟨y5, h32, H⟩ := bind_some H
            refine RW.callF (.inl rfl) ent19 ⟨rfl, rfl, rfl, rfl⟩ rfl rfl (seg_Both.calls k A5 c_5 y2 A6 c_6 y3 _ _ h29.all h29.len h30.all h30.len h31 h32) ?_
            rintro _ w11 ⟨A8, c_8, rfl, x7, h33⟩
            refine ⟨_, rfl, x7, ?_⟩
            have sx7 := x7.size
            have h34 : Ow kSeg 93 w11.heap (okL [(w10.heap.size, some w11.heap.size, some 93)]) (okL []) A8 c_8 y5.1 := h33.close
            refine RW.pure tabOk 5 rfl ?_
            refine RW.done ?_
            refine NW.next ?_
            refine CW.seq ?_
            refine CW.lex [.W, .W, .X, .X, .W, .W, .W, .W, .W] rfl ?_
            refine RW.pure tabOk 2 rfl ?_
            refine RW.buildSlice (cs := [.slice A5 y2.length c_5, .slice A6 y3.length c_6]) tabOk (.inl rfl) ⟨rfl, rfl, rfl, rfl⟩ rfl rfl rfl rfl rfl rfl rfl ?_
            intro b2 w12 x8 l4 h35
            have sx8 := x8.size
            have ltb2 := h35.lt
            have h36 := (h30.ext x7).ext x8
            have h37 := (h29.ext x7).ext x8
            have h38 : Ow (Kd.ow kSeg 93) 28 w12.heap (okL [(w11.heap.size, some w12.heap.size, some 28)]) (okL [(w7.heap.size, some w8.heap.size, some 93), (w8.heap.size, some w9.heap.size, some 93)]) (some ⟨b2, 0, none⟩) 2 ([y2, y3] : List (List Seg)) := Ow.of_box h35 (.inl ⟨l4, ltb2, rfl⟩) (Nat.le_of_ble_eq_true rfl) (Ch.cons (d := (Kd.ow kSeg 93)) (cs := [.slice A5 y2.length c_5]) (x := y2) ⟨_, _, rfl, (h37.off h35 ⟨.inl (show (93 : Nat) ≠ 28 by decide), trivial⟩ trivial ⟨(.inl ⟨by omega, by omega, rfl⟩), trivial⟩ trivial)⟩ (Ch.cons (d := (Kd.ow kSeg 93)) (cs := [.slice A6 y3.length c_6]) (x := y3) ⟨_, _, rfl, (h36.off h35 ⟨.inl (show (93 : Nat) ≠ 28 by decide), trivial⟩ trivial ⟨(.inr (.inl ⟨by omega, by omega, rfl⟩)), trivial⟩ trivial)⟩ Ch.nil))
            have h39 := (h31.ext x7).ext x8
            obtain ⟨y6, h40, H⟩ := bind_some H
            refine RW.callF (.inl rfl) ent13 ⟨rfl, rfl, rfl, rfl⟩ rfl rfl (seg_Join.calls k (some ⟨b2, 0, none⟩) 2 ([y2, y3] : List (List Seg)) _ _ (h38.all.to (ow_sl_rep (fun k => k) rfl) rfl) h38.len h39 h40) ?_
            rintro _ w13 ⟨A9, c_9, rfl, x9, h41⟩
            refine ⟨_, rfl, x9, ?_⟩
            have sx9 := x9.size
            have h42 : Ow kSeg 93 w13.heap (okL [(w12.heap.size, some w13.heap.size, some 93)]) (okL []) A9 c_9 y6.1 := h41.close
            refine RW.pure tabOk 5 rfl ?_
            refine RW.done ?_
            refine NW.next ?_
            refine CW.seq ?_
            refine CW.lex [.W] rfl ?_
            refine RW.pure tabOk 1 rfl ?_
            refine RW.done ?_
            refine NW.next ?_
            refine CW.seq ?_
            refine CW.lex [.W, .W, .W] rfl ?_
            refine RW.pure tabOk 3 rfl ?_
            refine RW.done ?_
            refine NW.next ?_
            refine CW.seqJ (fun a w14 => ∃ (it13_4 : Int) (lt14_4 : List Seg) (At14_4 : Option Addr) (ct14_4 : Nat) (lt15_4 : List Seg) (At15_4 : Option Addr) (ct15_4 : Nat) (lt16_4 : List Seg) (At16_4 : Option Addr) (ct16_4 : Nat), Sat 214 [(1, .pointer (some ⟨b1, 0, none⟩)), (3, .int .i64 it3_0), (4, .int .i64 it4_2), (5, .slice A5 y2.length c_5), (6, .slice A6 y3.length c_6), (7, .slice A7 y4.1.length c_7), (8, .int .i64 y4.2), (9, .slice A8 y5.1.length c_8), (10, .int .i64 y5.2), (11, .slice A9 y6.1.length c_9), (12, .int .i64 y6.2), (13, .int .i64 it13_4), (14, .slice At14_4 lt14_4.length ct14_4), (15, .slice At15_4 lt15_4.length ct15_4), (16, .slice At16_4 lt16_4.length ct16_4)] a ∧ w13.heap.size ≤ w14.heap.size ∧ Ow kSeg 93 w14.heap (okL [(w13.heap.size, none, some 93)]) (okL []) At14_4 ct14_4 lt14_4 ∧ Ow kSeg 93 w14.heap (okL [(w13.heap.size, none, some 93)]) (okL []) At15_4 ct15_4 lt15_4 ∧ Ow kSeg 93 w14.heap (okL [(w13.heap.size, none, some 93)]) (okL []) At16_4 ct16_4 lt16_4 ∧ Sl (Kd.sl kSeg) w14.heap (okL [(0, some w.heap.size, none)]) A1 p0.L ∧ Sl (Kd.int .i64) w14.heap (okL [(0, some w.heap.size, none)]) A2 p0.N ∧ Ow kSeg 93 w14.heap (okL [(w7.heap.size, some w8.heap.size, some 93)]) (okL []) A5 c_5 y2 ∧ Ow kSeg 93 w14.heap (okL [(w8.heap.size, some w9.heap.size, some 93)]) (okL []) A6 c_6 y3 ∧ Ow kSeg 93 w14.heap (okL [(w9.heap.size, some w10.heap.size, some 93)]) (okL []) A7 c_7 y4.1 ∧ Ow kSeg 93 w14.heap (okL [(w10.heap.size, some w11.heap.size, some 93)]) (okL []) A8 c_8 y5.1 ∧ Ow kSeg 93 w14.heap (okL [(w12.heap.size, some w13.heap.size, some 93)]) (okL []) A9 c_9 y6.1 ∧ Ext w w14 ∧ Box w14.heap b1 25 [.slice A1 p0.L.length c_1, .slice A2 p0.N.length c_2] ∧ Box w14.heap 0 gT (arrI .u8 64 tz) ∧ hermitagelaw1_SegTwos.j2 p0 k it3_0 it4_2 y2 y3 y4 y5 y6 (hermitagelaw1_SegTwos.l1 p0 k it3_0 (hermitagelaw1_SegTwos.l0 p0 k n1) n2) it13_4 lt14_4 lt15_4 lt16_4 = some r) ?_ ?_
            ·
              refine CW.seqJ (fun a w15 => ∃ (bt87_5 : Bool), Sat 214 [(1, .pointer (some ⟨b1, 0, none⟩)), (3, .int .i64 it3_0), (4, .int .i64 it4_2), (5, .slice A5 y2.length c_5), (6, .slice A6 y3.length c_6), (7, .slice A7 y4.1.length c_7), (8, .int .i64 y4.2), (9, .slice A8 y5.1.length c_8), (10, .int .i64 y5.2), (11, .slice A9 y6.1.length c_9), (12, .int .i64 y6.2), (13, .int .i64 1), (14, .slice none 0 0), (15, .slice none 0 0), (16, .slice none 0 0), (87, .bool bt87_5)] a ∧ w13.heap.size ≤ w15.heap.size ∧ Sl (Kd.sl kSeg) w15.heap (okL [(0, some w.heap.size, none)]) A1 p0.L ∧ Sl (Kd.int .i64) w15.heap (okL [(0, some w.heap.size, none)]) A2 p0.N ∧ Ow kSeg 93 w15.heap (okL [(w7.heap.size, some w8.heap.size, some 93)]) (okL []) A5 c_5 y2 ∧ Ow kSeg 93 w15.heap (okL [(w8.heap.size, some w9.heap.size, some 93)]) (okL []) A6 c_6 y3 ∧ Ow kSeg 93 w15.heap (okL [(w9.heap.size, some w10.heap.size, some 93)]) (okL []) A7 c_7 y4.1 ∧ Ow kSeg 93 w15.heap (okL [(w10.heap.size, some w11.heap.size, some 93)]) (okL []) A8 c_8 y5.1 ∧ Ow kSeg 93 w15.heap (okL [(w12.heap.size, some w13.heap.size, some 93)]) (okL []) A9 c_9 y6.1 ∧ Ext w w15 ∧ Box w15.heap b1 25 [.slice A1 p0.L.length c_1, .slice A2 p0.N.length c_2] ∧ Box w15.heap 0 gT (arrI .u8 64 tz) ∧ hermitagelaw1_SegTwos.j3 p0 k it3_0 it4_2 y2 y3 y4 y5 y6 (hermitagelaw1_SegTwos.l1 p0 k it3_0 (hermitagelaw1_SegTwos.l0 p0 k n1) n2) bt87_5 = some r) ?_ ?_
              ·
                refine CW.lex [.W, .L, .W, .W, .L, .X, .W, .W, .L, .W, .W, .L, .X, .W] rfl ?_
                refine RW.pure tabOk 1 rfl ?_
                have h43 := (((((h13.ext x4).ext x5).ext x6).ext x7).ext x8).ext x9
                refine RW.load tabOk [.slice A1 p0.L.length c_1] ((h43.at 0).take 1 rfl) ⟨rfl, rfl, rfl, rfl⟩ rfl rfl rfl rfl ?_
                refine RW.pure tabOk 1 rfl ?_
                obtain ⟨g3, H⟩ := guard_some H
                have h44 := (((((h14.ext x4).ext x5).ext x6).ext x7).ext x8).ext x9
                obtain ⟨ad3, A10, c_10, e3, a3, l5, h45⟩ := sl_at h44 g3.1 g3.2
                refine RW.index tabOk g3.1 g3.2 e3 ⟨rfl, rfl, rfl, rfl⟩ rfl rfl rfl rfl rfl rfl ?_
                refine RW.load tabOk [.slice A10 (rd p0.L it3_0).length c_10] a3 ⟨rfl, rfl, rfl, rfl⟩ rfl rfl rfl rfl ?_
                obtain ⟨y7, h46, H⟩ := bind_some H
                refine RW.callF (.inl rfl) ent12 ⟨rfl, rfl, rfl, rfl⟩ rfl rfl (hermitageref1_Segs.calls k A10 c_10 (rd p0.L it3_0) _ _ h45.all l5 h46) ?_
                rintro _ w16 ⟨rfl, x10⟩
                refine ⟨_, rfl, x10, ?_⟩
                have sx10 := x10.size
                refine RW.pure tabOk 1 rfl ?_
                by_cases c6 : y7 = true
                · rw [if_pos c6] at H
                  refine RW.bool 80 (b' := true) (c6) rfl ?_
                  refine RW.pure tabOk 1 rfl ?_
                  have h47 := h43.ext x10
                  refine RW.load tabOk [.slice A1 p0.L.length c_1] ((h47.at 0).take 1 rfl) ⟨rfl, rfl, rfl, rfl⟩ rfl rfl rfl rfl ?_
                  refine RW.pure tabOk 1 rfl ?_
                  obtain ⟨g4, H⟩ := guard_some H
                  have h48 := h44.ext x10
                  obtain ⟨ad4, A11, c_11, e4, a4, l6, h49⟩ := sl_at h48 g4.1 g4.2
                  refine RW.index tabOk g4.1 g4.2 e4 ⟨rfl, rfl, rfl, rfl⟩ rfl rfl rfl rfl rfl rfl ?_
                  refine RW.load tabOk [.slice A11 (rd p0.L it4_2).length c_11] a4 ⟨rfl, rfl, rfl, rfl⟩ rfl rfl rfl rfl ?_
                  obtain ⟨y8, h50, H⟩ := bind_some H
                  refine RW.callF (.inl rfl) ent12 ⟨rfl, rfl, rfl, rfl⟩ rfl rfl (hermitageref1_Segs.calls k A11 c_11 (rd p0.L it4_2) _ _ h49.all l6 h50) ?_
                  rintro _ w17 ⟨rfl, x11⟩
                  refine ⟨_, rfl, x11, ?_⟩
                  have sx11 := x11.size
                  refine RW.pure tabOk 1 rfl ?_
                  refine RW.done ?_
                  have h51 := h48.ext x11
                  have h52 := ((((((((gF2_3.ext x3).ext x4).ext x5).ext x6).ext x7).ext x8).ext x9).ext x10).ext x11
                  have h53 := ((h37.ext x9).ext x10).ext x11
                  have h54 := ((h36.ext x9).ext x10).ext x11
                  have h55 := ((((h28.ext x7).ext x8).ext x9).ext x10).ext x11
                  have h56 := (((h34.ext x8).ext x9).ext x10).ext x11
                  have h57 := (h42.ext x10).ext x11
                  have h58 := Ext.trans (Ext.trans (Ext.trans (Ext.trans (Ext.trans (Ext.trans (Ext.trans (Ext.trans (Ext.trans x0_3 x3) x4) x5) x6) x7) x8) x9) x10) x11
                  have h59 := h47.ext x11
                  have h60 := ((h39.ext x9).ext x10).ext x11
                  exact NW.J fun a ha => ⟨y8, ha.sub ⟨rfl, rfl, rfl, rfl, rfl, rfl, rfl, rfl, rfl, rfl, rfl, rfl, rfl, rfl, rfl, rfl, trivial⟩, by omega, h51, h52, h53, h54, h55, h56, h57, h58, h59, h60, H⟩
                · rw [if_neg c6] at H
                  refine RW.bool 80 (b' := false) (bool_f c6) rfl ?_
                  refine RW.pure tabOk 7 rfl ?_
                  refine RW.done ?_
                  have h61 := h44.ext x10
                  have h62 := (((((((gF2_3.ext x3).ext x4).ext x5).ext x6).ext x7).ext x8).ext x9).ext x10
                  have h63 := (h37.ext x9).ext x10
                  have h64 := (h36.ext x9).ext x10
                  have h65 := (((h28.ext x7).ext x8).ext x9).ext x10
                  have h66 := ((h34.ext x8).ext x9).ext x10
                  have h67 := h42.ext x10
                  have h68 := Ext.trans (Ext.trans (Ext.trans (Ext.trans (Ext.trans (Ext.trans (Ext.trans (Ext.trans x0_3 x3) x4) x5) x6) x7) x8) x9) x10
                  have h69 := h43.ext x10
                  have h70 := (h39.ext x9).ext x10
                  exact NW.J fun a ha => ⟨false, ha.sub ⟨rfl, rfl, rfl, rfl, rfl, rfl, rfl, rfl, rfl, rfl, rfl, rfl, rfl, rfl, rfl, rfl, trivial⟩, by omega, h61, h62, h63, h64, h65, h66, h67, h68, h69, h70, H⟩
              intro a w15 hJ hp
              obtain ⟨bt87_5, hS, hle, gF1_5, gF2_5, gF5_5, gF6_5, gF7_5, gF8_5, gF10_5, x0_5, gb1_5, g0_5, H⟩ := hJ
              unfold hermitagelaw1_SegTwos.j3 at H
              refine CW.go hp hS ?_
              by_cases c7 : bt87_5 = true
              · rw [if_pos c7] at H
                refine CW.cond_t rfl (c7) ?_
                refine CW.seq ?_
                refine CW.lex [.W] rfl ?_
                refine RW.pure tabOk 1 rfl ?_
                refine RW.done ?_
                refine NW.next ?_
                refine CW.ord [0, 1, 0, 7, 15, 0, 32, 0, 224, 480, 1023, 0, 2048, 0, 14336, 30720, 0, 65536, 0, 458752, 983040, 2097151, 0, 4194304, 0, 29360128, 62914560, 0, 134217728, 0, 939524096, 2013265920, 4294967295, 8589934591, 17179869183, 34359738367] [(0, .W), (2, .W), (5, .W), (7, .W), (11, .W), (13, .W), (16, .W), (18, .W), (22, .W), (24, .W), (27, .W), (29, .W), (1, .L), (3, .W), (4, .L), (6, .L), (8, .W), (9, .L), (12, .L), (14, .W), (15, .L), (17, .L), (19, .W), (20, .L), (23, .L), (25, .W), (26, .L), (28, .L), (30, .W), (31, .L), (10, .X), (21, .X), (32, .X), (33, .W), (34, .W), (35, .W)] mixed (by kernel_rfl) ?_
                intro w18 x12
                have sx12 := x12.size
                refine RW.pure tabOk 12 rfl ?_
                have h71 := gb1_5.ext x12
                refine RW.load tabOk [.slice A1 p0.L.length c_1] ((h71.at 0).take 1 rfl) ⟨rfl, rfl, rfl, rfl⟩ rfl rfl rfl rfl ?_
                obtain ⟨g5, H⟩ := guard_some H
                have h72 := gF1_5.ext x12
                obtain ⟨ad5, A12, c_12, e5, a5, l7, h73⟩ := sl_at h72 g5.1 g5.2
                refine RW.index tabOk g5.1 g5.2 e5 ⟨rfl, rfl, rfl, rfl⟩ rfl rfl rfl rfl rfl rfl ?_
                refine RW.load tabOk [.slice A12 (rd p0.L it3_0).length c_12] a5 ⟨rfl, rfl, rfl, rfl⟩ rfl rfl rfl rfl ?_
                refine RW.load tabOk [.slice A1 p0.L.length c_1] ((h71.at 0).take 1 rfl) ⟨rfl, rfl, rfl, rfl⟩ rfl rfl rfl rfl ?_
                obtain ⟨g6, H⟩ := guard_some H
                obtain ⟨ad6, A13, c_13, e6, a6, l8, h74⟩ := sl_at h72 g6.1 g6.2
                refine RW.index tabOk g6.1 g6.2 e6 ⟨rfl, rfl, rfl, rfl⟩ rfl rfl rfl rfl rfl rfl ?_
                refine RW.load tabOk [.slice A13 (rd p0.L it4_2).length c_13] a6 ⟨rfl, rfl, rfl, rfl⟩ rfl rfl rfl rfl ?_
                refine RW.load tabOk [.slice A1 p0.L.length c_1] ((h71.at 0).take 1 rfl) ⟨rfl, rfl, rfl, rfl⟩ rfl rfl rfl rfl ?_
                obtain ⟨g7, H⟩ := guard_some H
                obtain ⟨ad7, A14, c_14, e7, a7, l9, h75⟩ := sl_at h72 g7.1 g7.2
                refine RW.index tabOk g7.1 g7.2 e7 ⟨rfl, rfl, rfl, rfl⟩ rfl rfl rfl rfl rfl rfl ?_
                refine RW.load tabOk [.slice A14 (rd p0.L it3_0).length c_14] a7 ⟨rfl, rfl, rfl, rfl⟩ rfl rfl rfl rfl ?_
                refine RW.load tabOk [.slice A1 p0.L.length c_1] ((h71.at 0).take 1 rfl) ⟨rfl, rfl, rfl, rfl⟩ rfl rfl rfl rfl ?_
                obtain ⟨g8, H⟩ := guard_some H
                obtain ⟨ad8, A15, c_15, e8, a8, l10, h76⟩ := sl_at h72 g8.1 g8.2
                refine RW.index tabOk g8.1 g8.2 e8 ⟨rfl, rfl, rfl, rfl⟩ rfl rfl rfl rfl rfl rfl ?_
                refine RW.load tabOk [.slice A15 (rd p0.L it4_2).length c_15] a8 ⟨rfl, rfl, rfl, rfl⟩ rfl rfl rfl rfl ?_
                refine RW.load tabOk [.slice A1 p0.L.length c_1] ((h71.at 0).take 1 rfl) ⟨rfl, rfl, rfl, rfl⟩ rfl rfl rfl rfl ?_
                obtain ⟨g9, H⟩ := guard_some H
                obtain ⟨ad9, A16, c_16, e9, a9, l11, h77⟩ := sl_at h72 g9.1 g9.2
                refine RW.index tabOk g9.1 g9.2 e9 ⟨rfl, rfl, rfl, rfl⟩ rfl rfl rfl rfl rfl rfl ?_
                refine RW.load tabOk [.slice A16 (rd p0.L it3_0).length c_16] a9 ⟨rfl, rfl, rfl, rfl⟩ rfl rfl rfl rfl ?_
                refine RW.load tabOk [.slice A1 p0.L.length c_1] ((h71.at 0).take 1 rfl) ⟨rfl, rfl, rfl, rfl⟩ rfl rfl rfl rfl ?_
                obtain ⟨g10, H⟩ := guard_some H
                obtain ⟨ad10, A17, c_17, e10, a10, l12, h78⟩ := sl_at h72 g10.1 g10.2
                refine RW.index tabOk g10.1 g10.2 e10 ⟨rfl, rfl, rfl, rfl⟩ rfl rfl rfl rfl rfl rfl ?_
                refine RW.load tabOk [.slice A17 (rd p0.L it4_2).length c_17] a10 ⟨rfl, rfl, rfl, rfl⟩ rfl rfl rfl rfl ?_
                obtain ⟨y9, h79, H⟩ := bind_some H
                refine RW.callF (.inl rfl) ent20 ⟨rfl, rfl, rfl, rfl⟩ rfl rfl (hermitageref1_Two.calls k A12 c_12 (rd p0.L it3_0) A13 c_13 (rd p0.L it4_2) 0 _ _ h73.all l7 h74.all l8 h79) ?_
                rintro _ w19 ⟨A18, c_18, rfl, x13, h80⟩
                refine ⟨_, rfl, x13, ?_⟩
                have sx13 := x13.size
                have h81 : Ow kSeg 93 w19.heap (okL [(w18.heap.size, some w19.heap.size, some 93)]) (okL []) A18 c_18 y9 := h80.close
                have h82 := h75.ext x13
                have h83 := h76.ext x13
                obtain ⟨y10, h84, H⟩ := bind_some H
                refine RW.callF (.inl rfl) ent20 ⟨rfl, rfl, rfl, rfl⟩ rfl rfl (hermitageref1_Two.calls k A14 c_14 (rd p0.L it3_0) A15 c_15 (rd p0.L it4_2) 1 _ _ h82.all l9 h83.all l10 h84) ?_
                rintro _ w20 ⟨A19, c_19, rfl, x14, h85⟩
                refine ⟨_, rfl, x14, ?_⟩
                have sx14 := x14.size
                have h86 : Ow kSeg 93 w20.heap (okL [(w19.heap.size, some w20.heap.size, some 93)]) (okL []) A19 c_19 y10 := h85.close
                have h87 := (h77.ext x13).ext x14
                have h88 := (h78.ext x13).ext x14
                obtain ⟨y11, h89, H⟩ := bind_some H
                refine RW.callF (.inl rfl) ent20 ⟨rfl, rfl, rfl, rfl⟩ rfl rfl (hermitageref1_Two.calls k A16 c_16 (rd p0.L it3_0) A17 c_17 (rd p0.L it4_2) 2 _ _ h87.all l11 h88.all l12 h89) ?_
                rintro _ w21 ⟨A20, c_20, rfl, x15, h90⟩
                refine ⟨_, rfl, x15, ?_⟩
                have sx15 := x15.size
                have h91 : Ow kSeg 93 w21.heap (okL [(w20.heap.size, some w21.heap.size, some 93)]) (okL []) A20 c_20 y11 := h90.close
                refine RW.pure tabOk 3 rfl ?_
                refine RW.done ?_
                have h92 := h86.ext x15
                have h93 := (h81.ext x14).ext x15
                have h94 := ((h72.ext x13).ext x14).ext x15
                have h95 := (((gF2_5.ext x12).ext x13).ext x14).ext x15
                have h96 := (((gF5_5.ext x12).ext x13).ext x14).ext x15
                have h97 := (((gF6_5.ext x12).ext x13).ext x14).ext x15
                have h98 := (((gF7_5.ext x12).ext x13).ext x14).ext x15
                have h99 := (((gF8_5.ext x12).ext x13).ext x14).ext x15
                have h100 := (((gF10_5.ext x12).ext x13).ext x14).ext x15
                have h101 := Ext.trans (Ext.trans (Ext.trans (Ext.trans x0_5 x12) x13) x14) x15
                have h102 := ((h71.ext x13).ext x14).ext x15
                have h103 := (((g0_5.ext x12).ext x13).ext x14).ext x15
                exact NW.J fun a ha => ⟨0, y10, A19, c_19, y11, A20, c_20, y9, A18, c_18, ha.sub ⟨rfl, rfl, rfl, rfl, rfl, rfl, rfl, rfl, rfl, rfl, rfl, rfl, rfl, rfl, rfl, trivial⟩, by omega, (h92.sub ⟨(.inl ⟨by omega, trivial, rfl⟩), trivial⟩ trivial), (h91.sub ⟨(.inl ⟨by omega, trivial, rfl⟩), trivial⟩ trivial), (h93.sub ⟨(.inl ⟨by omega, trivial, rfl⟩), trivial⟩ trivial), h94, h95, h96, h97, h98, h99, h100, h101, h102, h103, H⟩
              · rw [if_neg c7] at H
                refine CW.cond_f rfl (bool_f c7) ?_
                refine CW.skip ?_
                exact NW.J fun a ha => ⟨1, ([] : List Seg), none, 0, ([] : List Seg), none, 0, ([] : List Seg), none, 0, ha.sub ⟨rfl, rfl, rfl, rfl, rfl, rfl, rfl, rfl, rfl, rfl, rfl, rfl, rfl, rfl, rfl, trivial⟩, by omega, Ow.nil, Ow.nil, Ow.nil, gF1_5, gF2_5, gF5_5, gF6_5, gF7_5, gF8_5, gF10_5, x0_5, gb1_5, g0_5, H⟩
            intro a w14 hJ hp
            obtain ⟨it13_4, lt14_4, At14_4, ct14_4, lt15_4, At15_4, ct15_4, lt16_4, At16_4, ct16_4, hS, hle, ft14_4, ft15_4, ft16_4, gF1_4, gF2_4, gF5_4, gF6_4, gF7_4, gF8_4, gF10_4, x0_4, gb1_4, g0_4, H⟩ := hJ
            unfold hermitagelaw1_SegTwos.j2 at H
            refine CW.go hp hS ?_
            have h104 : Ow kSeg 93 w14.heap (okL [(w13.heap.size, some w14.heap.size, some 93)]) (okL []) At14_4 ct14_4 lt14_4 := ft14_4.close
            have h105 : Ow kSeg 93 w14.heap (okL [(w13.heap.size, some w14.heap.size, some 93)]) (okL []) At15_4 ct15_4 lt15_4 := ft15_4.close
            have h106 : Ow kSeg 93 w14.heap (okL [(w13.heap.size, some w14.heap.size, some 93)]) (okL []) At16_4 ct16_4 lt16_4 := ft16_4.close
            refine CW.seq ?_
            refine CW.seqJ (fun a w22 => ∃ (bt174_6 : Bool), Sat 214 [(1, .pointer (some ⟨b1, 0, none⟩)), (3, .int .i64 it3_0), (4, .int .i64 it4_2), (5, .slice A5 y2.length c_5), (6, .slice A6 y3.length c_6), (7, .slice A7 y4.1.length c_7), (9, .slice A8 y5.1.length c_8), (11, .slice A9 y6.1.length c_9), (174, .bool bt174_6)] a ∧ w14.heap.size ≤ w22.heap.size ∧ Sl (Kd.sl kSeg) w22.heap (okL [(0, some w.heap.size, none)]) A1 p0.L ∧ Sl (Kd.int .i64) w22.heap (okL [(0, some w.heap.size, none)]) A2 p0.N ∧ Ow kSeg 93 w22.heap (okL [(w7.heap.size, some w8.heap.size, some 93)]) (okL []) A5 c_5 y2 ∧ Ow kSeg 93 w22.heap (okL [(w8.heap.size, some w9.heap.size, some 93)]) (okL []) A6 c_6 y3 ∧ Ow kSeg 93 w22.heap (okL [(w9.heap.size, some w10.heap.size, some 93)]) (okL []) A7 c_7 y4.1 ∧ Ow kSeg 93 w22.heap (okL [(w10.heap.size, some w11.heap.size, some 93)]) (okL []) A8 c_8 y5.1 ∧ Ow kSeg 93 w22.heap (okL [(w12.heap.size, some w13.heap.size, some 93)]) (okL []) A9 c_9 y6.1 ∧ Ext w w22 ∧ Box w22.heap b1 25 [.slice A1 p0.L.length c_1, .slice A2 p0.N.length c_2] ∧ Box w22.heap 0 gT (arrI .u8 64 tz) ∧ hermitagelaw1_SegTwos.j4 p0 k it3_0 it4_2 y2 y3 y4 y5 y6 (hermitagelaw1_SegTwos.l1 p0 k it3_0 (hermitagelaw1_SegTwos.l0 p0 k n1) n2) bt174_6 = some r) ?_ ?_
            ·
              refine CW.lex [.W, .X, .W, .W, .W, .W, .X, .W, .W, .W, .W, .W, .X, .W, .W, .W, .W, .W, .W, .X, .W, .W, .W, .W, .W, .X, .W, .W, .W, .W, .W, .X, .W, .W, .W, .W, .W, .L, .W, .W, .L, .X, .W, .W, .W, .W, .W, .L, .W, .W, .L, .X, .W, .W] rfl ?_
              refine RW.pure tabOk 1 rfl ?_
              obtain ⟨y12, h107, H⟩ := bind_some H
              refine RW.callF (.inl rfl) ent14 ⟨rfl, rfl, rfl, rfl⟩ rfl rfl (hermitagelaw1_num.calls y4.2 _ _ h107) ?_
              rintro _ w23 ⟨rfl, x16⟩
              refine ⟨_, rfl, x16, ?_⟩
              have sx16 := x16.size
              refine RW.pure tabOk 3 rfl ?_
              by_cases c8 : y12 = it13_4
              · rw [if_pos c8] at H
                refine RW.bool 125 (b' := false) (bne_f c8) rfl ?_
                refine RW.pure tabOk 1 rfl ?_
                obtain ⟨y13, h108, H⟩ := bind_some H
                refine RW.callF (.inl rfl) ent14 ⟨rfl, rfl, rfl, rfl⟩ rfl rfl (hermitagelaw1_num.calls y5.2 _ _ h108) ?_
                rintro _ w24 ⟨rfl, x17⟩
                refine ⟨_, rfl, x17, ?_⟩
                have sx17 := x17.size
                refine RW.pure tabOk 4 rfl ?_
                by_cases c9 : y13 = it13_4
                · rw [if_pos c9] at H
                  refine RW.bool 131 (b' := false) (bne_f c9) rfl ?_
                  refine RW.pure tabOk 1 rfl ?_
                  obtain ⟨y14, h109, H⟩ := bind_some H
                  refine RW.callF (.inl rfl) ent14 ⟨rfl, rfl, rfl, rfl⟩ rfl rfl (hermitagelaw1_num.calls y6.2 _ _ h109) ?_
                  rintro _ w25 ⟨rfl, x18⟩
                  refine ⟨_, rfl, x18, ?_⟩
                  have sx18 := x18.size
                  refine RW.pure tabOk 4 rfl ?_
                  by_cases c10 : y14 = it13_4
                  · rw [if_pos c10] at H
                    refine RW.bool 137 (b' := false) (bne_f c10) rfl ?_
                    refine RW.pure tabOk 2 rfl ?_
                    have h110 := ((gF7_4.ext x16).ext x17).ext x18
                    have h111 := ((h104.ext x16).ext x17).ext x18
                    obtain ⟨y15, h112, H⟩ := bind_some H
                    refine RW.callF (.inl rfl) ent15 ⟨rfl, rfl, rfl, rfl⟩ rfl rfl (hermitageref0_EqSegs.calls k A7 c_7 y4.1 At14_4 ct14_4 lt14_4 _ _ h110.all h110.len h111.all h111.len h112) ?_
                    rintro _ w26 ⟨rfl, x19⟩
                    refine ⟨_, rfl, x19, ?_⟩
                    have sx19 := x19.size
                    refine RW.pure tabOk 3 rfl ?_
                    by_cases c11 : y15 = true
                    · rw [if_pos c11] at H
                      refine RW.bool 143 (b' := false) (not_f (c11)) rfl ?_
                      refine RW.pure tabOk 2 rfl ?_
                      have h113 := (((gF8_4.ext x16).ext x17).ext x18).ext x19
                      have h114 := (((h105.ext x16).ext x17).ext x18).ext x19
                      obtain ⟨y16, h115, H⟩ := bind_some H
                      refine RW.callF (.inl rfl) ent15 ⟨rfl, rfl, rfl, rfl⟩ rfl rfl (hermitageref0_EqSegs.calls k A8 c_8 y5.1 At15_4 ct15_4 lt15_4 _ _ h113.all h113.len h114.all h114.len h115) ?_
                      rintro _ w27 ⟨rfl, x20⟩
                      refine ⟨_, rfl, x20, ?_⟩
                      have sx20 := x20.size
                      refine RW.pure tabOk 3 rfl ?_
                      by_cases c12 : y16 = true
                      · rw [if_pos c12] at H
                        refine RW.bool 149 (b' := false) (not_f (c12)) rfl ?_
                        refine RW.pure tabOk 2 rfl ?_
                        have h116 := ((((gF10_4.ext x16).ext x17).ext x18).ext x19).ext x20
                        have h117 := ((((h106.ext x16).ext x17).ext x18).ext x19).ext x20
                        obtain ⟨y17, h118, H⟩ := bind_some H
                        refine RW.callF (.inl rfl) ent15 ⟨rfl, rfl, rfl, rfl⟩ rfl rfl (hermitageref0_EqSegs.calls k A9 c_9 y6.1 At16_4 ct16_4 lt16_4 _ _ h116.all h116.len h117.all h117.len h118) ?_
                        rintro _ w28 ⟨rfl, x21⟩
                        refine ⟨_, rfl, x21, ?_⟩
                        have sx21 := x21.size
                        refine RW.pure tabOk 3 rfl ?_
                        by_cases c13 : y17 = true
                        · rw [if_pos c13] at H
                          refine RW.bool 155 (b' := false) (not_f (c13)) rfl ?_
                          refine RW.pure tabOk 2 rfl ?_
                          have h119 := (((((gb1_4.ext x16).ext x17).ext x18).ext x19).ext x20).ext x21
                          refine RW.load tabOk [.slice A1 p0.L.length c_1] ((h119.at 0).take 1 rfl) ⟨rfl, rfl, rfl, rfl⟩ rfl rfl rfl rfl ?_
                          refine RW.pure tabOk 1 rfl ?_
                          obtain ⟨g11, H⟩ := guard_some H
                          have h120 := (((((gF1_4.ext x16).ext x17).ext x18).ext x19).ext x20).ext x21
                          obtain ⟨ad11, A21, c_21, e11, a11, l13, h121⟩ := sl_at h120 g11.1 g11.2
                          refine RW.index tabOk g11.1 g11.2 e11 ⟨rfl, rfl, rfl, rfl⟩ rfl rfl rfl rfl rfl rfl ?_
                          refine RW.load tabOk [.slice A21 (rd p0.L it3_0).length c_21] a11 ⟨rfl, rfl, rfl, rfl⟩ rfl rfl rfl rfl ?_
                          have h122 := (((((gF5_4.ext x16).ext x17).ext x18).ext x19).ext x20).ext x21
                          obtain ⟨y18, h123, H⟩ := bind_some H
                          refine RW.callF (.inl rfl) ent15 ⟨rfl, rfl, rfl, rfl⟩ rfl rfl (hermitageref0_EqSegs.calls k A5 c_5 y2 A21 c_21 (rd p0.L it3_0) _ _ h122.all h122.len h121.all l13 h123) ?_
                          rintro _ w29 ⟨rfl, x22⟩
                          refine ⟨_, rfl, x22, ?_⟩
                          have sx22 := x22.size
                          refine RW.pure tabOk 3 rfl ?_
                          by_cases c14 : y18 = true
                          · rw [if_pos c14] at H
                            refine RW.bool 165 (b' := false) (not_f (c14)) rfl ?_
                            refine RW.pure tabOk 2 rfl ?_
                            have h124 := h119.ext x22
                            refine RW.load tabOk [.slice A1 p0.L.length c_1] ((h124.at 0).take 1 rfl) ⟨rfl, rfl, rfl, rfl⟩ rfl rfl rfl rfl ?_
                            refine RW.pure tabOk 1 rfl ?_
                            obtain ⟨g12, H⟩ := guard_some H
                            have h125 := h120.ext x22
                            obtain ⟨ad12, A22, c_22, e12, a12, l14, h126⟩ := sl_at h125 g12.1 g12.2
                            refine RW.index tabOk g12.1 g12.2 e12 ⟨rfl, rfl, rfl, rfl⟩ rfl rfl rfl rfl rfl rfl ?_
                            refine RW.load tabOk [.slice A22 (rd p0.L it4_2).length c_22] a12 ⟨rfl, rfl, rfl, rfl⟩ rfl rfl rfl rfl ?_
                            have h127 := ((((((gF6_4.ext x16).ext x17).ext x18).ext x19).ext x20).ext x21).ext x22
                            obtain ⟨y19, h128, H⟩ := bind_some H
                            refine RW.callF (.inl rfl) ent15 ⟨rfl, rfl, rfl, rfl⟩ rfl rfl (hermitageref0_EqSegs.calls k A6 c_6 y3 A22 c_22 (rd p0.L it4_2) _ _ h127.all h127.len h126.all l14 h128) ?_
                            rintro _ w30 ⟨rfl, x23⟩
                            refine ⟨_, rfl, x23, ?_⟩
                            have sx23 := x23.size
                            refine RW.pure tabOk 2 rfl ?_
                            refine RW.done ?_
                            have h129 := h125.ext x23
                            have h130 := (((((((gF2_4.ext x16).ext x17).ext x18).ext x19).ext x20).ext x21).ext x22).ext x23
                            have h131 := (h122.ext x22).ext x23
                            have h132 := h127.ext x23
                            have h133 := ((((h110.ext x19).ext x20).ext x21).ext x22).ext x23
                            have h134 := (((h113.ext x20).ext x21).ext x22).ext x23
                            have h135 := ((h116.ext x21).ext x22).ext x23
                            have h136 := Ext.trans (Ext.trans (Ext.trans (Ext.trans (Ext.trans (Ext.trans (Ext.trans (Ext.trans x0_4 x16) x17) x18) x19) x20) x21) x22) x23
                            have h137 := h124.ext x23
                            have h138 := (((((((g0_4.ext x16).ext x17).ext x18).ext x19).ext x20).ext x21).ext x22).ext x23
                            exact NW.J fun a ha => ⟨(!y19), ha.sub ⟨rfl, rfl, rfl, rfl, rfl, rfl, rfl, rfl, rfl, trivial⟩, by omega, h129, h130, h131, h132, h133, h134, h135, h136, h137, h138, H⟩
                          · rw [if_neg c14] at H
                            refine RW.bool 165 (b' := true) (not_t (bool_f c14)) rfl ?_
                            refine RW.pure tabOk 9 rfl ?_
                            refine RW.done ?_
                            have h139 := h120.ext x22
                            have h140 := ((((((gF2_4.ext x16).ext x17).ext x18).ext x19).ext x20).ext x21).ext x22
                            have h141 := h122.ext x22
                            have h142 := ((((((gF6_4.ext x16).ext x17).ext x18).ext x19).ext x20).ext x21).ext x22
                            have h143 := (((h110.ext x19).ext x20).ext x21).ext x22
                            have h144 := ((h113.ext x20).ext x21).ext x22
                            have h145 := (h116.ext x21).ext x22
                            have h146 := Ext.trans (Ext.trans (Ext.trans (Ext.trans (Ext.trans (Ext.trans (Ext.trans x0_4 x16) x17) x18) x19) x20) x21) x22
                            have h147 := h119.ext x22
                            have h148 := ((((((g0_4.ext x16).ext x17).ext x18).ext x19).ext x20).ext x21).ext x22
                            exact NW.J fun a ha => ⟨true, ha.sub ⟨rfl, rfl, rfl, rfl, rfl, rfl, rfl, rfl, rfl, trivial⟩, by omega, h139, h140, h141, h142, h143, h144, h145, h146, h147, h148, H⟩
                        · rw [if_neg c13] at H
                          refine RW.bool 155 (b' := true) (not_t (bool_f c13)) rfl ?_
                          refine RW.pure tabOk 19 rfl ?_
                          refine RW.done ?_
                          have h149 := (((((gF1_4.ext x16).ext x17).ext x18).ext x19).ext x20).ext x21
                          have h150 := (((((gF2_4.ext x16).ext x17).ext x18).ext x19).ext x20).ext x21
                          have h151 := (((((gF5_4.ext x16).ext x17).ext x18).ext x19).ext x20).ext x21
                          have h152 := (((((gF6_4.ext x16).ext x17).ext x18).ext x19).ext x20).ext x21
                          have h153 := ((h110.ext x19).ext x20).ext x21
                          have h154 := (h113.ext x20).ext x21
                          have h155 := h116.ext x21
                          have h156 := Ext.trans (Ext.trans (Ext.trans (Ext.trans (Ext.trans (Ext.trans x0_4 x16) x17) x18) x19) x20) x21
                          have h157 := (((((gb1_4.ext x16).ext x17).ext x18).ext x19).ext x20).ext x21
                          have h158 := (((((g0_4.ext x16).ext x17).ext x18).ext x19).ext x20).ext x21
                          exact NW.J fun a ha => ⟨true, ha.sub ⟨rfl, rfl, rfl, rfl, rfl, rfl, rfl, rfl, rfl, trivial⟩, by omega, h149, h150, h151, h152, h153, h154, h155, h156, h157, h158, H⟩
                      · rw [if_neg c12] at H
                        refine RW.bool 149 (b' := true) (not_t (bool_f c12)) rfl ?_
                        refine RW.pure tabOk 25 rfl ?_
                        refine RW.done ?_
                        have h159 := ((((gF1_4.ext x16).ext x17).ext x18).ext x19).ext x20
                        have h160 := ((((gF2_4.ext x16).ext x17).ext x18).ext x19).ext x20
                        have h161 := ((((gF5_4.ext x16).ext x17).ext x18).ext x19).ext x20
                        have h162 := ((((gF6_4.ext x16).ext x17).ext x18).ext x19).ext x20
                        have h163 := (h110.ext x19).ext x20
                        have h164 := h113.ext x20
                        have h165 := ((((gF10_4.ext x16).ext x17).ext x18).ext x19).ext x20
                        have h166 := Ext.trans (Ext.trans (Ext.trans (Ext.trans (Ext.trans x0_4 x16) x17) x18) x19) x20
                        have h167 := ((((gb1_4.ext x16).ext x17).ext x18).ext x19).ext x20
                        have h168 := ((((g0_4.ext x16).ext x17).ext x18).ext x19).ext x20
                        exact NW.J fun a ha => ⟨true, ha.sub ⟨rfl, rfl, rfl, rfl, rfl, rfl, rfl, rfl, rfl, trivial⟩, by omega, h159, h160, h161, h162, h163, h164, h165, h166, h167, h168, H⟩
                    · rw [if_neg c11] at H
                      refine RW.bool 143 (b' := true) (not_t (bool_f c11)) rfl ?_
                      refine RW.pure tabOk 31 rfl ?_
                      refine RW.done ?_
                      have h169 := (((gF1_4.ext x16).ext x17).ext x18).ext x19
                      have h170 := (((gF2_4.ext x16).ext x17).ext x18).ext x19
                      have h171 := (((gF5_4.ext x16).ext x17).ext x18).ext x19
                      have h172 := (((gF6_4.ext x16).ext x17).ext x18).ext x19
                      have h173 := h110.ext x19
                      have h174 := (((gF8_4.ext x16).ext x17).ext x18).ext x19
                      have h175 := (((gF10_4.ext x16).ext x17).ext x18).ext x19
                      have h176 := Ext.trans (Ext.trans (Ext.trans (Ext.trans x0_4 x16) x17) x18) x19
                      have h177 := (((gb1_4.ext x16).ext x17).ext x18).ext x19
                      have h178 := (((g0_4.ext x16).ext x17).ext x18).ext x19
                      exact NW.J fun a ha => ⟨true, ha.sub ⟨rfl, rfl, rfl, rfl, rfl, rfl, rfl, rfl, rfl, trivial⟩, by omega, h169, h170, h171, h172, h173, h174, h175, h176, h177, h178, H⟩
                  · rw [if_neg c10] at H
                    refine RW.bool 137 (b' := true) (bne_t c10) rfl ?_
                    refine RW.pure tabOk 37 rfl ?_
                    refine RW.done ?_
                    have h179 := ((gF1_4.ext x16).ext x17).ext x18
                    have h180 := ((gF2_4.ext x16).ext x17).ext x18
                    have h181 := ((gF5_4.ext x16).ext x17).ext x18
                    have h182 := ((gF6_4.ext x16).ext x17).ext x18
                    have h183 := ((gF7_4.ext x16).ext x17).ext x18
                    have h184 := ((gF8_4.ext x16).ext x17).ext x18
                    have h185 := ((gF10_4.ext x16).ext x17).ext x18
                    have h186 := Ext.trans (Ext.trans (Ext.trans x0_4 x16) x17) x18
                    have h187 := ((gb1_4.ext x16).ext x17).ext x18
                    have h188 := ((g0_4.ext x16).ext x17).ext x18
                    exact NW.J fun a ha => ⟨true, ha.sub ⟨rfl, rfl, rfl, rfl, rfl, rfl, rfl, rfl, rfl, trivial⟩, by omega, h179, h180, h181, h182, h183, h184, h185, h186, h187, h188, H⟩
                · rw [if_neg c9] at H
                  refine RW.bool 131 (b' := true) (bne_t c9) rfl ?_
                  refine RW.pure tabOk 43 rfl ?_
                  refine RW.done ?_
                  have h189 := (gF1_4.ext x16).ext x17
                  have h190 := (gF2_4.ext x16).ext x17
                  have h191 := (gF5_4.ext x16).ext x17
                  have h192 := (gF6_4.ext x16).ext x17
                  have h193 := (gF7_4.ext x16).ext x17
                  have h194 := (gF8_4.ext x16).ext x17
                  have h195 := (gF10_4.ext x16).ext x17
                  have h196 := Ext.trans (Ext.trans x0_4 x16) x17
                  have h197 := (gb1_4.ext x16).ext x17
                  have h198 := (g0_4.ext x16).ext x17
                  exact NW.J fun a ha => ⟨true, ha.sub ⟨rfl, rfl, rfl, rfl, rfl, rfl, rfl, rfl, rfl, trivial⟩, by omega, h189, h190, h191, h192, h193, h194, h195, h196, h197, h198, H⟩
              · rw [if_neg c8] at H
                refine RW.bool 125 (b' := true) (bne_t c8) rfl ?_
                refine RW.pure tabOk 49 rfl ?_
                refine RW.done ?_
                have h199 := gF1_4.ext x16
                have h200 := gF2_4.ext x16
                have h201 := gF5_4.ext x16
                have h202 := gF6_4.ext x16
                have h203 := gF7_4.ext x16
                have h204 := gF8_4.ext x16
                have h205 := gF10_4.ext x16
                have h206 := Ext.trans x0_4 x16
                have h207 := gb1_4.ext x16
                have h208 := g0_4.ext x16
                exact NW.J fun a ha => ⟨true, ha.sub ⟨rfl, rfl, rfl, rfl, rfl, rfl, rfl, rfl, rfl, trivial⟩, by omega, h199, h200, h201, h202, h203, h204, h205, h206, h207, h208, H⟩
            intro a w22 hJ hp
            obtain ⟨bt174_6, hS, hle, gF1_6, gF2_6, gF5_6, gF6_6, gF7_6, gF8_6, gF10_6, x0_6, gb1_6, g0_6, H⟩ := hJ
            unfold hermitagelaw1_SegTwos.j4 at H
            refine CW.go hp hS ?_
            by_cases c15 : bt174_6 = true
            · rw [if_pos c15] at H
              refine CW.cond_t rfl (c15) ?_
              refine CW.seq ?_
              refine CW.lex [.W] rfl ?_
              refine RW.pure tabOk 1 rfl ?_
              refine RW.done ?_
              refine NW.next ?_
              refine CW.ret ?_
              refine NW.ret_then (NW.ret_block (NW.ret_then (NW.ret_then (NW.ret_block (NW.ret_block (NW.ret_then (NW.ret_then (NW.ret_block (NW.ret_then ?_)))))))))
              obtain rfl := Option.some.inj H
              exact NW.ret1 rfl (by rfl) ⟨rfl, x0_6⟩
            · rw [if_neg c15] at H
              refine CW.cond_f rfl (bool_f c15) ?_
              refine CW.skip ?_
              refine NW.next ?_
              refine CW.seq ?_
              refine CW.lex [.W, .M] rfl ?_
              refine RW.pure tabOk 1 rfl ?_
              refine RW.callFM (R := fun e w31 => e = .returned (.tuple #[]) ∧ w22.heap.size ≤ w31.heap.size ∧ Sl (Kd.sl kSeg) w31.heap (okL [(0, some w.heap.size, none)]) A1 p0.L ∧ Sl (Kd.int .i64) w31.heap (okL [(0, some w.heap.size, none)]) A2 p0.N ∧ Ow kSeg 93 w31.heap (okL [(w7.heap.size, some w8.heap.size, some 93)]) (okL []) A5 c_5 y2 ∧ Ow kSeg 93 w31.heap (okL [(w8.heap.size, some w9.heap.size, some 93)]) (okL []) A6 c_6 y3 ∧ Ow kSeg 93 w31.heap (okL [(w10.heap.size, some w11.heap.size, some 93)]) (okL []) A8 c_8 y5.1 ∧ Ow kSeg 93 w31.heap (okL [(w12.heap.size, some w13.heap.size, some 93)]) (okL []) A9 c_9 y6.1 ∧ Ext w w31 ∧ Box w31.heap b1 25 [.slice A1 p0.L.length c_1, .slice A2 p0.N.length c_2] ∧ Box w31.heap 0 gT (arrI .u8 64 tz) ∧ hermitagelaw1_SegTwos.j5 p0 k it3_0 it4_2 y2 y3 y5 y6 (hermitagelaw1_SegTwos.l1 p0 k it3_0 (hermitagelaw1_SegTwos.l0 p0 k n1) n2) = some r) ent21 ⟨rfl, rfl, rfl, rfl⟩ rfl rfl rfl ?_ ?_
              ·
                refine calls_start Tryd.func21 rfl 13 rfl [.slice A7 y4.1.length c_7] rfl ?_
                refine CW.seq ?_
                refine CW.lex [.W] rfl ?_
                refine RW.pure tabOk 1 rfl ?_
                refine RW.done ?_
                refine NW.next ?_
                refine CW.block ?_
                refine CW.loop (fun n3 a w32 => ∃ (lt0_8 : List Seg) (At0_8 : Option Addr) (ct0_8 : Nat) (it2_8 : Int), Sat 13 [(0, .slice At0_8 lt0_8.length ct0_8), (2, .int .i64 it2_8)] a ∧ w22.heap.size ≤ w32.heap.size ∧ Ow kSeg 93 w32.heap (okL [(w9.heap.size, some w10.heap.size, some 93)]) (okL []) At0_8 ct0_8 lt0_8 ∧ Sl (Kd.sl kSeg) w32.heap (okL [(0, some w.heap.size, none)]) A1 p0.L ∧ Sl (Kd.int .i64) w32.heap (okL [(0, some w.heap.size, none)]) A2 p0.N ∧ Ow kSeg 93 w32.heap (okL [(w7.heap.size, some w8.heap.size, some 93)]) (okL []) A5 c_5 y2 ∧ Ow kSeg 93 w32.heap (okL [(w8.heap.size, some w9.heap.size, some 93)]) (okL []) A6 c_6 y3 ∧ Ow kSeg 93 w32.heap (okL [(w10.heap.size, some w11.heap.size, some 93)]) (okL []) A8 c_8 y5.1 ∧ Ow kSeg 93 w32.heap (okL [(w12.heap.size, some w13.heap.size, some 93)]) (okL []) A9 c_9 y6.1 ∧ Ext w w32 ∧ Box w32.heap b1 25 [.slice A1 p0.L.length c_1, .slice A2 p0.N.length c_2] ∧ Box w32.heap 0 gT (arrI .u8 64 tz) ∧ hermitagelaw1_SegTwos.l2 p0 k it3_0 it4_2 y2 y3 y5 y6 (hermitagelaw1_SegTwos.l1 p0 k it3_0 (hermitagelaw1_SegTwos.l0 p0 k n1) n2) n3 lt0_8 it2_8 = some r) k ?_ ?_
                · exact fun a ha => ⟨y4.1, A7, c_7, 0, ha.sub ⟨rfl, rfl, trivial⟩, by omega, (gF7_6.sub ⟨(.inl ⟨by omega, by omega, rfl⟩), trivial⟩ trivial), gF1_6, gF2_6, gF5_6, gF6_6, gF8_6, gF10_6, x0_6, gb1_6, g0_6, H⟩
                intro n3 a w32 hI hp
                obtain ⟨lt0_8, At0_8, ct0_8, it2_8, hS, hle, ft0_8, gF1_8, gF2_8, gF5_8, gF6_8, gF8_8, gF10_8, x0_8, gb1_8, g0_8, H⟩ := hI
                cases n3 with
                | zero => cases H
                | succ n3 =>
                  rw [hermitagelaw1_SegTwos.l2] at H
                  refine CW.go hp hS ?_
                  refine CW.seq ?_
                  refine CW.seq ?_
                  refine CW.lex [.W, .W, .W, .W] rfl ?_
                  refine RW.pure tabOk 4 rfl ?_
                  refine RW.done ?_
                  refine NW.next ?_
                  by_cases c16 : it2_8 < (lt0_8.length : Int)
                  · rw [if_pos c16] at H
                    refine CW.cond_t rfl (decide_eq_true c16) ?_
                    refine CW.skip ?_
                    refine NW.next ?_
                    refine CW.seq ?_
                    refine CW.block ?_
                    refine CW.lex [.W, .W, .W, .W, .M] rfl ?_
                    refine RW.pure tabOk 3 rfl ?_
                    obtain ⟨g13, H⟩ := guard_some H
                    obtain ⟨ad13, e13, a13⟩ := kSeg_at ft0_8.slL g13.1 g13.2
                    refine RW.index tabOk g13.1 g13.2 e13 ⟨rfl, rfl, rfl, rfl⟩ rfl rfl rfl rfl rfl rfl ?_
                    refine RW.storeElL0 (y := (⟨(-9), 0⟩ : Seg)) (lv := []) tabOk ft0_8 (j := it2_8.toNat) (by have := g13; omega) default [.int .i64 (-9), .int .i64 0] (fun cs ok' hr => by obtain rfl := kSeg_open hr; exact ⟨by simp, kSeg_mk (⟨(-9), 0⟩ : Seg)⟩) trivial ⟨rfl, rfl, rfl⟩ rfl rfl e13 rfl rfl rfl rfl rfl ?_
                    intro w33 x24 h209
                    have sx24 := x24.size
                    have h210 := h209.sub (l' := [(w9.heap.size, some w10.heap.size, some 93)]) (li' := []) ⟨(.inl ⟨by omega, by omega, rfl⟩), trivial⟩ trivial
                    refine RW.tell 0 (v' := .slice At0_8 (lt0_8.set it2_8.toNat (⟨(-9), 0⟩ : Seg)).length ct0_8) (slice_len (List.length_set).symm) rfl ?_
                    refine RW.done ?_
                    refine NW.norm_block (NW.next ?_)
                    refine CW.lex [.W, .W, .W] rfl ?_
                    refine RW.pure tabOk 3 rfl ?_
                    refine RW.done ?_
                    have h211 := gF1_8.turnL x24 ⟨⟨.inr (.inl (by omega)), trivial⟩, trivial⟩
                    have h212 := gF2_8.turnL x24 ⟨⟨.inr (.inl (by omega)), trivial⟩, trivial⟩
                    have h213 := gF5_8.turnL x24 ⟨⟨.inr (.inl (by omega)), trivial⟩, trivial⟩ trivial
                    have h214 := gF6_8.turnL x24 ⟨⟨.inr (.inl (by omega)), trivial⟩, trivial⟩ trivial
                    have h215 := gF8_8.turnL x24 ⟨⟨.inr (.inr (by omega)), trivial⟩, trivial⟩ trivial
                    have h216 := gF10_8.turnL x24 ⟨⟨.inr (.inr (by omega)), trivial⟩, trivial⟩ trivial
                    have h217 := Ext.turn x0_8 x24 ⟨by omega, trivial⟩
                    have h218 := gb1_8.turnL x24 (.inl (by decide))
                    have h219 := g0_8.turnL x24 (.inr ⟨⟨.inr (.inl (by omega)), trivial⟩, trivial⟩)
                    exact NW.J fun a ha => ⟨n3, Nat.lt_succ_self n3, (lt0_8.set it2_8.toNat (⟨(-9), 0⟩ : Seg)), At0_8, ct0_8, (w64 (it2_8 + 1)), ha.sub ⟨rfl, rfl, trivial⟩, by omega, (h210.sub ⟨(.inl ⟨by omega, by omega, rfl⟩), trivial⟩ trivial), h211, h212, h213, h214, h215, h216, h217, h218, h219, H⟩
                  · rw [if_neg c16] at H
                    refine CW.cond_f rfl (decide_eq_false c16) ?_
                    refine CW.exit ?_
                    refine NW.exit_then (NW.exit_then (NW.exit_hit ?_))
                    refine NW.end_ ?_
                    exact NW.ret0 rfl ⟨rfl, by omega, gF1_8, gF2_8, gF5_8, gF6_8, gF8_8, gF10_8, x0_8, gb1_8, g0_8, H⟩
              rintro _ w31 ⟨rfl, hle, gF1_7, gF2_7, gF5_7, gF6_7, gF8_7, gF10_7, x0_7, gb1_7, g0_7, H⟩
              refine ⟨_, rfl, ?_⟩
              unfold hermitagelaw1_SegTwos.j5 at H
              refine RW.done ?_
              refine NW.next ?_
              refine CW.seq ?_
              refine CW.lex [.W, .M] rfl ?_
              refine RW.pure tabOk 1 rfl ?_
              refine RW.callFM (R := fun e w34 => e = .returned (.tuple #[]) ∧ w31.heap.size ≤ w34.heap.size ∧ Sl (Kd.sl kSeg) w34.heap (okL [(0, some w.heap.size, none)]) A1 p0.L ∧ Sl (Kd.int .i64) w34.heap (okL [(0, some w.heap.size, none)]) A2 p0.N ∧ Ow kSeg 93 w34.heap (okL [(w7.heap.size, some w8.heap.size, some 93)]) (okL []) A5 c_5 y2 ∧ Ow kSeg 93 w34.heap (okL [(w8.heap.size, some w9.heap.size, some 93)]) (okL []) A6 c_6 y3 ∧ Ow kSeg 93 w34.heap (okL [(w12.heap.size, some w13.heap.size, some 93)]) (okL []) A9 c_9 y6.1 ∧ Ext w w34 ∧ Box w34.heap b1 25 [.slice A1 p0.L.length c_1, .slice A2 p0.N.length c_2] ∧ Box w34.heap 0 gT (arrI .u8 64 tz) ∧ hermitagelaw1_SegTwos.j6 p0 k it3_0 it4_2 y2 y3 y6 (hermitagelaw1_SegTwos.l1 p0 k it3_0 (hermitagelaw1_SegTwos.l0 p0 k n1) n2) = some r) ent21 ⟨rfl, rfl, rfl, rfl⟩ rfl rfl rfl ?_ ?_
              ·
                refine calls_start Tryd.func21 rfl 13 rfl [.slice A8 y5.1.length c_8] rfl ?_
                refine CW.seq ?_
                refine CW.lex [.W] rfl ?_
                refine RW.pure tabOk 1 rfl ?_
                refine RW.done ?_
                refine NW.next ?_
                refine CW.block ?_
                refine CW.loop (fun n4 a w35 => ∃ (lt0_10 : List Seg) (At0_10 : Option Addr) (ct0_10 : Nat) (it2_10 : Int), Sat 13 [(0, .slice At0_10 lt0_10.length ct0_10), (2, .int .i64 it2_10)] a ∧ w31.heap.size ≤ w35.heap.size ∧ Ow kSeg 93 w35.heap (okL [(w10.heap.size, some w11.heap.size, some 93)]) (okL []) At0_10 ct0_10 lt0_10 ∧ Sl (Kd.sl kSeg) w35.heap (okL [(0, some w.heap.size, none)]) A1 p0.L ∧ Sl (Kd.int .i64) w35.heap (okL [(0, some w.heap.size, none)]) A2 p0.N ∧ Ow kSeg 93 w35.heap (okL [(w7.heap.size, some w8.heap.size, some 93)]) (okL []) A5 c_5 y2 ∧ Ow kSeg 93 w35.heap (okL [(w8.heap.size, some w9.heap.size, some 93)]) (okL []) A6 c_6 y3 ∧ Ow kSeg 93 w35.heap (okL [(w12.heap.size, some w13.heap.size, some 93)]) (okL []) A9 c_9 y6.1 ∧ Ext w w35 ∧ Box w35.heap b1 25 [.slice A1 p0.L.length c_1, .slice A2 p0.N.length c_2] ∧ Box w35.heap 0 gT (arrI .u8 64 tz) ∧ hermitagelaw1_SegTwos.l3 p0 k it3_0 it4_2 y2 y3 y6 (hermitagelaw1_SegTwos.l1 p0 k it3_0 (hermitagelaw1_SegTwos.l0 p0 k n1) n2) n4 lt0_10 it2_10 = some r) k ?_ ?_
                · exact fun a ha => ⟨y5.1, A8, c_8, 0, ha.sub ⟨rfl, rfl, trivial⟩, by omega, (gF8_7.sub ⟨(.inl ⟨by omega, by omega, rfl⟩), trivial⟩ trivial), gF1_7, gF2_7, gF5_7, gF6_7, gF10_7, x0_7, gb1_7, g0_7, H⟩
                intro n4 a w35 hI hp
                obtain ⟨lt0_10, At0_10, ct0_10, it2_10, hS, hle, ft0_10, gF1_10, gF2_10, gF5_10, gF6_10, gF10_10, x0_10, gb1_10, g0_10, H⟩ := hI
                cases n4 with
                | zero => cases H
                | succ n4 =>
                  rw [hermitagelaw1_SegTwos.l3] at H
                  refine CW.go hp hS ?_
                  refine CW.seq ?_
                  refine CW.seq ?_
                  refine CW.lex [.W, .W, .W, .W] rfl ?_
                  refine RW.pure tabOk 4 rfl ?_
                  refine RW.done ?_
                  refine NW.next ?_
                  by_cases c17 : it2_10 < (lt0_10.length : Int)
                  · rw [if_pos c17] at H
                    refine CW.cond_t rfl (decide_eq_true c17) ?_
                    refine CW.skip ?_
                    refine NW.next ?_
                    refine CW.seq ?_
                    refine CW.block ?_
                    refine CW.lex [.W, .W, .W, .W, .M] rfl ?_
                    refine RW.pure tabOk 3 rfl ?_
                    obtain ⟨g14, H⟩ := guard_some H
                    obtain ⟨ad14, e14, a14⟩ := kSeg_at ft0_10.slL g14.1 g14.2
                    refine RW.index tabOk g14.1 g14.2 e14 ⟨rfl, rfl, rfl, rfl⟩ rfl rfl rfl rfl rfl rfl ?_
                    refine RW.storeElL0 (y := (⟨(-9), 0⟩ : Seg)) (lv := []) tabOk ft0_10 (j := it2_10.toNat) (by have := g14; omega) default [.int .i64 (-9), .int .i64 0] (fun cs ok' hr => by obtain rfl := kSeg_open hr; exact ⟨by simp, kSeg_mk (⟨(-9), 0⟩ : Seg)⟩) trivial ⟨rfl, rfl, rfl⟩ rfl rfl e14 rfl rfl rfl rfl rfl ?_
                    intro w36 x25 h220
                    have sx25 := x25.size
                    have h221 := h220.sub (l' := [(w10.heap.size, some w11.heap.size, some 93)]) (li' := []) ⟨(.inl ⟨by omega, by omega, rfl⟩), trivial⟩ trivial
                    refine RW.tell 0 (v' := .slice At0_10 (lt0_10.set it2_10.toNat (⟨(-9), 0⟩ : Seg)).length ct0_10) (slice_len (List.length_set).symm) rfl ?_
                    refine RW.done ?_
                    refine NW.norm_block (NW.next ?_)
                    refine CW.lex [.W, .W, .W] rfl ?_
                    refine RW.pure tabOk 3 rfl ?_
                    refine RW.done ?_
                    have h222 := gF1_10.turnL x25 ⟨⟨.inr (.inl (by omega)), trivial⟩, trivial⟩
                    have h223 := gF2_10.turnL x25 ⟨⟨.inr (.inl (by omega)), trivial⟩, trivial⟩
                    have h224 := gF5_10.turnL x25 ⟨⟨.inr (.inl (by omega)), trivial⟩, trivial⟩ trivial
                    have h225 := gF6_10.turnL x25 ⟨⟨.inr (.inl (by omega)), trivial⟩, trivial⟩ trivial
                    have h226 := gF10_10.turnL x25 ⟨⟨.inr (.inr (by omega)), trivial⟩, trivial⟩ trivial
                    have h227 := Ext.turn x0_10 x25 ⟨by omega, trivial⟩
                    have h228 := gb1_10.turnL x25 (.inl (by decide))
                    have h229 := g0_10.turnL x25 (.inr ⟨⟨.inr (.inl (by omega)), trivial⟩, trivial⟩)
                    exact NW.J fun a ha => ⟨n4, Nat.lt_succ_self n4, (lt0_10.set it2_10.toNat (⟨(-9), 0⟩ : Seg)), At0_10, ct0_10, (w64 (it2_10 + 1)), ha.sub ⟨rfl, rfl, trivial⟩, by omega, (h221.sub ⟨(.inl ⟨by omega, by omega, rfl⟩), trivial⟩ trivial), h222, h223, h224, h225, h226, h227, h228, h229, H⟩
                  · rw [if_neg c17] at H
                    refine CW.cond_f rfl (decide_eq_false c17) ?_
                    refine CW.exit ?_
                    refine NW.exit_then (NW.exit_then (NW.exit_hit ?_))
                    refine NW.end_ ?_
                    exact NW.ret0 rfl ⟨rfl, by omega, gF1_10, gF2_10, gF5_10, gF6_10, gF10_10, x0_10, gb1_10, g0_10, H⟩
              rintro _ w34 ⟨rfl, hle, gF1_9, gF2_9, gF5_9, gF6_9, gF10_9, x0_9, gb1_9, g0_9, H⟩
              refine ⟨_, rfl, ?_⟩
              unfold hermitagelaw1_SegTwos.j6 at H
              refine RW.done ?_
              refine NW.next ?_
              refine CW.seq ?_
              refine CW.lex [.W, .M] rfl ?_
              refine RW.pure tabOk 1 rfl ?_
              refine RW.callFM (R := fun e w37 => e = .returned (.tuple #[]) ∧ w34.heap.size ≤ w37.heap.size ∧ Sl (Kd.sl kSeg) w37.heap (okL [(0, some w.heap.size, none)]) A1 p0.L ∧ Sl (Kd.int .i64) w37.heap (okL [(0, some w.heap.size, none)]) A2 p0.N ∧ Ow kSeg 93 w37.heap (okL [(w7.heap.size, some w8.heap.size, some 93)]) (okL []) A5 c_5 y2 ∧ Ow kSeg 93 w37.heap (okL [(w8.heap.size, some w9.heap.size, some 93)]) (okL []) A6 c_6 y3 ∧ Ext w w37 ∧ Box w37.heap b1 25 [.slice A1 p0.L.length c_1, .slice A2 p0.N.length c_2] ∧ Box w37.heap 0 gT (arrI .u8 64 tz) ∧ hermitagelaw1_SegTwos.j7 p0 k it3_0 it4_2 y2 y3 (hermitagelaw1_SegTwos.l1 p0 k it3_0 (hermitagelaw1_SegTwos.l0 p0 k n1) n2) = some r) ent21 ⟨rfl, rfl, rfl, rfl⟩ rfl rfl rfl ?_ ?_
              ·
                refine calls_start Tryd.func21 rfl 13 rfl [.slice A9 y6.1.length c_9] rfl ?_
                refine CW.seq ?_
                refine CW.lex [.W] rfl ?_
                refine RW.pure tabOk 1 rfl ?_
                refine RW.done ?_
                refine NW.next ?_
                refine CW.block ?_
                refine CW.loop (fun n5 a w38 => ∃ (lt0_12 : List Seg) (At0_12 : Option Addr) (ct0_12 : Nat) (it2_12 : Int), Sat 13 [(0, .slice At0_12 lt0_12.length ct0_12), (2, .int .i64 it2_12)] a ∧ w34.heap.size ≤ w38.heap.size ∧ Ow kSeg 93 w38.heap (okL [(w12.heap.size, some w13.heap.size, some 93)]) (okL []) At0_12 ct0_12 lt0_12 ∧ Sl (Kd.sl kSeg) w38.heap (okL [(0, some w.heap.size, none)]) A1 p0.L ∧ Sl (Kd.int .i64) w38.heap (okL [(0, some w.heap.size, none)]) A2 p0.N ∧ Ow kSeg 93 w38.heap (okL [(w7.heap.size, some w8.heap.size, some 93)]) (okL []) A5 c_5 y2 ∧ Ow kSeg 93 w38.heap (okL [(w8.heap.size, some w9.heap.size, some 93)]) (okL []) A6 c_6 y3 ∧ Ext w w38 ∧ Box w38.heap b1 25 [.slice A1 p0.L.length c_1, .slice A2 p0.N.length c_2] ∧ Box w38.heap 0 gT (arrI .u8 64 tz) ∧ hermitagelaw1_SegTwos.l4 p0 k it3_0 it4_2 y2 y3 (hermitagelaw1_SegTwos.l1 p0 k it3_0 (hermitagelaw1_SegTwos.l0 p0 k n1) n2) n5 lt0_12 it2_12 = some r) k ?_ ?_
                · exact fun a ha => ⟨y6.1, A9, c_9, 0, ha.sub ⟨rfl, rfl, trivial⟩, by omega, (gF10_9.sub ⟨(.inl ⟨by omega, by omega, rfl⟩), trivial⟩ trivial), gF1_9, gF2_9, gF5_9, gF6_9, x0_9, gb1_9, g0_9, H⟩
                intro n5 a w38 hI hp
                obtain ⟨lt0_12, At0_12, ct0_12, it2_12, hS, hle, ft0_12, gF1_12, gF2_12, gF5_12, gF6_12, x0_12, gb1_12, g0_12, H⟩ := hI
                cases n5 with
                | zero => cases H
                | succ n5 =>
                  rw [hermitagelaw1_SegTwos.l4] at H
                  refine CW.go hp hS ?_
                  refine CW.seq ?_
                  refine CW.seq ?_
                  refine CW.lex [.W, .W, .W, .W] rfl ?_
                  refine RW.pure tabOk 4 rfl ?_
                  refine RW.done ?_
                  refine NW.next ?_
                  by_cases c18 : it2_12 < (lt0_12.length : Int)
                  · rw [if_pos c18] at H
                    refine CW.cond_t rfl (decide_eq_true c18) ?_
                    refine CW.skip ?_
                    refine NW.next ?_
                    refine CW.seq ?_
                    refine CW.block ?_
                    refine CW.lex [.W, .W, .W, .W, .M] rfl ?_
                    refine RW.pure tabOk 3 rfl ?_
                    obtain ⟨g15, H⟩ := guard_some H
                    obtain ⟨ad15, e15, a15⟩ := kSeg_at ft0_12.slL g15.1 g15.2
                    refine RW.index tabOk g15.1 g15.2 e15 ⟨rfl, rfl, rfl, rfl⟩ rfl rfl rfl rfl rfl rfl ?_
                    refine RW.storeElL0 (y := (⟨(-9), 0⟩ : Seg)) (lv := []) tabOk ft0_12 (j := it2_12.toNat) (by have := g15; omega) default [.int .i64 (-9), .int .i64 0] (fun cs ok' hr => by obtain rfl := kSeg_open hr; exact ⟨by simp, kSeg_mk (⟨(-9), 0⟩ : Seg)⟩) trivial ⟨rfl, rfl, rfl⟩ rfl rfl e15 rfl rfl rfl rfl rfl ?_
                    intro w39 x26 h230
                    have sx26 := x26.size
                    have h231 := h230.sub (l' := [(w12.heap.size, some w13.heap.size, some 93)]) (li' := []) ⟨(.inl ⟨by omega, by omega, rfl⟩), trivial⟩ trivial
                    refine RW.tell 0 (v' := .slice At0_12 (lt0_12.set it2_12.toNat (⟨(-9), 0⟩ : Seg)).length ct0_12) (slice_len (List.length_set).symm) rfl ?_
                    refine RW.done ?_
                    refine NW.norm_block (NW.next ?_)
                    refine CW.lex [.W, .W, .W] rfl ?_
                    refine RW.pure tabOk 3 rfl ?_
                    refine RW.done ?_
                    have h232 := gF1_12.turnL x26 ⟨⟨.inr (.inl (by omega)), trivial⟩, trivial⟩
                    have h233 := gF2_12.turnL x26 ⟨⟨.inr (.inl (by omega)), trivial⟩, trivial⟩
                    have h234 := gF5_12.turnL x26 ⟨⟨.inr (.inl (by omega)), trivial⟩, trivial⟩ trivial
                    have h235 := gF6_12.turnL x26 ⟨⟨.inr (.inl (by omega)), trivial⟩, trivial⟩ trivial
                    have h236 := Ext.turn x0_12 x26 ⟨by omega, trivial⟩
                    have h237 := gb1_12.turnL x26 (.inl (by decide))
                    have h238 := g0_12.turnL x26 (.inr ⟨⟨.inr (.inl (by omega)), trivial⟩, trivial⟩)
                    exact NW.J fun a ha => ⟨n5, Nat.lt_succ_self n5, (lt0_12.set it2_12.toNat (⟨(-9), 0⟩ : Seg)), At0_12, ct0_12, (w64 (it2_12 + 1)), ha.sub ⟨rfl, rfl, trivial⟩, by omega, (h231.sub ⟨(.inl ⟨by omega, by omega, rfl⟩), trivial⟩ trivial), h232, h233, h234, h235, h236, h237, h238, H⟩
                  · rw [if_neg c18] at H
                    refine CW.cond_f rfl (decide_eq_false c18) ?_
                    refine CW.exit ?_
                    refine NW.exit_then (NW.exit_then (NW.exit_hit ?_))
                    refine NW.end_ ?_
                    exact NW.ret0 rfl ⟨rfl, by omega, gF1_12, gF2_12, gF5_12, gF6_12, x0_12, gb1_12, g0_12, H⟩
              rintro _ w37 ⟨rfl, hle, gF1_11, gF2_11, gF5_11, gF6_11, x0_11, gb1_11, g0_11, H⟩
              refine ⟨_, rfl, ?_⟩
              unfold hermitagelaw1_SegTwos.j7 at H
              refine RW.done ?_
              refine NW.next ?_
              refine CW.seqJ (fun a w40 => ∃ (bt198_13 : Bool), Sat 214 [(1, .pointer (some ⟨b1, 0, none⟩)), (3, .int .i64 it3_0), (4, .int .i64 it4_2), (198, .bool bt198_13)] a ∧ w37.heap.size ≤ w40.heap.size ∧ Sl (Kd.sl kSeg) w40.heap (okL [(0, some w.heap.size, none)]) A1 p0.L ∧ Sl (Kd.int .i64) w40.heap (okL [(0, some w.heap.size, none)]) A2 p0.N ∧ Ext w w40 ∧ Box w40.heap b1 25 [.slice A1 p0.L.length c_1, .slice A2 p0.N.length c_2] ∧ Box w40.heap 0 gT (arrI .u8 64 tz) ∧ hermitagelaw1_SegTwos.j8 it4_2 (hermitagelaw1_SegTwos.l1 p0 k it3_0 (hermitagelaw1_SegTwos.l0 p0 k n1) n2) bt198_13 = some r) ?_ ?_
              ·
                refine CW.lex [.W, .W, .L, .W, .W, .L, .X, .W, .W, .W, .W, .L, .W, .W, .L, .X, .W, .W] rfl ?_
                refine RW.pure tabOk 2 rfl ?_
                refine RW.load tabOk [.slice A1 p0.L.length c_1] ((gb1_11.at 0).take 1 rfl) ⟨rfl, rfl, rfl, rfl⟩ rfl rfl rfl rfl ?_
                refine RW.pure tabOk 1 rfl ?_
                obtain ⟨g16, H⟩ := guard_some H
                obtain ⟨ad16, A23, c_23, e16, a16, l15, h239⟩ := sl_at gF1_11 g16.1 g16.2
                refine RW.index tabOk g16.1 g16.2 e16 ⟨rfl, rfl, rfl, rfl⟩ rfl rfl rfl rfl rfl rfl ?_
                refine RW.load tabOk [.slice A23 (rd p0.L it3_0).length c_23] a16 ⟨rfl, rfl, rfl, rfl⟩ rfl rfl rfl rfl ?_
                obtain ⟨y20, h240, H⟩ := bind_some H
                refine RW.callF (.inl rfl) ent15 ⟨rfl, rfl, rfl, rfl⟩ rfl rfl (hermitageref0_EqSegs.calls k A5 c_5 y2 A23 c_23 (rd p0.L it3_0) _ _ gF5_11.all gF5_11.len h239.all l15 h240) ?_
                rintro _ w41 ⟨rfl, x27⟩
                refine ⟨_, rfl, x27, ?_⟩
                have sx27 := x27.size
                refine RW.pure tabOk 2 rfl ?_
                by_cases c19 : y20 = true
                · rw [if_pos c19] at H
                  refine RW.bool 189 (b' := false) (not_f (c19)) rfl ?_
                  refine RW.pure tabOk 2 rfl ?_
                  have h241 := gb1_11.ext x27
                  refine RW.load tabOk [.slice A1 p0.L.length c_1] ((h241.at 0).take 1 rfl) ⟨rfl, rfl, rfl, rfl⟩ rfl rfl rfl rfl ?_
                  refine RW.pure tabOk 1 rfl ?_
                  obtain ⟨g17, H⟩ := guard_some H
                  have h242 := gF1_11.ext x27
                  obtain ⟨ad17, A24, c_24, e17, a17, l16, h243⟩ := sl_at h242 g17.1 g17.2
                  refine RW.index tabOk g17.1 g17.2 e17 ⟨rfl, rfl, rfl, rfl⟩ rfl rfl rfl rfl rfl rfl ?_
                  refine RW.load tabOk [.slice A24 (rd p0.L it4_2).length c_24] a17 ⟨rfl, rfl, rfl, rfl⟩ rfl rfl rfl rfl ?_
                  have h244 := gF6_11.ext x27
                  obtain ⟨y21, h245, H⟩ := bind_some H
                  refine RW.callF (.inl rfl) ent15 ⟨rfl, rfl, rfl, rfl⟩ rfl rfl (hermitageref0_EqSegs.calls k A6 c_6 y3 A24 c_24 (rd p0.L it4_2) _ _ h244.all h244.len h243.all l16 h245) ?_
                  rintro _ w42 ⟨rfl, x28⟩
                  refine ⟨_, rfl, x28, ?_⟩
                  have sx28 := x28.size
                  refine RW.pure tabOk 2 rfl ?_
                  refine RW.done ?_
                  have h246 := h242.ext x28
                  have h247 := (gF2_11.ext x27).ext x28
                  have h248 := Ext.trans (Ext.trans x0_11 x27) x28
                  have h249 := h241.ext x28
                  have h250 := (g0_11.ext x27).ext x28
                  exact NW.J fun a ha => ⟨(!y21), ha.sub ⟨rfl, rfl, rfl, rfl, trivial⟩, by omega, h246, h247, h248, h249, h250, H⟩
                · rw [if_neg c19] at H
                  refine RW.bool 189 (b' := true) (not_t (bool_f c19)) rfl ?_
                  refine RW.pure tabOk 9 rfl ?_
                  refine RW.done ?_
                  have h251 := gF1_11.ext x27
                  have h252 := gF2_11.ext x27
                  have h253 := Ext.trans x0_11 x27
                  have h254 := gb1_11.ext x27
                  have h255 := g0_11.ext x27
                  exact NW.J fun a ha => ⟨true, ha.sub ⟨rfl, rfl, rfl, rfl, trivial⟩, by omega, h251, h252, h253, h254, h255, H⟩
              intro a w40 hJ hp
              obtain ⟨bt198_13, hS, hle, gF1_13, gF2_13, x0_13, gb1_13, g0_13, H⟩ := hJ
              unfold hermitagelaw1_SegTwos.j8 at H
              refine CW.go hp hS ?_
              by_cases c20 : bt198_13 = true
              · rw [if_pos c20] at H
                refine CW.cond_t rfl (c20) ?_
                refine CW.seq ?_
                refine CW.lex [.W] rfl ?_
                refine RW.pure tabOk 1 rfl ?_
                refine RW.done ?_
                refine NW.next ?_
                refine CW.ret ?_
                refine NW.ret_block (NW.ret_then (NW.ret_then (NW.ret_block (NW.ret_block (NW.ret_then (NW.ret_then (NW.ret_block (NW.ret_then ?_))))))))
                obtain rfl := Option.some.inj H
                exact NW.ret1 rfl (by rfl) ⟨rfl, x0_13⟩
              · rw [if_neg c20] at H
                refine CW.cond_f rfl (bool_f c20) ?_
                refine CW.skip ?_
                refine NW.norm_block (NW.next ?_)
                refine CW.lex [.W, .W, .W] rfl ?_
                refine RW.pure tabOk 3 rfl ?_
                refine RW.done ?_
                exact NW.J fun a ha => ⟨n2, Nat.lt_succ_self n2, (w64 (it4_2 + 1)), ha.sub ⟨rfl, rfl, rfl, trivial⟩, by omega, gF1_13, gF2_13, x0_13, gb1_13, g0_13, H⟩
          · rw [if_neg c5] at H
            refine CW.cond_f rfl (bool_f c5) ?_
            refine CW.exit ?_
            refine NW.exit_then (NW.exit_then (NW.exit_hit ?_))
            refine NW.norm_block (NW.next ?_)
            refine CW.lex [.W, .W, .W] rfl ?_
            refine RW.pure tabOk 3 rfl ?_
            refine RW.done ?_
            exact NW.J fun a ha => ⟨n1, Nat.lt_succ_self n1, (w64 (it3_0 + 1)), ha.sub ⟨rfl, rfl, trivial⟩, by omega, gF1_3, gF2_3, x0_3, gb1_3, g0_3, H⟩
      · rw [if_neg c3] at H
        refine CW.cond_f rfl (bool_f c3) ?_
        refine CW.exit ?_
        refine NW.exit_then (NW.exit_then (NW.exit_hit ?_))
        refine NW.next ?_
        refine CW.seq ?_
        refine CW.lex [.X, .W, .W, .W, .W, .W] rfl ?_
        obtain ⟨y22, h256, H⟩ := bind_some H
        refine RW.callF (.inl rfl) ent13 ⟨rfl, rfl, rfl, rfl⟩ rfl rfl (seg_Join.calls k none 0 ([] : List (List Seg)) _ _ Sl.nil (Nat.le_refl 0) g0_1 h256) ?_
        rintro _ w43 ⟨A25, c_25, rfl, x29, h257⟩
        refine ⟨_, rfl, x29, ?_⟩
        have sx29 := x29.size
        have h258 : Ow kSeg 93 w43.heap (okL [(w4.heap.size, some w43.heap.size, some 93)]) (okL []) A25 c_25 y22.1 := h257.close
        refine RW.pure tabOk 5 rfl ?_
        refine RW.done ?_
        refine NW.next ?_
        refine CW.seq ?_
        refine CW.lex [.W, .X, .W, .W, .W, .W, .W, .W, .W, .X, .W, .W] rfl ?_
        refine RW.pure tabOk 1 rfl ?_
        obtain ⟨y23, h259, H⟩ := bind_some H
        refine RW.callF (.inl rfl) ent14 ⟨rfl, rfl, rfl, rfl⟩ rfl rfl (hermitagelaw1_num.calls y22.2 _ _ h259) ?_
        rintro _ w44 ⟨rfl, x30⟩
        refine ⟨_, rfl, x30, ?_⟩
        have sx30 := x30.size
        refine RW.pure tabOk 2 rfl ?_
        by_cases c21 : y23 = 0
        · rw [if_pos c21] at H
          refine RW.bool 206 (b' := true) (beq_t c21) rfl ?_
          refine RW.pure tabOk 5 rfl ?_
          by_cases c22 : (y22.1.length : Int) = 0
          · rw [if_pos c22] at H
            refine RW.bool 211 (b' := true) (beq_t c22) rfl ?_
            have h260 := (g0_1.ext x29).ext x30
            obtain ⟨y24, h261, H⟩ := bind_some H
            refine RW.callF (.inl rfl) ent16 ⟨rfl, rfl, rfl, rfl⟩ rfl rfl (hermitagelaw1_wakes.calls k _ _ h260 h261) ?_
            rintro _ w45 ⟨rfl, x31⟩
            refine ⟨_, rfl, x31, ?_⟩
            have sx31 := x31.size
            refine RW.pure tabOk 2 rfl ?_
            refine RW.done ?_
            refine NW.next ?_
            refine CW.ret ?_
            obtain rfl := Option.some.inj H
            have h262 := Ext.trans (Ext.trans (Ext.trans x0_1 x29) x30) x31
            exact NW.ret1 rfl (by rfl) ⟨rfl, h262⟩
          · rw [if_neg c22] at H
            refine RW.bool 211 (b' := false) (beq_f c22) rfl ?_
            refine RW.pure tabOk 3 rfl ?_
            refine RW.done ?_
            refine NW.next ?_
            refine CW.ret ?_
            obtain rfl := Option.some.inj H
            have h263 := Ext.trans (Ext.trans x0_1 x29) x30
            exact NW.ret1 rfl (by rfl) ⟨rfl, h263⟩
        · rw [if_neg c21] at H
          refine RW.bool 206 (b' := false) (beq_f c21) rfl ?_
          refine RW.pure tabOk 8 rfl ?_
          refine RW.done ?_
          refine NW.next ?_
          refine CW.ret ?_
          obtain rfl := Option.some.inj H
          have h264 := Ext.trans (Ext.trans x0_1 x29) x30
          exact NW.ret1 rfl (by rfl) ⟨rfl, h264⟩

set_option maxHeartbeats 4000000 in
set_option maxRecDepth 100000 in
theorem seg_Not.calls (k : Nat) (A1 : Option Addr) (c_1 : Nat) (p0 : List Seg) (p1 : Int) (r : (List Seg) × Int) (w : World) (hs1 : Sl kSeg w.heap okAll A1 p0) (hl1 : p0.length ≤ c_1) {gT : Nat} (hG : Box w.heap 0 gT (arrI .u8 64 tz)) (H : seg_Not.f k p0 p1 = some r) :
    Calls Tryd.prog 22 #[.slice A1 p0.length c_1, .int .i64 p1] w fun e w' => ∃ (B1 : Option Addr) (d1 : Nat), e = .returned (.tuple #[.slice B1 r.1.length d1, .int .i64 r.2]) ∧ Ext w w' ∧ Ow kSeg 93 w'.heap (okL [(w.heap.size, none, some 93)]) (okL []) B1 d1 r.1 := by
  have h1 : Sl kSeg w.heap (okL [(0, some w.heap.size, none)]) A1 p0 := hs1.old _ rfl
  have hG0 : 0 < w.heap.size := hG.lt
  have x0 : Ext w w := Upd.refl _ w
  unfold seg_Not.f at H
  refine calls_start Tryd.func22 rfl 31 rfl [.slice A1 p0.length c_1, .int .i64 p1] rfl ?_
  refine CW.seq ?_
  refine CW.lex [.W, .W] rfl ?_
  refine RW.pure tabOk 2 rfl ?_
  refine RW.done ?_
  refine NW.next ?_
  refine CW.seq ?_
  refine CW.seqJ (fun a w1 => ∃ (bt24_0 : Bool), Sat 31 [(0, .slice A1 p0.length c_1), (1, .int .i64 p1), (24, .bool bt24_0)] a ∧ w.heap.size ≤ w1.heap.size ∧ Sl kSeg w1.heap (okL [(0, some w.heap.size, none)]) A1 p0 ∧ Ext w w1 ∧ Box w1.heap 0 gT (arrI .u8 64 tz) ∧ seg_Not.j0 p0 p1 k bt24_0 = some r) ?_ ?_
  ·
    refine CW.lex [.W, .X, .W, .W, .W, .W, .W, .W, .W, .W, .W, .W, .W, .X, .W, .X, .W, .W, .W] rfl ?_
    refine RW.pure tabOk 1 rfl ?_
    obtain ⟨y1, h2, H⟩ := bind_some H
    refine RW.callF (.inl rfl) ent51 ⟨rfl, rfl, rfl, rfl⟩ rfl rfl (seg_May.calls k A1 c_1 p0 _ _ h1.all hl1 h2) ?_
    rintro _ w2 ⟨rfl, x1⟩
    refine ⟨_, rfl, x1, ?_⟩
    have sx1 := x1.size
    refine RW.pure tabOk 2 rfl ?_
    by_cases c1 : y1 = true
    · rw [if_pos c1] at H
      refine RW.bool 9 (b' := false) (not_f (c1)) rfl ?_
      refine RW.pure tabOk 4 rfl ?_
      by_cases c2 : p1 < 0
      · rw [if_pos c2] at H
        refine RW.bool 13 (b' := true) (decide_eq_true c2) rfl ?_
        refine RW.pure tabOk 11 rfl ?_
        refine RW.done ?_
        have h3 := h1.ext x1
        have h4 := Ext.trans x0 x1
        have h5 := hG.ext x1
        exact NW.J fun a ha => ⟨true, ha.sub ⟨rfl, rfl, rfl, trivial⟩, by omega, h3, h4, h5, H⟩
      · rw [if_neg c2] at H
        refine RW.bool 13 (b' := false) (decide_eq_false c2) rfl ?_
        refine RW.pure tabOk 4 rfl ?_
        by_cases c3 : 64 < p1
        · rw [if_pos c3] at H
          refine RW.bool 17 (b' := true) (decide_eq_true c3) rfl ?_
          refine RW.pure tabOk 7 rfl ?_
          refine RW.done ?_
          have h6 := h1.ext x1
          have h7 := Ext.trans x0 x1
          have h8 := hG.ext x1
          exact NW.J fun a ha => ⟨true, ha.sub ⟨rfl, rfl, rfl, trivial⟩, by omega, h6, h7, h8, H⟩
        · rw [if_neg c3] at H
          refine RW.bool 17 (b' := false) (decide_eq_false c3) rfl ?_
          refine RW.pure tabOk 1 rfl ?_
          have h9 := h1.ext x1
          obtain ⟨y2, h10, H⟩ := bind_some H
          refine RW.callF (.inl rfl) ent52 ⟨rfl, rfl, rfl, rfl⟩ rfl rfl (seg_Make.calls k A1 c_1 p0 _ _ h9.all hl1 h10) ?_
          rintro _ w3 ⟨rfl, x2⟩
          refine ⟨_, rfl, x2, ?_⟩
          have sx2 := x2.size
          refine RW.pure tabOk 1 rfl ?_
          obtain ⟨y3, h11, H⟩ := bind_some H
          refine RW.callF (.inl rfl) ent58 ⟨rfl, rfl, rfl, rfl⟩ rfl rfl (seg_To.calls p1 _ _ h11) ?_
          rintro _ w4 ⟨rfl, x3⟩
          refine ⟨_, rfl, x3, ?_⟩
          have sx3 := x3.size
          refine RW.pure tabOk 3 rfl ?_
          refine RW.done ?_
          have h12 := (h9.ext x2).ext x3
          have h13 := Ext.trans (Ext.trans (Ext.trans x0 x1) x2) x3
          have h14 := ((hG.ext x1).ext x2).ext x3
          exact NW.J fun a ha => ⟨((uandn y2 y3) != 0), ha.sub ⟨rfl, rfl, rfl, trivial⟩, by omega, h12, h13, h14, H⟩
    · rw [if_neg c1] at H
      refine RW.bool 9 (b' := true) (not_t (bool_f c1)) rfl ?_
      refine RW.pure tabOk 15 rfl ?_
      refine RW.done ?_
      have h15 := h1.ext x1
      have h16 := Ext.trans x0 x1
      have h17 := hG.ext x1
      exact NW.J fun a ha => ⟨true, ha.sub ⟨rfl, rfl, rfl, trivial⟩, by omega, h15, h16, h17, H⟩
  intro a w1 hJ hp
  obtain ⟨bt24_0, hS, hle, gF1_0, x0_0, g0_0, H⟩ := hJ
  unfold seg_Not.j0 at H
  refine CW.go hp hS ?_
  by_cases c4 : bt24_0 = true
  · rw [if_pos c4] at H
    refine CW.cond_t rfl (c4) ?_
    refine CW.seq ?_
    refine CW.lex [.W, .W] rfl ?_
    refine RW.pure tabOk 2 rfl ?_
    refine RW.done ?_
    refine NW.next ?_
    refine CW.ret ?_
    refine NW.ret_then ?_
    obtain rfl := Option.some.inj H
    exact NW.ret2 rfl (by rfl) (by rfl) ⟨none, 0, rfl, x0_0, Ow.nil⟩
  · rw [if_neg c4] at H
    refine CW.cond_f rfl (bool_f c4) ?_
    refine CW.skip ?_
    refine NW.next ?_
    refine CW.seq ?_
    refine CW.lex [.W, .X, .W, .X, .W, .X, .W, .W] rfl ?_
    refine RW.pure tabOk 1 rfl ?_
    obtain ⟨y4, h18, H⟩ := bind_some H
    refine RW.callF (.inl rfl) ent58 ⟨rfl, rfl, rfl, rfl⟩ rfl rfl (seg_To.calls p1 _ _ h18) ?_
    rintro _ w5 ⟨rfl, x4⟩
    refine ⟨_, rfl, x4, ?_⟩
    have sx4 := x4.size
    refine RW.pure tabOk 1 rfl ?_
    have h19 := gF1_0.ext x4
    obtain ⟨y5, h20, H⟩ := bind_some H
    refine RW.callF (.inl rfl) ent52 ⟨rfl, rfl, rfl, rfl⟩ rfl rfl (seg_Make.calls k A1 c_1 p0 _ _ h19.all hl1 h20) ?_
    rintro _ w6 ⟨rfl, x5⟩
    refine ⟨_, rfl, x5, ?_⟩
    have sx5 := x5.size
    refine RW.pure tabOk 1 rfl ?_
    have h21 := (g0_0.ext x4).ext x5
    obtain ⟨y6, h22, H⟩ := bind_some H
    refine RW.callF (.inl rfl) ent53 ⟨rfl, rfl, rfl, rfl⟩ rfl rfl (seg_Set_Segs.calls k (uandn y4 y5) _ _ h21 h22) ?_
    rintro _ w7 ⟨A2, c_2, rfl, x6, h23⟩
    refine ⟨_, rfl, x6, ?_⟩
    have sx6 := x6.size
    have h24 : Ow kSeg 93 w7.heap (okL [(w6.heap.size, some w7.heap.size, some 93)]) (okL []) A2 c_2 y6 := h23.close
    refine RW.pure tabOk 2 rfl ?_
    refine RW.done ?_
    refine NW.next ?_
    refine CW.ret ?_
    obtain rfl := Option.some.inj H
    have h25 := Ext.trans (Ext.trans (Ext.trans x0_0 x4) x5) x6
    exact NW.ret2 rfl (by rfl) (by rfl) ⟨A2, c_2, rfl, h25, (h24.sub (l' := [(w.heap.size, none, some 93)]) (li' := []) ⟨(.inl ⟨by omega, trivial, rfl⟩), trivial⟩ trivial)⟩

set_option maxHeartbeats 4000000 in
set_option maxRecDepth 100000 in
theorem math_bits_OnesCount64.calls (p0 : Int) (r : Int) (w : World) (H : math_bits_OnesCount64.f p0 = some r) :
    Calls Tryd.prog 79 #[.int .u64 p0] w fun e w' => e = .returned (.int .i64 r) ∧ Ext w w' := by
  have x0 : Ext w w := Upd.refl _ w
  unfold math_bits_OnesCount64.f at H
  refine calls_start Tryd.func79 rfl 35 rfl [.int .u64 p0] rfl ?_
  refine CW.seq ?_
  refine CW.lex [.W] rfl ?_
  refine RW.pure tabOk 1 rfl ?_
  refine RW.done ?_
  refine NW.next ?_
  refine CW.seq ?_
  refine CW.lex [.W, .W, .W, .W, .W, .W, .W] rfl ?_
  refine RW.pure tabOk 1 rfl ?_
  refine RW.shift (by omega) ⟨rfl, rfl, rfl, rfl⟩ rfl rfl rfl rfl ?_
  refine RW.pure tabOk 5 rfl ?_
  refine RW.done ?_
  refine NW.next ?_
  refine CW.seq ?_
  refine CW.lex [.W, .W, .W, .W, .W, .W, .W] rfl ?_
  refine RW.pure tabOk 1 rfl ?_
  refine RW.shift (by omega) ⟨rfl, rfl, rfl, rfl⟩ rfl rfl rfl rfl ?_
  refine RW.pure tabOk 5 rfl ?_
  refine RW.done ?_
  refine NW.next ?_
  refine CW.seq ?_
  refine CW.lex [.W, .W, .W, .W, .W, .W] rfl ?_
  refine RW.pure tabOk 1 rfl ?_
  refine RW.shift (by omega) ⟨rfl, rfl, rfl, rfl⟩ rfl rfl rfl rfl ?_
  refine RW.pure tabOk 4 rfl ?_
  refine RW.done ?_
  refine NW.next ?_
  refine CW.seq ?_
  refine CW.lex [.W, .W, .W, .W, .W] rfl ?_
  refine RW.pure tabOk 2 rfl ?_
  refine RW.shift (by omega) ⟨rfl, rfl, rfl, rfl⟩ rfl rfl rfl rfl ?_
  refine RW.pure tabOk 2 rfl ?_
  refine RW.done ?_
  refine NW.next ?_
  refine CW.seq ?_
  refine CW.lex [.W, .W, .W, .W, .W] rfl ?_
  refine RW.pure tabOk 2 rfl ?_
  refine RW.shift (by omega) ⟨rfl, rfl, rfl, rfl⟩ rfl rfl rfl rfl ?_
  refine RW.pure tabOk 2 rfl ?_
  refine RW.done ?_
  refine NW.next ?_
  refine CW.seq ?_
  refine CW.lex [.W, .W, .W, .W, .W] rfl ?_
  refine RW.pure tabOk 2 rfl ?_
  refine RW.shift (by omega) ⟨rfl, rfl, rfl, rfl⟩ rfl rfl rfl rfl ?_
  refine RW.pure tabOk 2 rfl ?_
  refine RW.done ?_
  refine NW.next ?_
  refine CW.seq ?_
  refine CW.lex [.W, .W, .W, .W] rfl ?_
  refine RW.pure tabOk 4 rfl ?_
  refine RW.done ?_
  refine NW.next ?_
  refine CW.ret ?_
  obtain rfl := Option.some.inj H
  exact NW.ret1 rfl (by rfl) ⟨rfl, x0⟩

set_option maxHeartbeats 4000000 in
set_option maxRecDepth 100000 in
theorem seg_Set_Count.calls (p0 : Int) (r : Int) (w : World) (H : seg_Set_Count.f p0 = some r) :
    Calls Tryd.prog 59 #[.int .u64 p0] w fun e w' => e = .returned (.int .i64 r) ∧ Ext w w' := by
  have x0 : Ext w w := Upd.refl _ w
  unfold seg_Set_Count.f at H
  refine calls_start Tryd.func59 rfl 5 rfl [.int .u64 p0] rfl ?_
  refine CW.seq ?_
  refine CW.lex [.W] rfl ?_
  refine RW.pure tabOk 1 rfl ?_
  refine RW.done ?_
  refine NW.next ?_
  refine CW.seq ?_
  refine CW.lex [.W, .X, .W] rfl ?_
  refine RW.pure tabOk 1 rfl ?_
  obtain ⟨y1, h1, H⟩ := bind_some H
  refine RW.callF (.inl rfl) ent79 ⟨rfl, rfl, rfl, rfl⟩ rfl rfl (math_bits_OnesCount64.calls p0 _ _ h1) ?_
  rintro _ w1 ⟨rfl, x1⟩
  refine ⟨_, rfl, x1, ?_⟩
  have sx1 := x1.size
  refine RW.pure tabOk 1 rfl ?_
  refine RW.done ?_
  refine NW.next ?_
  refine CW.ret ?_
  obtain rfl := Option.some.inj H
  have h2 := Ext.trans x0 x1
  exact NW.ret1 rfl (by rfl) ⟨rfl, h2⟩

set_option maxHeartbeats 4000000 in
set_option maxRecDepth 100000 in
theorem seg_Count.calls (k : Nat) (A1 : Option Addr) (c_1 : Nat) (p0 : List Seg) (r : Int × Int) (w : World) (hs1 : Sl kSeg w.heap okAll A1 p0) (hl1 : p0.length ≤ c_1) (H : seg_Count.f k p0 = some r) :
    Calls Tryd.prog 23 #[.slice A1 p0.length c_1] w fun e w' => e = .returned (.tuple #[.int .i64 r.1, .int .i64 r.2]) ∧ Ext w w' := by
  have h1 : Sl kSeg w.heap (okL [(0, some w.heap.size, none)]) A1 p0 := hs1.old _ rfl
  have x0 : Ext w w := Upd.refl _ w
  unfold seg_Count.f at H
  refine calls_start Tryd.func23 rfl 10 rfl [.slice A1 p0.length c_1] rfl ?_
  refine CW.seq ?_
  refine CW.lex [.W, .W] rfl ?_
  refine RW.pure tabOk 2 rfl ?_
  refine RW.done ?_
  refine NW.next ?_
  refine CW.seq ?_
  refine CW.seq ?_
  refine CW.lex [.W, .X, .W] rfl ?_
  refine RW.pure tabOk 1 rfl ?_
  obtain ⟨y1, h2, H⟩ := bind_some H
  refine RW.callF (.inl rfl) ent51 ⟨rfl, rfl, rfl, rfl⟩ rfl rfl (seg_May.calls k A1 c_1 p0 _ _ h1.all hl1 h2) ?_
  rintro _ w1 ⟨rfl, x1⟩
  refine ⟨_, rfl, x1, ?_⟩
  have sx1 := x1.size
  refine RW.pure tabOk 1 rfl ?_
  refine RW.done ?_
  refine NW.next ?_
  by_cases c1 : y1 = true
  · rw [if_pos c1] at H
    refine CW.cond_f rfl (not_f (c1)) ?_
    refine CW.skip ?_
    refine NW.next ?_
    refine CW.seq ?_
    refine CW.lex [.W, .X, .X, .W, .W] rfl ?_
    refine RW.pure tabOk 1 rfl ?_
    have h3 := h1.ext x1
    obtain ⟨y2, h4, H⟩ := bind_some H
    refine RW.callF (.inl rfl) ent52 ⟨rfl, rfl, rfl, rfl⟩ rfl rfl (seg_Make.calls k A1 c_1 p0 _ _ h3.all hl1 h4) ?_
    rintro _ w2 ⟨rfl, x2⟩
    refine ⟨_, rfl, x2, ?_⟩
    have sx2 := x2.size
    obtain ⟨y3, h5, H⟩ := bind_some H
    refine RW.callF (.inl rfl) ent59 ⟨rfl, rfl, rfl, rfl⟩ rfl rfl (seg_Set_Count.calls y2 _ _ h5) ?_
    rintro _ w3 ⟨rfl, x3⟩
    refine ⟨_, rfl, x3, ?_⟩
    have sx3 := x3.size
    refine RW.pure tabOk 2 rfl ?_
    refine RW.done ?_
    refine NW.next ?_
    refine CW.ret ?_
    obtain rfl := Option.some.inj H
    have h6 := Ext.trans (Ext.trans (Ext.trans x0 x1) x2) x3
    exact NW.ret2 rfl (by rfl) (by rfl) ⟨rfl, h6⟩
  · rw [if_neg c1] at H
    refine CW.cond_t rfl (not_t (bool_f c1)) ?_
    refine CW.seq ?_
    refine CW.lex [.W, .W] rfl ?_
    refine RW.pure tabOk 2 rfl ?_
    refine RW.done ?_
    refine NW.next ?_
    refine CW.ret ?_
    refine NW.ret_then ?_
    obtain rfl := Option.some.inj H
    have h7 := Ext.trans x0 x1
    exact NW.ret2 rfl (by rfl) (by rfl) ⟨rfl, h7⟩

set_option maxHeartbeats 4000000 in
set_option maxRecDepth 100000 in
theorem hermitagelaw1_SegNots.calls (k : Nat) (p0 : hermitagelaw1Ask) (A1 : Option Addr) (c_1 : Nat) (A2 : Option Addr) (c_2 : Nat) (r : Bool) (w : World) (hs1 : Sl (Kd.sl kSeg) w.heap okAll A1 p0.L) (hl1 : p0.L.length ≤ c_1) (hs2 : Sl (Kd.int .i64) w.heap okAll A2 p0.N) (hl2 : p0.N.length ≤ c_2) {gT : Nat} (hG : Box w.heap 0 gT (arrI .u8 64 tz)) (H : hermitagelaw1_SegNots.f k p0 = some r) :
    Calls Tryd.prog 5 #[.agg #[.slice A1 p0.L.length c_1, .slice A2 p0.N.length c_2]] w fun e w' => e = .returned (.bool r) ∧ Ext w w' := by
  have h1 : Sl (Kd.sl kSeg) w.heap (okL [(0, some w.heap.size, none)]) A1 p0.L := hs1.old _ rfl
  have h2 : Sl (Kd.int .i64) w.heap (okL [(0, some w.heap.size, none)]) A2 p0.N := hs2.old _ rfl
  have hG0 : 0 < w.heap.size := hG.lt
  have x0 : Ext w w := Upd.refl _ w
  unfold hermitagelaw1_SegNots.f at H
  refine calls_start Tryd.func5 rfl 93 rfl [.agg #[.slice A1 p0.L.length c_1, .slice A2 p0.N.length c_2]] rfl ?_
  refine CW.seq ?_
  refine CW.lex [.X, .W] rfl ?_
  refine RW.box (cs := [.slice A1 p0.L.length c_1, .slice A2 p0.N.length c_2]) (.inl rfl) ⟨rfl, rfl, rfl, rfl⟩ rfl rfl rfl ?_
  intro b1 w1 x1 l1 h3
  have sx1 := x1.size
  have ltb1 := h3.lt
  refine RW.pure tabOk 1 rfl ?_
  refine RW.done ?_
  refine NW.next ?_
  refine CW.seq ?_
  refine CW.seq ?_
  refine CW.lex [.L, .X] rfl ?_
  refine RW.load tabOk [.slice A1 p0.L.length c_1, .slice A2 p0.N.length c_2] (h3.at 0) ⟨rfl, rfl, rfl, rfl⟩ rfl rfl rfl rfl ?_
  have h4 := h1.ext x1
  have h5 := h2.ext x1
  obtain ⟨y1, h6, H⟩ := bind_some H
  refine RW.callF (.inl rfl) ent11 ⟨rfl, rfl, rfl, rfl⟩ rfl rfl (hermitagelaw1_Heavy.calls k p0 A1 c_1 A2 c_2 _ _ h4.all hl1 h5.all hl2 h6) ?_
  rintro _ w2 ⟨rfl, x2⟩
  refine ⟨_, rfl, x2, ?_⟩
  have sx2 := x2.size
  refine RW.done ?_
  refine NW.next ?_
  by_cases c1 : y1 = true
  · rw [if_pos c1] at H
    refine CW.cond_t rfl (c1) ?_
    refine CW.seq ?_
    refine CW.lex [.W] rfl ?_
    refine RW.pure tabOk 1 rfl ?_
    refine RW.done ?_
    refine NW.next ?_
    refine CW.ret ?_
    refine NW.ret_then ?_
    obtain rfl := Option.some.inj H
    have h7 := Ext.trans (Ext.trans x0 x1) x2
    exact NW.ret1 rfl (by rfl) ⟨rfl, h7⟩
  · rw [if_neg c1] at H
    refine CW.cond_f rfl (bool_f c1) ?_
    refine CW.skip ?_
    refine NW.next ?_
    refine CW.seq ?_
    refine CW.seq ?_
    refine CW.lex [.W] rfl ?_
    refine RW.pure tabOk 1 rfl ?_
    refine RW.done ?_
    refine NW.next ?_
    refine CW.block ?_
    refine CW.loop (fun n1 a w3 => ∃ (it3_0 : Int), Sat 93 [(1, .pointer (some ⟨b1, 0, none⟩)), (3, .int .i64 it3_0)] a ∧ w2.heap.size ≤ w3.heap.size ∧ Sl (Kd.sl kSeg) w3.heap (okL [(0, some w.heap.size, none)]) A1 p0.L ∧ Sl (Kd.int .i64) w3.heap (okL [(0, some w.heap.size, none)]) A2 p0.N ∧ Ext w w3 ∧ Box w3.heap b1 25 [.slice A1 p0.L.length c_1, .slice A2 p0.N.length c_2] ∧ Box w3.heap 0 gT (arrI .u8 64 tz) ∧ hermitagelaw1_SegNots.l0 p0 k n1 it3_0 = some r) k ?_ ?_
    have h8 := h4.ext x2
    have h9 := h5.ext x2
    have h10 := Ext.trans (Ext.trans x0 x1) x2
    have h11 := h3.ext x2
    have h12 := (hG.ext x1).ext x2
    · exact fun a ha => ⟨0, ha.sub ⟨rfl, rfl, trivial⟩, by omega, h8, h9, h10, h11, h12, H⟩
    intro n1 a w3 hI hp
    obtain ⟨it3_0, hS, hle, gF1_0, gF2_0, x0_0, gb1_0, g0_0, H⟩ := hI
    cases n1 with
    | zero => cases H
    | succ n1 =>
      rw [hermitagelaw1_SegNots.l0] at H
      refine CW.go hp hS ?_
      refine CW.seq ?_
      refine CW.seqJ (fun a w4 => ∃ (bt23_1 : Bool), Sat 93 [(1, .pointer (some ⟨b1, 0, none⟩)), (3, .int .i64 it3_0), (23, .bool bt23_1)] a ∧ w3.heap.size ≤ w4.heap.size ∧ Sl (Kd.sl kSeg) w4.heap (okL [(0, some w.heap.size, none)]) A1 p0.L ∧ Sl (Kd.int .i64) w4.heap (okL [(0, some w.heap.size, none)]) A2 p0.N ∧ Ext w w4 ∧ Box w4.heap b1 25 [.slice A1 p0.L.length c_1, .slice A2 p0.N.length c_2] ∧ Box w4.heap 0 gT (arrI .u8 64 tz) ∧ hermitagelaw1_SegNots.j0 p0 k it3_0 (hermitagelaw1_SegNots.l0 p0 k n1) bt23_1 = some r) ?_ ?_
      ·
        refine CW.lex [.W, .W, .L, .W, .W, .W, .W, .W, .W] rfl ?_
        refine RW.pure tabOk 2 rfl ?_
        refine RW.load tabOk [.slice A1 p0.L.length c_1] ((gb1_0.at 0).take 1 rfl) ⟨rfl, rfl, rfl, rfl⟩ rfl rfl rfl rfl ?_
        refine RW.pure tabOk 3 rfl ?_
        by_cases c2 : it3_0 < (p0.L.length : Int)
        · rw [if_pos c2] at H
          refine RW.bool 20 (b' := true) (decide_eq_true c2) rfl ?_
          refine RW.pure tabOk 3 rfl ?_
          refine RW.done ?_
          exact NW.J fun a ha => ⟨(decide (it3_0 < 6)), ha.sub ⟨rfl, rfl, rfl, trivial⟩, by omega, gF1_0, gF2_0, x0_0, gb1_0, g0_0, H⟩
        · rw [if_neg c2] at H
          refine RW.bool 20 (b' := false) (decide_eq_false c2) rfl ?_
          refine RW.pure tabOk 3 rfl ?_
          refine RW.done ?_
          exact NW.J fun a ha => ⟨false, ha.sub ⟨rfl, rfl, rfl, trivial⟩, by omega, gF1_0, gF2_0, x0_0, gb1_0, g0_0, H⟩
      intro a w4 hJ hp
      obtain ⟨bt23_1, hS, hle, gF1_1, gF2_1, x0_1, gb1_1, g0_1, H⟩ := hJ
      unfold hermitagelaw1_SegNots.j0 at H
      refine CW.go hp hS ?_
      by_cases c3 : bt23_1 = true
      · rw [if_pos c3] at H
        refine CW.cond_t rfl (c3) ?_
        refine CW.skip ?_
        refine NW.next ?_
        refine CW.seq ?_
        refine CW.block ?_
        refine CW.seq ?_
        refine CW.lex [.W] rfl ?_
        refine RW.pure tabOk 1 rfl ?_
        refine RW.done ?_
        refine NW.next ?_
        refine CW.block ?_
        refine CW.loop (fun n2 a w5 => ∃ (it4_2 : Int), Sat 93 [(1, .pointer (some ⟨b1, 0, none⟩)), (3, .int .i64 it3_0), (4, .int .i64 it4_2)] a ∧ w4.heap.size ≤ w5.heap.size ∧ Sl (Kd.sl kSeg) w5.heap (okL [(0, some w.heap.size, none)]) A1 p0.L ∧ Sl (Kd.int .i64) w5.heap (okL [(0, some w.heap.size, none)]) A2 p0.N ∧ Ext w w5 ∧ Box w5.heap b1 25 [.slice A1 p0.L.length c_1, .slice A2 p0.N.length c_2] ∧ Box w5.heap 0 gT (arrI .u8 64 tz) ∧ hermitagelaw1_SegNots.l1 p0 k it3_0 (hermitagelaw1_SegNots.l0 p0 k n1) n2 it4_2 = some r) k ?_ ?_
        · exact fun a ha => ⟨0, ha.sub ⟨rfl, rfl, rfl, trivial⟩, by omega, gF1_1, gF2_1, x0_1, gb1_1, g0_1, H⟩
        intro n2 a w5 hI hp
        obtain ⟨it4_2, hS, hle, gF1_2, gF2_2, x0_2, gb1_2, g0_2, H⟩ := hI
        cases n2 with
        | zero => cases H
        | succ n2 =>
          rw [hermitagelaw1_SegNots.l1] at H
          refine CW.go hp hS ?_
          refine CW.seq ?_
          refine CW.seq ?_
          refine CW.lex [.W, .W] rfl ?_
          refine RW.pure tabOk 2 rfl ?_
          refine RW.done ?_
          refine NW.next ?_
          by_cases c4 : it4_2 ≤ 64
          · rw [if_pos c4] at H
            refine CW.cond_t rfl (decide_eq_true c4) ?_
            refine CW.skip ?_
            refine NW.next ?_
            refine CW.seqJ (fun a w6 => Sat 93 [(1, .pointer (some ⟨b1, 0, none⟩)), (3, .int .i64 it3_0), (4, .int .i64 it4_2)] a ∧ w5.heap.size ≤ w6.heap.size ∧ Sl (Kd.sl kSeg) w6.heap (okL [(0, some w.heap.size, none)]) A1 p0.L ∧ Sl (Kd.int .i64) w6.heap (okL [(0, some w.heap.size, none)]) A2 p0.N ∧ Ext w w6 ∧ Box w6.heap b1 25 [.slice A1 p0.L.length c_1, .slice A2 p0.N.length c_2] ∧ Box w6.heap 0 gT (arrI .u8 64 tz) ∧ hermitagelaw1_SegNots.j1 it4_2 (hermitagelaw1_SegNots.l1 p0 k it3_0 (hermitagelaw1_SegNots.l0 p0 k n1) n2) = some r) ?_ ?_
            ·
              refine CW.block ?_
              refine CW.seq ?_
              refine CW.lex [.W, .L, .W, .W, .L, .W, .X, .W, .W, .W, .W, .W] rfl ?_
              refine RW.pure tabOk 1 rfl ?_
              refine RW.load tabOk [.slice A1 p0.L.length c_1] ((gb1_2.at 0).take 1 rfl) ⟨rfl, rfl, rfl, rfl⟩ rfl rfl rfl rfl ?_
              refine RW.pure tabOk 1 rfl ?_
              obtain ⟨g1, H⟩ := guard_some H
              obtain ⟨ad1, A3, c_3, e1, a1, l2, h13⟩ := sl_at gF1_2 g1.1 g1.2
              refine RW.index tabOk g1.1 g1.2 e1 ⟨rfl, rfl, rfl, rfl⟩ rfl rfl rfl rfl rfl rfl ?_
              refine RW.load tabOk [.slice A3 (rd p0.L it3_0).length c_3] a1 ⟨rfl, rfl, rfl, rfl⟩ rfl rfl rfl rfl ?_
              refine RW.pure tabOk 1 rfl ?_
              obtain ⟨y2, h14, H⟩ := bind_some H
              refine RW.callF (.inl rfl) ent22 ⟨rfl, rfl, rfl, rfl⟩ rfl rfl (seg_Not.calls k A3 c_3 (rd p0.L it3_0) it4_2 _ _ h13.all l2 g0_2 h14) ?_
              rintro _ w7 ⟨A4, c_4, rfl, x3, h15⟩
              refine ⟨_, rfl, x3, ?_⟩
              have sx3 := x3.size
              have h16 : Ow kSeg 93 w7.heap (okL [(w5.heap.size, some w7.heap.size, some 93)]) (okL []) A4 c_4 y2.1 := h15.close
              refine RW.pure tabOk 5 rfl ?_
              refine RW.done ?_
              refine NW.next ?_
              refine CW.seq ?_
              refine CW.seq ?_
              refine CW.lex [.W, .X, .W] rfl ?_
              refine RW.pure tabOk 1 rfl ?_
              obtain ⟨y3, h17, H⟩ := bind_some H
              refine RW.callF (.inl rfl) ent14 ⟨rfl, rfl, rfl, rfl⟩ rfl rfl (hermitagelaw1_num.calls y2.2 _ _ h17) ?_
              rintro _ w8 ⟨rfl, x4⟩
              refine ⟨_, rfl, x4, ?_⟩
              have sx4 := x4.size
              refine RW.pure tabOk 1 rfl ?_
              refine RW.done ?_
              refine NW.next ?_
              by_cases c5 : y3 = 0
              · rw [if_pos c5] at H
                refine CW.cond_f rfl (bne_f c5) ?_
                refine CW.skip ?_
                refine NW.next ?_
                refine CW.seq ?_
                refine CW.lex [.W, .W, .L, .W, .W, .L, .X, .X, .W, .W, .W, .W, .W] rfl ?_
                refine RW.pure tabOk 2 rfl ?_
                have h18 := (gb1_2.ext x3).ext x4
                refine RW.load tabOk [.slice A1 p0.L.length c_1] ((h18.at 0).take 1 rfl) ⟨rfl, rfl, rfl, rfl⟩ rfl rfl rfl rfl ?_
                refine RW.pure tabOk 1 rfl ?_
                obtain ⟨g2, H⟩ := guard_some H
                have h19 := (gF1_2.ext x3).ext x4
                obtain ⟨ad2, A5, c_5, e2, a2, l3, h20⟩ := sl_at h19 g2.1 g2.2
                refine RW.index tabOk g2.1 g2.2 e2 ⟨rfl, rfl, rfl, rfl⟩ rfl rfl rfl rfl rfl rfl ?_
                refine RW.load tabOk [.slice A5 (rd p0.L it3_0).length c_5] a2 ⟨rfl, rfl, rfl, rfl⟩ rfl rfl rfl rfl ?_
                refine RW.buildSlice (cs := [.slice A4 y2.1.length c_4, .slice A5 (rd p0.L it3_0).length c_5]) tabOk (.inl rfl) ⟨rfl, rfl, rfl, rfl⟩ rfl rfl rfl rfl rfl rfl rfl ?_
                intro b2 w9 x5 l4 h21
                have sx5 := x5.size
                have ltb2 := h21.lt
                have h22 := h20.ext x5
                have h23 := (h16.ext x4).ext x5
                have h24 : Ow (Kd.sl kSeg) 28 w9.heap (okL [(w8.heap.size, some w9.heap.size, some 28)]) (okL [(w5.heap.size, some w7.heap.size, some 93), (0, some w.heap.size, none)]) (some ⟨b2, 0, none⟩) 2 ([y2.1, (rd p0.L it3_0)] : List (List Seg)) := Ow.of_box h21 (.inl ⟨l4, ltb2, rfl⟩) (Nat.le_of_ble_eq_true rfl) (Ch.cons (d := (Kd.sl kSeg)) (cs := [.slice A4 y2.1.length c_4]) (x := y2.1) ⟨_, _, rfl, h23.len, (Sl.off h23.slL h21 ⟨.inl (show (93 : Nat) ≠ 28 by decide), trivial⟩ ⟨(.inl ⟨by omega, by omega, rfl⟩), trivial⟩)⟩ (Ch.cons (d := (Kd.sl kSeg)) (cs := [.slice A5 (rd p0.L it3_0).length c_5]) (x := (rd p0.L it3_0)) ⟨_, _, rfl, l3, (Sl.off h22 h21 ⟨.inr (by omega), trivial⟩ ⟨(.inr (.inl ⟨by omega, by omega, trivial⟩)), trivial⟩)⟩ Ch.nil))
                have h25 := ((g0_2.ext x3).ext x4).ext x5
                obtain ⟨y4, h26, H⟩ := bind_some H
                refine RW.callF (.inl rfl) ent13 ⟨rfl, rfl, rfl, rfl⟩ rfl rfl (seg_Join.calls k (some ⟨b2, 0, none⟩) 2 ([y2.1, (rd p0.L it3_0)] : List (List Seg)) _ _ h24.all h24.len h25 h26) ?_
                rintro _ w10 ⟨A6, c_6, rfl, x6, h27⟩
                refine ⟨_, rfl, x6, ?_⟩
                have sx6 := x6.size
                have h28 : Ow kSeg 93 w10.heap (okL [(w9.heap.size, some w10.heap.size, some 93)]) (okL []) A6 c_6 y4.1 := h27.close
                refine RW.pure tabOk 5 rfl ?_
                refine RW.done ?_
                refine NW.next ?_
                refine CW.seq ?_
                refine CW.lex [.W, .W, .L, .W, .W, .L, .X, .W, .W, .W, .W, .W] rfl ?_
                refine RW.pure tabOk 2 rfl ?_
                have h29 := (h18.ext x5).ext x6
                refine RW.load tabOk [.slice A1 p0.L.length c_1] ((h29.at 0).take 1 rfl) ⟨rfl, rfl, rfl, rfl⟩ rfl rfl rfl rfl ?_
                refine RW.pure tabOk 1 rfl ?_
                obtain ⟨g3, H⟩ := guard_some H
                have h30 := (h19.ext x5).ext x6
                obtain ⟨ad3, A7, c_7, e3, a3, l5, h31⟩ := sl_at h30 g3.1 g3.2
                refine RW.index tabOk g3.1 g3.2 e3 ⟨rfl, rfl, rfl, rfl⟩ rfl rfl rfl rfl rfl rfl ?_
                refine RW.load tabOk [.slice A7 (rd p0.L it3_0).length c_7] a3 ⟨rfl, rfl, rfl, rfl⟩ rfl rfl rfl rfl ?_
                have h32 := h23.ext x6
                have h33 := h25.ext x6
                obtain ⟨y5, h34, H⟩ := bind_some H
                refine RW.callF (.inl rfl) ent19 ⟨rfl, rfl, rfl, rfl⟩ rfl rfl (seg_Both.calls k A4 c_4 y2.1 A7 c_7 (rd p0.L it3_0) _ _ h32.all h32.len h31.all l5 h33 h34) ?_
                rintro _ w11 ⟨A8, c_8, rfl, x7, h35⟩
                refine ⟨_, rfl, x7, ?_⟩
                have sx7 := x7.size
                have h36 : Ow kSeg 93 w11.heap (okL [(w10.heap.size, some w11.heap.size, some 93)]) (okL []) A8 c_8 y5.1 := h35.close
                refine RW.pure tabOk 5 rfl ?_
                refine RW.done ?_
                refine NW.next ?_
                refine CW.seq ?_
                refine CW.lex [.W, .X, .W, .W, .W, .W, .W] rfl ?_
                refine RW.pure tabOk 1 rfl ?_
                have h37 := h28.ext x7
                obtain ⟨y6, h38, H⟩ := bind_some H
                refine RW.callF (.inl rfl) ent23 ⟨rfl, rfl, rfl, rfl⟩ rfl rfl (seg_Count.calls k A6 c_6 y4.1 _ _ h37.all h37.len h38) ?_
                rintro _ w12 ⟨rfl, x8⟩
                refine ⟨_, rfl, x8, ?_⟩
                have sx8 := x8.size
                refine RW.pure tabOk 5 rfl ?_
                refine RW.done ?_
                refine NW.next ?_
                refine CW.seqJ (fun a w13 => ∃ (bt91_4 : Bool), Sat 93 [(1, .pointer (some ⟨b1, 0, none⟩)), (3, .int .i64 it3_0), (4, .int .i64 it4_2), (91, .bool bt91_4)] a ∧ w12.heap.size ≤ w13.heap.size ∧ Sl (Kd.sl kSeg) w13.heap (okL [(0, some w.heap.size, none)]) A1 p0.L ∧ Sl (Kd.int .i64) w13.heap (okL [(0, some w.heap.size, none)]) A2 p0.N ∧ Ext w w13 ∧ Box w13.heap b1 25 [.slice A1 p0.L.length c_1, .slice A2 p0.N.length c_2] ∧ Box w13.heap 0 gT (arrI .u8 64 tz) ∧ hermitagelaw1_SegNots.j2 it4_2 (hermitagelaw1_SegNots.l1 p0 k it3_0 (hermitagelaw1_SegNots.l0 p0 k n1) n2) bt91_4 = some r) ?_ ?_
                ·
                  refine CW.lex [.W, .X, .W, .W, .W, .X, .W, .W, .W, .W, .X, .W, .W, .W, .W, .W, .W, .W, .W, .W, .W, .W, .W] rfl ?_
                  refine RW.pure tabOk 1 rfl ?_
                  obtain ⟨y7, h39, H⟩ := bind_some H
                  refine RW.callF (.inl rfl) ent14 ⟨rfl, rfl, rfl, rfl⟩ rfl rfl (hermitagelaw1_num.calls y4.2 _ _ h39) ?_
                  rintro _ w14 ⟨rfl, x9⟩
                  refine ⟨_, rfl, x9, ?_⟩
                  have sx9 := x9.size
                  refine RW.pure tabOk 2 rfl ?_
                  by_cases c6 : y7 = 0
                  · rw [if_pos c6] at H
                    refine RW.bool 72 (b' := false) (bne_f c6) rfl ?_
                    refine RW.pure tabOk 1 rfl ?_
                    obtain ⟨y8, h40, H⟩ := bind_some H
                    refine RW.callF (.inl rfl) ent14 ⟨rfl, rfl, rfl, rfl⟩ rfl rfl (hermitagelaw1_num.calls y5.2 _ _ h40) ?_
                    rintro _ w15 ⟨rfl, x10⟩
                    refine ⟨_, rfl, x10, ?_⟩
                    have sx10 := x10.size
                    refine RW.pure tabOk 3 rfl ?_
                    by_cases c7 : y8 = 0
                    · rw [if_pos c7] at H
                      refine RW.bool 77 (b' := false) (bne_f c7) rfl ?_
                      refine RW.pure tabOk 1 rfl ?_
                      obtain ⟨y9, h41, H⟩ := bind_some H
                      refine RW.callF (.inl rfl) ent14 ⟨rfl, rfl, rfl, rfl⟩ rfl rfl (hermitagelaw1_num.calls y6.2 _ _ h41) ?_
                      rintro _ w16 ⟨rfl, x11⟩
                      refine ⟨_, rfl, x11, ?_⟩
                      have sx11 := x11.size
                      refine RW.pure tabOk 3 rfl ?_
                      by_cases c8 : y9 = 0
                      · rw [if_pos c8] at H
                        refine RW.bool 82 (b' := false) (bne_f c8) rfl ?_
                        refine RW.pure tabOk 5 rfl ?_
                        by_cases c9 : 0 < (y5.1.length : Int)
                        · rw [if_pos c9] at H
                          refine RW.bool 87 (b' := true) (decide_eq_true c9) rfl ?_
                          refine RW.pure tabOk 4 rfl ?_
                          refine RW.done ?_
                          have h42 := ((((h30.ext x7).ext x8).ext x9).ext x10).ext x11
                          have h43 := ((((((((gF2_2.ext x3).ext x4).ext x5).ext x6).ext x7).ext x8).ext x9).ext x10).ext x11
                          have h44 := Ext.trans (Ext.trans (Ext.trans (Ext.trans (Ext.trans (Ext.trans (Ext.trans (Ext.trans (Ext.trans x0_2 x3) x4) x5) x6) x7) x8) x9) x10) x11
                          have h45 := ((((h29.ext x7).ext x8).ext x9).ext x10).ext x11
                          have h46 := ((((h33.ext x7).ext x8).ext x9).ext x10).ext x11
                          exact NW.J fun a ha => ⟨true, ha.sub ⟨rfl, rfl, rfl, rfl, trivial⟩, by omega, h42, h43, h44, h45, h46, H⟩
                        · rw [if_neg c9] at H
                          refine RW.bool 87 (b' := false) (decide_eq_false c9) rfl ?_
                          refine RW.pure tabOk 4 rfl ?_
                          refine RW.done ?_
                          have h47 := ((((h30.ext x7).ext x8).ext x9).ext x10).ext x11
                          have h48 := ((((((((gF2_2.ext x3).ext x4).ext x5).ext x6).ext x7).ext x8).ext x9).ext x10).ext x11
                          have h49 := Ext.trans (Ext.trans (Ext.trans (Ext.trans (Ext.trans (Ext.trans (Ext.trans (Ext.trans (Ext.trans x0_2 x3) x4) x5) x6) x7) x8) x9) x10) x11
                          have h50 := ((((h29.ext x7).ext x8).ext x9).ext x10).ext x11
                          have h51 := ((((h33.ext x7).ext x8).ext x9).ext x10).ext x11
                          exact NW.J fun a ha => ⟨(y6.1 != it4_2), ha.sub ⟨rfl, rfl, rfl, rfl, trivial⟩, by omega, h47, h48, h49, h50, h51, H⟩
                      · rw [if_neg c8] at H
                        refine RW.bool 82 (b' := true) (bne_t c8) rfl ?_
                        refine RW.pure tabOk 9 rfl ?_
                        refine RW.done ?_
                        have h52 := ((((h30.ext x7).ext x8).ext x9).ext x10).ext x11
                        have h53 := ((((((((gF2_2.ext x3).ext x4).ext x5).ext x6).ext x7).ext x8).ext x9).ext x10).ext x11
                        have h54 := Ext.trans (Ext.trans (Ext.trans (Ext.trans (Ext.trans (Ext.trans (Ext.trans (Ext.trans (Ext.trans x0_2 x3) x4) x5) x6) x7) x8) x9) x10) x11
                        have h55 := ((((h29.ext x7).ext x8).ext x9).ext x10).ext x11
                        have h56 := ((((h33.ext x7).ext x8).ext x9).ext x10).ext x11
                        exact NW.J fun a ha => ⟨true, ha.sub ⟨rfl, rfl, rfl, rfl, trivial⟩, by omega, h52, h53, h54, h55, h56, H⟩
                    · rw [if_neg c7] at H
                      refine RW.bool 77 (b' := true) (bne_t c7) rfl ?_
                      refine RW.pure tabOk 14 rfl ?_
                      refine RW.done ?_
                      have h57 := (((h30.ext x7).ext x8).ext x9).ext x10
                      have h58 := (((((((gF2_2.ext x3).ext x4).ext x5).ext x6).ext x7).ext x8).ext x9).ext x10
                      have h59 := Ext.trans (Ext.trans (Ext.trans (Ext.trans (Ext.trans (Ext.trans (Ext.trans (Ext.trans x0_2 x3) x4) x5) x6) x7) x8) x9) x10
                      have h60 := (((h29.ext x7).ext x8).ext x9).ext x10
                      have h61 := (((h33.ext x7).ext x8).ext x9).ext x10
                      exact NW.J fun a ha => ⟨true, ha.sub ⟨rfl, rfl, rfl, rfl, trivial⟩, by omega, h57, h58, h59, h60, h61, H⟩
                  · rw [if_neg c6] at H
                    refine RW.bool 72 (b' := true) (bne_t c6) rfl ?_
                    refine RW.pure tabOk 19 rfl ?_
                    refine RW.done ?_
                    have h62 := ((h30.ext x7).ext x8).ext x9
                    have h63 := ((((((gF2_2.ext x3).ext x4).ext x5).ext x6).ext x7).ext x8).ext x9
                    have h64 := Ext.trans (Ext.trans (Ext.trans (Ext.trans (Ext.trans (Ext.trans (Ext.trans x0_2 x3) x4) x5) x6) x7) x8) x9
                    have h65 := ((h29.ext x7).ext x8).ext x9
                    have h66 := ((h33.ext x7).ext x8).ext x9
                    exact NW.J fun a ha => ⟨true, ha.sub ⟨rfl, rfl, rfl, rfl, trivial⟩, by omega, h62, h63, h64, h65, h66, H⟩
                intro a w13 hJ hp
                obtain ⟨bt91_4, hS, hle, gF1_4, gF2_4, x0_4, gb1_4, g0_4, H⟩ := hJ
                unfold hermitagelaw1_SegNots.j2 at H
                refine CW.go hp hS ?_
                by_cases c10 : bt91_4 = true
                · rw [if_pos c10] at H
                  refine CW.cond_t rfl (c10) ?_
                  refine CW.seq ?_
                  refine CW.lex [.W] rfl ?_
                  refine RW.pure tabOk 1 rfl ?_
                  refine RW.done ?_
                  refine NW.next ?_
                  refine CW.ret ?_
                  refine NW.ret_block (NW.ret_then (NW.ret_then (NW.ret_block (NW.ret_block (NW.ret_then (NW.ret_then (NW.ret_block (NW.ret_then ?_))))))))
                  obtain rfl := Option.some.inj H
                  exact NW.ret1 rfl (by rfl) ⟨rfl, x0_4⟩
                · rw [if_neg c10] at H
                  refine CW.cond_f rfl (bool_f c10) ?_
                  refine CW.skip ?_
                  refine NW.norm_block ?_
                  exact NW.J fun a ha => ⟨ha.sub ⟨rfl, rfl, rfl, trivial⟩, by omega, gF1_4, gF2_4, x0_4, gb1_4, g0_4, H⟩
              · rw [if_neg c5] at H
                refine CW.cond_t rfl (bne_t c5) ?_
                refine CW.exit ?_
                refine NW.exit_then (NW.exit_hit ?_)
                have h67 := (gF1_2.ext x3).ext x4
                have h68 := (gF2_2.ext x3).ext x4
                have h69 := Ext.trans (Ext.trans x0_2 x3) x4
                have h70 := (gb1_2.ext x3).ext x4
                have h71 := (g0_2.ext x3).ext x4
                exact NW.J fun a ha => ⟨ha.sub ⟨rfl, rfl, rfl, trivial⟩, by omega, h67, h68, h69, h70, h71, H⟩
            intro a w6 hJ hp
            obtain ⟨hS, hle, gF1_3, gF2_3, x0_3, gb1_3, g0_3, H⟩ := hJ
            unfold hermitagelaw1_SegNots.j1 at H
            refine CW.go hp hS ?_
            refine CW.lex [.W, .W, .W] rfl ?_
            refine RW.pure tabOk 3 rfl ?_
            refine RW.done ?_
            exact NW.J fun a ha => ⟨n2, Nat.lt_succ_self n2, (w64 (it4_2 + 1)), ha.sub ⟨rfl, rfl, rfl, trivial⟩, by omega, gF1_3, gF2_3, x0_3, gb1_3, g0_3, H⟩
          · rw [if_neg c4] at H
            refine CW.cond_f rfl (decide_eq_false c4) ?_
            refine CW.exit ?_
            refine NW.exit_then (NW.exit_then (NW.exit_hit ?_))
            refine NW.norm_block (NW.next ?_)
            refine CW.lex [.W, .W, .W] rfl ?_
            refine RW.pure tabOk 3 rfl ?_
            refine RW.done ?_
            exact NW.J fun a ha => ⟨n1, Nat.lt_succ_self n1, (w64 (it3_0 + 1)), ha.sub ⟨rfl, rfl, trivial⟩, by omega, gF1_2, gF2_2, x0_2, gb1_2, g0_2, H⟩
      · rw [if_neg c3] at H
        refine CW.cond_f rfl (bool_f c3) ?_
        refine CW.exit ?_
        refine NW.exit_then (NW.exit_then (NW.exit_hit ?_))
        refine NW.next ?_
        refine CW.seq ?_
        refine CW.lex [.X, .W] rfl ?_
        obtain ⟨y10, h72, H⟩ := bind_some H
        refine RW.callF (.inl rfl) ent16 ⟨rfl, rfl, rfl, rfl⟩ rfl rfl (hermitagelaw1_wakes.calls k _ _ g0_1 h72) ?_
        rintro _ w17 ⟨rfl, x12⟩
        refine ⟨_, rfl, x12, ?_⟩
        have sx12 := x12.size
        refine RW.pure tabOk 1 rfl ?_
        refine RW.done ?_
        refine NW.next ?_
        refine CW.ret ?_
        obtain rfl := Option.some.inj H
        have h73 := Ext.trans x0_1 x12
        exact NW.ret1 rfl (by rfl) ⟨rfl, h73⟩

set_option maxHeartbeats 4000000 in
set_option maxRecDepth 100000 in
theorem seg_Check.calls (k : Nat) (A1 : Option Addr) (c_1 : Nat) (p0 : List Seg) (r : Int) (w : World) (hs1 : Sl kSeg w.heap okAll A1 p0) (hl1 : p0.length ≤ c_1) (H : seg_Check.f k p0 = some r) :
    Calls Tryd.prog 24 #[.slice A1 p0.length c_1] w fun e w' => e = .returned (.int .i64 r) ∧ Ext w w' := by
  have h1 : Sl kSeg w.heap (okL [(0, some w.heap.size, none)]) A1 p0 := hs1.old _ rfl
  have x0 : Ext w w := Upd.refl _ w
  unfold seg_Check.f at H
  refine calls_start Tryd.func24 rfl 6 rfl [.slice A1 p0.length c_1] rfl ?_
  refine CW.seq ?_
  refine CW.lex [.W] rfl ?_
  refine RW.pure tabOk 1 rfl ?_
  refine RW.done ?_
  refine NW.next ?_
  refine CW.seq ?_
  refine CW.seq ?_
  refine CW.lex [.W, .X, .W] rfl ?_
  refine RW.pure tabOk 1 rfl ?_
  obtain ⟨y1, h2, H⟩ := bind_some H
  refine RW.callF (.inl rfl) ent51 ⟨rfl, rfl, rfl, rfl⟩ rfl rfl (seg_May.calls k A1 c_1 p0 _ _ h1.all hl1 h2) ?_
  rintro _ w1 ⟨rfl, x1⟩
  refine ⟨_, rfl, x1, ?_⟩
  have sx1 := x1.size
  refine RW.pure tabOk 1 rfl ?_
  refine RW.done ?_
  refine NW.next ?_
  by_cases c1 : y1 = true
  · rw [if_pos c1] at H
    refine CW.cond_f rfl (not_f (c1)) ?_
    refine CW.skip ?_
    refine NW.next ?_
    refine CW.seq ?_
    refine CW.lex [.W] rfl ?_
    refine RW.pure tabOk 1 rfl ?_
    refine RW.done ?_
    refine NW.next ?_
    refine CW.ret ?_
    obtain rfl := Option.some.inj H
    have h3 := Ext.trans x0 x1
    exact NW.ret1 rfl (by rfl) ⟨rfl, h3⟩
  · rw [if_neg c1] at H
    refine CW.cond_t rfl (not_t (bool_f c1)) ?_
    refine CW.seq ?_
    refine CW.lex [.W] rfl ?_
    refine RW.pure tabOk 1 rfl ?_
    refine RW.done ?_
    refine NW.next ?_
    refine CW.ret ?_
    refine NW.ret_then ?_
    obtain rfl := Option.some.inj H
    have h4 := Ext.trans x0 x1
    exact NW.ret1 rfl (by rfl) ⟨rfl, h4⟩

set_option maxHeartbeats 4000000 in
set_option maxRecDepth 100000 in
theorem seg_List.calls (k : Nat) (A1 : Option Addr) (c_1 : Nat) (p0 : List Seg) (r : (List Int) × Int) (w : World) (hs1 : Sl kSeg w.heap okAll A1 p0) (hl1 : p0.length ≤ c_1) {gT : Nat} (hG : Box w.heap 0 gT (arrI .u8 64 tz)) (H : seg_List.f k p0 = some r) :
    Calls Tryd.prog 25 #[.slice A1 p0.length c_1] w fun e w' => ∃ (B1 : Option Addr) (d1 : Nat), e = .returned (.tuple #[.slice B1 r.1.length d1, .int .i64 r.2]) ∧ Ext w w' ∧ Ow (Kd.int .i64) 3 w'.heap (okL [(w.heap.size, none, some 3)]) (okL []) B1 d1 r.1 := by
  have h1 : Sl kSeg w.heap (okL [(0, some w.heap.size, none)]) A1 p0 := hs1.old _ rfl
  have hG0 : 0 < w.heap.size := hG.lt
  have x0 : Ext w w := Upd.refl _ w
  unfold seg_List.f at H
  refine calls_start Tryd.func25 rfl 10 rfl [.slice A1 p0.length c_1] rfl ?_
  refine CW.seq ?_
  refine CW.lex [.W, .W] rfl ?_
  refine RW.pure tabOk 2 rfl ?_
  refine RW.done ?_
  refine NW.next ?_
  refine CW.seq ?_
  refine CW.seq ?_
  refine CW.lex [.W, .X, .W] rfl ?_
  refine RW.pure tabOk 1 rfl ?_
  obtain ⟨y1, h2, H⟩ := bind_some H
  refine RW.callF (.inl rfl) ent51 ⟨rfl, rfl, rfl, rfl⟩ rfl rfl (seg_May.calls k A1 c_1 p0 _ _ h1.all hl1 h2) ?_
  rintro _ w1 ⟨rfl, x1⟩
  refine ⟨_, rfl, x1, ?_⟩
  have sx1 := x1.size
  refine RW.pure tabOk 1 rfl ?_
  refine RW.done ?_
  refine NW.next ?_
  by_cases c1 : y1 = true
  · rw [if_pos c1] at H
    refine CW.cond_f rfl (not_f (c1)) ?_
    refine CW.skip ?_
    refine NW.next ?_
    refine CW.seq ?_
    refine CW.lex [.W, .X, .X, .W, .W] rfl ?_
    refine RW.pure tabOk 1 rfl ?_
    have h3 := h1.ext x1
    obtain ⟨y2, h4, H⟩ := bind_some H
    refine RW.callF (.inl rfl) ent52 ⟨rfl, rfl, rfl, rfl⟩ rfl rfl (seg_Make.calls k A1 c_1 p0 _ _ h3.all hl1 h4) ?_
    rintro _ w2 ⟨rfl, x2⟩
    refine ⟨_, rfl, x2, ?_⟩
    have sx2 := x2.size
    have h5 := (hG.ext x1).ext x2
    obtain ⟨y3, h6, H⟩ := bind_some H
    refine RW.callF (.inl rfl) ent60 ⟨rfl, rfl, rfl, rfl⟩ rfl rfl (seg_Set_Sectors.calls k y2 _ _ h5 h6) ?_
    rintro _ w3 ⟨A2, c_2, rfl, x3, h7⟩
    refine ⟨_, rfl, x3, ?_⟩
    have sx3 := x3.size
    have h8 : Ow (Kd.int .i64) 3 w3.heap (okL [(w2.heap.size, some w3.heap.size, some 3)]) (okL []) A2 c_2 y3 := h7.close
    refine RW.pure tabOk 2 rfl ?_
    refine RW.done ?_
    refine NW.next ?_
    refine CW.ret ?_
    obtain rfl := Option.some.inj H
    have h9 := Ext.trans (Ext.trans (Ext.trans x0 x1) x2) x3
    exact NW.ret2 rfl (by rfl) (by rfl) ⟨A2, c_2, rfl, h9, (h8.sub (l' := [(w.heap.size, none, some 3)]) (li' := []) ⟨(.inl ⟨by omega, trivial, rfl⟩), trivial⟩ trivial)⟩
  · rw [if_neg c1] at H
    refine CW.cond_t rfl (not_t (bool_f c1)) ?_
    refine CW.seq ?_
    refine CW.lex [.W, .W] rfl ?_
    refine RW.pure tabOk 2 rfl ?_
    refine RW.done ?_
    refine NW.next ?_
    refine CW.ret ?_
    refine NW.ret_then ?_
    obtain rfl := Option.some.inj H
    have h10 := Ext.trans x0 x1
    exact NW.ret2 rfl (by rfl) (by rfl) ⟨none, 0, rfl, h10, Ow.nil⟩

set_option maxHeartbeats 4000000 in
set_option maxRecDepth 100000 in
theorem seg_Of_1.calls (p0 : Int) (r : Bool) (w : World) (H : seg_Of_1.f p0 = some r) :
    Calls Tryd.prog 62 #[.int .i64 p0] w fun e w' => e = .returned (.bool r) ∧ Ext w w' := by
  have x0 : Ext w w := Upd.refl _ w
  unfold seg_Of_1.f at H
  refine calls_start Tryd.func62 rfl 9 rfl [.int .i64 p0] rfl ?_
  refine CW.seq ?_
  refine CW.lex [.W] rfl ?_
  refine RW.pure tabOk 1 rfl ?_
  refine RW.done ?_
  refine NW.next ?_
  refine CW.seq ?_
  refine CW.lex [.W, .W, .W, .W, .W, .W, .W] rfl ?_
  refine RW.pure tabOk 3 rfl ?_
  by_cases c1 : p0 < 0
  · rw [if_pos c1] at H
    refine RW.bool 5 (b' := true) (decide_eq_true c1) rfl ?_
    refine RW.pure tabOk 4 rfl ?_
    refine RW.done ?_
    refine NW.next ?_
    refine CW.ret ?_
    obtain rfl := Option.some.inj H
    exact NW.ret1 rfl (by rfl) ⟨rfl, x0⟩
  · rw [if_neg c1] at H
    refine RW.bool 5 (b' := false) (decide_eq_false c1) rfl ?_
    refine RW.pure tabOk 4 rfl ?_
    refine RW.done ?_
    refine NW.next ?_
    refine CW.ret ?_
    obtain rfl := Option.some.inj H
    exact NW.ret1 rfl (by rfl) ⟨rfl, x0⟩

set_option maxHeartbeats 4000000 in
set_option maxRecDepth 100000 in
theorem seg_One.calls (p0 : Int) (r : Int) (w : World) (H : seg_One.f p0 = some r) :
    Calls Tryd.prog 63 #[.int .i64 p0] w fun e w' => e = .returned (.int .u64 r) ∧ Ext w w' := by
  have x0 : Ext w w := Upd.refl _ w
  unfold seg_One.f at H
  refine calls_start Tryd.func63 rfl 5 rfl [.int .i64 p0] rfl ?_
  refine CW.seq ?_
  refine CW.lex [.W] rfl ?_
  refine RW.pure tabOk 1 rfl ?_
  refine RW.done ?_
  refine NW.next ?_
  refine CW.seq ?_
  refine CW.lex [.W, .W, .W] rfl ?_
  refine RW.pure tabOk 1 rfl ?_
  obtain ⟨g1, H⟩ := guard_some H
  refine RW.shift g1 ⟨rfl, rfl, rfl, rfl⟩ rfl rfl rfl rfl ?_
  refine RW.pure tabOk 1 rfl ?_
  refine RW.done ?_
  refine NW.next ?_
  refine CW.ret ?_
  obtain rfl := Option.some.inj H
  exact NW.ret1 rfl (by rfl) ⟨rfl, x0⟩

set_option maxHeartbeats 4000000 in
set_option maxRecDepth 100000 in
theorem seg_Of.calls (k : Nat) (A1 : Option Addr) (c_1 : Nat) (p0 : List Int) (r : (List Seg) × Int) (w : World) (hs1 : Sl (Kd.int .i64) w.heap okAll A1 p0) (hl1 : p0.length ≤ c_1) {gT : Nat} (hG : Box w.heap 0 gT (arrI .u8 64 tz)) (H : seg_Of.f k p0 = some r) :
    Calls Tryd.prog 26 #[.slice A1 p0.length c_1] w fun e w' => ∃ (B1 : Option Addr) (d1 : Nat), e = .returned (.tuple #[.slice B1 r.1.length d1, .int .i64 r.2]) ∧ Ext w w' ∧ Ow kSeg 93 w'.heap (okL [(w.heap.size, none, some 93)]) (okL []) B1 d1 r.1 := by
  have h1 : Sl (Kd.int .i64) w.heap (okL [(0, some w.heap.size, none)]) A1 p0 := hs1.old _ rfl
  have hG0 : 0 < w.heap.size := hG.lt
  have x0 : Ext w w := Upd.refl _ w
  unfold seg_Of.f at H
  refine calls_start Tryd.func26 rfl 22 rfl [.slice A1 p0.length c_1] rfl ?_
  refine CW.seq ?_
  refine CW.lex [.W, .W] rfl ?_
  refine RW.pure tabOk 2 rfl ?_
  refine RW.done ?_
  refine NW.next ?_
  refine CW.seq ?_
  refine CW.lex [.W] rfl ?_
  refine RW.pure tabOk 1 rfl ?_
  refine RW.done ?_
  refine NW.next ?_
  refine CW.seq ?_
  refine CW.seq ?_
  refine CW.lex [.W, .X] rfl ?_
  refine RW.pure tabOk 1 rfl ?_
  have xc1 : Ext w w := Upd.refl _ _
  refine RW.callK (.inl rfl) ent61 ⟨rfl, rfl, rfl, rfl⟩ rfl rfl rfl ?_
  refine calls_start Tryd.func61 rfl 9 rfl [.slice A1 p0.length c_1, .func (.func 62) #[] #[]] rfl ?_
  refine CW.seq ?_
  refine CW.lex [.W] rfl ?_
  refine RW.pure tabOk 1 rfl ?_
  refine RW.done ?_
  refine NW.next ?_
  refine CW.seq ?_
  refine CW.lex [.W, .W, .X, .W, .W] rfl ?_
  refine RW.pure tabOk 2 rfl ?_
  have xc2 : Ext w w := Upd.refl _ _
  refine RW.callV (R := fun e w1 => ∃ (it7_0 : Int), e = .returned (.int .i64 it7_0) ∧ w.heap.size ≤ w1.heap.size ∧ Sl (Kd.int .i64) w1.heap (okL [(0, some w.heap.size, none)]) A1 p0 ∧ Ext w w1 ∧ Ext w w1 ∧ Ext w w1 ∧ Box w1.heap 0 gT (arrI .u8 64 tz) ∧ seg_Of.j0 p0 k it7_0 = some r) (.inl rfl) ent81 ⟨rfl, rfl, rfl, rfl⟩ rfl rfl rfl ?_ ?_
  ·
    refine calls_start Tryd.func81 rfl 19 rfl [.slice A1 p0.length c_1, .func (.func 62) #[] #[]] rfl ?_
    refine CW.seq ?_
    refine CW.lex [.W] rfl ?_
    refine RW.pure tabOk 1 rfl ?_
    refine RW.done ?_
    refine NW.next ?_
    refine CW.seq ?_
    refine CW.seq ?_
    refine CW.lex [.W, .W, .W] rfl ?_
    refine RW.pure tabOk 3 rfl ?_
    refine RW.done ?_
    refine NW.next ?_
    refine CW.block ?_
    refine CW.loop (fun n1 a w2 => ∃ (it8_1 : Int), Sat 19 [(0, .slice A1 p0.length c_1), (1, .func (.func 62) #[] #[]), (7, .int .i64 (p0.length : Int)), (8, .int .i64 it8_1)] a ∧ w.heap.size ≤ w2.heap.size ∧ Sl (Kd.int .i64) w2.heap (okL [(0, some w.heap.size, none)]) A1 p0 ∧ Ext w w2 ∧ Ext w w2 ∧ Ext w w2 ∧ Box w2.heap 0 gT (arrI .u8 64 tz) ∧ seg_Of.l0 p0 k n1 it8_1 = some r) k ?_ ?_
    · exact fun a ha => ⟨0, ha.sub ⟨rfl, rfl, rfl, rfl, trivial⟩, by omega, h1, x0, xc1, xc2, hG, H⟩
    intro n1 a w2 hI hp
    obtain ⟨it8_1, hS, hle, gF1_1, x0_1, x_xc1_1, x_xc2_1, g0_1, H⟩ := hI
    cases n1 with
    | zero => cases H
    | succ n1 =>
      rw [seg_Of.l0] at H
      refine CW.go hp hS ?_
      refine CW.seq ?_
      refine CW.lex [.W] rfl ?_
      refine RW.pure tabOk 1 rfl ?_
      refine RW.done ?_
      refine NW.next ?_
      refine CW.seq ?_
      by_cases c1 : it8_1 < (p0.length : Int)
      · rw [if_pos c1] at H
        refine CW.cond_t rfl (decide_eq_true c1) ?_
        refine CW.skip ?_
        refine NW.next ?_
        refine CW.seq ?_
        refine CW.block ?_
        refine CW.seq ?_
        refine CW.lex [.W, .W] rfl ?_
        refine RW.pure tabOk 2 rfl ?_
        refine RW.done ?_
        refine NW.next ?_
        refine CW.seq ?_
        refine CW.lex [.W, .W, .W, .W, .L, .M] rfl ?_
        refine RW.pure tabOk 3 rfl ?_
        obtain ⟨g1, H⟩ := guard_some H
        obtain ⟨ad1, e1, a1⟩ := at_i64 gF1_1 g1.1 g1.2
        refine RW.index tabOk g1.1 g1.2 e1 ⟨rfl, rfl, rfl, rfl⟩ rfl rfl rfl rfl rfl rfl ?_
        refine RW.load tabOk [.int .i64 (rd p0 it8_1)] a1 ⟨rfl, rfl, rfl, rfl⟩ rfl rfl rfl rfl ?_
        obtain ⟨y1, h2, H⟩ := bind_some H
        refine RW.callV (cap := []) (.inr rfl) ent62 ⟨rfl, rfl, rfl, rfl⟩ rfl rfl rfl (seg_Of_1.calls (rd p0 it8_1) _ _ h2) ?_
        rintro _ w3 ⟨rfl, x1⟩
        refine ⟨_, rfl, x1, ?_⟩
        have sx1 := x1.size
        refine RW.done ?_
        refine NW.next ?_
        by_cases c2 : y1 = true
        · rw [if_pos c2] at H
          refine CW.cond_t rfl (c2) ?_
          refine CW.seq ?_
          refine CW.lex [.W, .W] rfl ?_
          refine RW.pure tabOk 2 rfl ?_
          refine RW.done ?_
          refine NW.next ?_
          refine CW.ret ?_
          refine NW.ret_block (NW.ret_then (NW.ret_then (NW.ret_block (NW.ret_then ?_))))
          have h3 := gF1_1.ext x1
          have h4 := Ext.trans x0_1 x1
          have h5 := Ext.trans x_xc1_1 x1
          have h6 := Ext.trans x_xc2_1 x1
          have h7 := g0_1.ext x1
          exact NW.ret1 rfl (by rfl) ⟨it8_1, rfl, by omega, h3, h4, h5, h6, h7, H⟩
        · rw [if_neg c2] at H
          refine CW.cond_f rfl (bool_f c2) ?_
          refine CW.skip ?_
          refine NW.norm_block (NW.next ?_)
          refine CW.lex [.W, .W] rfl ?_
          refine RW.pure tabOk 2 rfl ?_
          refine RW.done ?_
          have h8 := gF1_1.ext x1
          have h9 := Ext.trans x0_1 x1
          have h10 := Ext.trans x_xc1_1 x1
          have h11 := Ext.trans x_xc2_1 x1
          have h12 := g0_1.ext x1
          exact NW.J fun a ha => ⟨n1, Nat.lt_succ_self n1, (w64 (it8_1 + 1)), ha.sub ⟨rfl, rfl, rfl, rfl, trivial⟩, by omega, h8, h9, h10, h11, h12, H⟩
      · rw [if_neg c1] at H
        refine CW.cond_f rfl (decide_eq_false c1) ?_
        refine CW.exit ?_
        refine NW.exit_then (NW.exit_then (NW.exit_hit ?_))
        refine NW.next ?_
        refine CW.seq ?_
        refine CW.lex [.W] rfl ?_
        refine RW.pure tabOk 1 rfl ?_
        refine RW.done ?_
        refine NW.next ?_
        refine CW.ret ?_
        exact NW.ret1 rfl (by rfl) ⟨(-1), rfl, by omega, gF1_1, x0_1, x_xc1_1, x_xc2_1, g0_1, H⟩
  rintro _ w1 ⟨it7_0, rfl, hle, gF1_0, x0_0, x_xc1_0, x_xc2_0, g0_0, H⟩
  refine ⟨_, rfl, x_xc2_0, ?_⟩
  unfold seg_Of.j0 at H
  refine RW.pure tabOk 2 rfl ?_
  refine RW.done ?_
  refine NW.next ?_
  refine CW.ret ?_
  refine NW.ret1 rfl (by rfl) ⟨_, rfl, x_xc1_0, ?_⟩
  refine RW.done ?_
  refine NW.next ?_
  by_cases c3 : 0 ≤ it7_0
  · rw [if_pos c3] at H
    refine CW.cond_t rfl (decide_eq_true c3) ?_
    refine CW.seq ?_
    refine CW.lex [.W, .W] rfl ?_
    refine RW.pure tabOk 2 rfl ?_
    refine RW.done ?_
    refine NW.next ?_
    refine CW.ret ?_
    refine NW.ret_then ?_
    obtain rfl := Option.some.inj H
    exact NW.ret2 rfl (by rfl) (by rfl) ⟨none, 0, rfl, x0_0, Ow.nil⟩
  · rw [if_neg c3] at H
    refine CW.cond_f rfl (decide_eq_false c3) ?_
    refine CW.skip ?_
    refine NW.next ?_
    refine CW.seq ?_
    refine CW.seq ?_
    refine CW.lex [.W, .W, .W] rfl ?_
    refine RW.pure tabOk 3 rfl ?_
    refine RW.done ?_
    refine NW.next ?_
    refine CW.block ?_
    refine CW.loop (fun n2 a w4 => ∃ (it4_2 : Int) (it11_2 : Int), Sat 22 [(4, .int .u64 it4_2), (9, .slice A1 p0.length c_1), (10, .int .i64 (p0.length : Int)), (11, .int .i64 it11_2)] a ∧ w1.heap.size ≤ w4.heap.size ∧ Sl (Kd.int .i64) w4.heap (okL [(0, some w.heap.size, none)]) A1 p0 ∧ Ext w w4 ∧ Box w4.heap 0 gT (arrI .u8 64 tz) ∧ seg_Of.l1 p0 k n2 it4_2 it11_2 = some r) k ?_ ?_
    · exact fun a ha => ⟨0, 0, ha.sub ⟨rfl, rfl, rfl, rfl, trivial⟩, by omega, gF1_0, x0_0, g0_0, H⟩
    intro n2 a w4 hI hp
    obtain ⟨it4_2, it11_2, hS, hle, gF1_2, x0_2, g0_2, H⟩ := hI
    cases n2 with
    | zero => cases H
    | succ n2 =>
      rw [seg_Of.l1] at H
      refine CW.go hp hS ?_
      refine CW.seq ?_
      refine CW.lex [.W] rfl ?_
      refine RW.pure tabOk 1 rfl ?_
      refine RW.done ?_
      refine NW.next ?_
      refine CW.seq ?_
      by_cases c4 : it11_2 < (p0.length : Int)
      · rw [if_pos c4] at H
        refine CW.cond_t rfl (decide_eq_true c4) ?_
        refine CW.skip ?_
        refine NW.next ?_
        refine CW.seq ?_
        refine CW.block ?_
        refine CW.seq ?_
        refine CW.lex [.W, .L, .W] rfl ?_
        obtain ⟨g2, H⟩ := guard_some H
        obtain ⟨ad2, e2, a2⟩ := at_i64 gF1_2 g2.1 g2.2
        refine RW.index tabOk g2.1 g2.2 e2 ⟨rfl, rfl, rfl, rfl⟩ rfl rfl rfl rfl rfl rfl ?_
        refine RW.load tabOk [.int .i64 (rd p0 it11_2)] a2 ⟨rfl, rfl, rfl, rfl⟩ rfl rfl rfl rfl ?_
        refine RW.pure tabOk 1 rfl ?_
        refine RW.done ?_
        refine NW.next ?_
        refine CW.lex [.W, .W, .X, .W, .W] rfl ?_
        refine RW.pure tabOk 2 rfl ?_
        obtain ⟨y2, h13, H⟩ := bind_some H
        refine RW.callF (.inl rfl) ent63 ⟨rfl, rfl, rfl, rfl⟩ rfl rfl (seg_One.calls (rd p0 it11_2) _ _ h13) ?_
        rintro _ w5 ⟨rfl, x2⟩
        refine ⟨_, rfl, x2, ?_⟩
        have sx2 := x2.size
        refine RW.pure tabOk 2 rfl ?_
        refine RW.done ?_
        refine NW.norm_block (NW.next ?_)
        refine CW.lex [.W, .W] rfl ?_
        refine RW.pure tabOk 2 rfl ?_
        refine RW.done ?_
        have h14 := gF1_2.ext x2
        have h15 := Ext.trans x0_2 x2
        have h16 := g0_2.ext x2
        exact NW.J fun a ha => ⟨n2, Nat.lt_succ_self n2, (uor it4_2 y2), (w64 (it11_2 + 1)), ha.sub ⟨rfl, rfl, rfl, rfl, trivial⟩, by omega, h14, h15, h16, H⟩
      · rw [if_neg c4] at H
        refine CW.cond_f rfl (decide_eq_false c4) ?_
        refine CW.exit ?_
        refine NW.exit_then (NW.exit_then (NW.exit_hit ?_))
        refine NW.next ?_
        refine CW.seq ?_
        refine CW.lex [.W, .X, .W, .W] rfl ?_
        refine RW.pure tabOk 1 rfl ?_
        obtain ⟨y3, h17, H⟩ := bind_some H
        refine RW.callF (.inl rfl) ent53 ⟨rfl, rfl, rfl, rfl⟩ rfl rfl (seg_Set_Segs.calls k it4_2 _ _ g0_2 h17) ?_
        rintro _ w6 ⟨A2, c_2, rfl, x3, h18⟩
        refine ⟨_, rfl, x3, ?_⟩
        have sx3 := x3.size
        have h19 : Ow kSeg 93 w6.heap (okL [(w4.heap.size, some w6.heap.size, some 93)]) (okL []) A2 c_2 y3 := h18.close
        refine RW.pure tabOk 2 rfl ?_
        refine RW.done ?_
        refine NW.next ?_
        refine CW.ret ?_
        obtain rfl := Option.some.inj H
        have h20 := Ext.trans x0_2 x3
        exact NW.ret2 rfl (by rfl) (by rfl) ⟨A2, c_2, rfl, h20, (h19.sub (l' := [(w.heap.size, none, some 93)]) (li' := []) ⟨(.inl ⟨by omega, trivial, rfl⟩), trivial⟩ trivial)⟩

set_option maxHeartbeats 4000000 in
set_option maxRecDepth 100000 in
theorem hermitagelaw1_SegParts.calls (k : Nat) (p0 : hermitagelaw1Ask) (A1 : Option Addr) (c_1 : Nat) (A2 : Option Addr) (c_2 : Nat) (r : Bool) (w : World) (hs1 : Sl (Kd.sl kSeg) w.heap okAll A1 p0.L) (hl1 : p0.L.length ≤ c_1) (hs2 : Sl (Kd.int .i64) w.heap okAll A2 p0.N) (hl2 : p0.N.length ≤ c_2) {gT : Nat} (hG : Box w.heap 0 gT (arrI .u8 64 tz)) (H : hermitagelaw1_SegParts.f k p0 = some r) :
    Calls Tryd.prog 6 #[.agg #[.slice A1 p0.L.length c_1, .slice A2 p0.N.length c_2]] w fun e w' => e = .returned (.bool r) ∧ Ext w w' := by
  have h1 : Sl (Kd.sl kSeg) w.heap (okL [(0, some w.heap.size, none)]) A1 p0.L := hs1.old _ rfl
  have h2 : Sl (Kd.int .i64) w.heap (okL [(0, some w.heap.size, none)]) A2 p0.N := hs2.old _ rfl
  have hG0 : 0 < w.heap.size := hG.lt
  have x0 : Ext w w := Upd.refl _ w
  unfold hermitagelaw1_SegParts.f at H
  refine calls_start Tryd.func6 rfl 152 rfl [.agg #[.slice A1 p0.L.length c_1, .slice A2 p0.N.length c_2]] rfl ?_
  refine CW.seq ?_
  refine CW.lex [.X, .W] rfl ?_
  refine RW.box (cs := [.slice A1 p0.L.length c_1, .slice A2 p0.N.length c_2]) (.inl rfl) ⟨rfl, rfl, rfl, rfl⟩ rfl rfl rfl ?_
  intro b1 w1 x1 l1 h3
  have sx1 := x1.size
  have ltb1 := h3.lt
  refine RW.pure tabOk 1 rfl ?_
  refine RW.done ?_
  refine NW.next ?_
  refine CW.seq ?_
  refine CW.seq ?_
  refine CW.lex [.L, .X] rfl ?_
  refine RW.load tabOk [.slice A1 p0.L.length c_1, .slice A2 p0.N.length c_2] (h3.at 0) ⟨rfl, rfl, rfl, rfl⟩ rfl rfl rfl rfl ?_
  have h4 := h1.ext x1
  have h5 := h2.ext x1
  obtain ⟨y1, h6, H⟩ := bind_some H
  refine RW.callF (.inl rfl) ent11 ⟨rfl, rfl, rfl, rfl⟩ rfl rfl (hermitagelaw1_Heavy.calls k p0 A1 c_1 A2 c_2 _ _ h4.all hl1 h5.all hl2 h6) ?_
  rintro _ w2 ⟨rfl, x2⟩
  refine ⟨_, rfl, x2, ?_⟩
  have sx2 := x2.size
  refine RW.done ?_
  refine NW.next ?_
  by_cases c1 : y1 = true
  · rw [if_pos c1] at H
    refine CW.cond_t rfl (c1) ?_
    refine CW.seq ?_
    refine CW.lex [.W] rfl ?_
    refine RW.pure tabOk 1 rfl ?_
    refine RW.done ?_
    refine NW.next ?_
    refine CW.ret ?_
    refine NW.ret_then ?_
    obtain rfl := Option.some.inj H
    have h7 := Ext.trans (Ext.trans x0 x1) x2
    exact NW.ret1 rfl (by rfl) ⟨rfl, h7⟩
  · rw [if_neg c1] at H
    refine CW.cond_f rfl (bool_f c1) ?_
    refine CW.skip ?_
    refine NW.next ?_
    refine CW.seq ?_
    refine CW.seq ?_
    refine CW.lex [.W] rfl ?_
    refine RW.pure tabOk 1 rfl ?_
    refine RW.done ?_
    refine NW.next ?_
    refine CW.block ?_
    refine CW.loop (fun n1 a w3 => ∃ (it3_0 : Int), Sat 152 [(1, .pointer (some ⟨b1, 0, none⟩)), (3, .int .i64 it3_0)] a ∧ w2.heap.size ≤ w3.heap.size ∧ Sl (Kd.sl kSeg) w3.heap (okL [(0, some w.heap.size, none)]) A1 p0.L ∧ Sl (Kd.int .i64) w3.heap (okL [(0, some w.heap.size, none)]) A2 p0.N ∧ Ext w w3 ∧ Box w3.heap b1 25 [.slice A1 p0.L.length c_1, .slice A2 p0.N.length c_2] ∧ Box w3.heap 0 gT (arrI .u8 64 tz) ∧ hermitagelaw1_SegParts.l0 p0 k n1 it3_0 = some r) k ?_ ?_
    have h8 := h4.ext x2
    have h9 := h5.ext x2
    have h10 := Ext.trans (Ext.trans x0 x1) x2
    have h11 := h3.ext x2
    have h12 := (hG.ext x1).ext x2
    · exact fun a ha => ⟨0, ha.sub ⟨rfl, rfl, trivial⟩, by omega, h8, h9, h10, h11, h12, H⟩
    intro n1 a w3 hI hp
    obtain ⟨it3_0, hS, hle, gF1_0, gF2_0, x0_0, gb1_0, g0_0, H⟩ := hI
    cases n1 with
    | zero => cases H
    | succ n1 =>
      rw [hermitagelaw1_SegParts.l0] at H
      refine CW.go hp hS ?_
      refine CW.seq ?_
      refine CW.seqJ (fun a w4 => ∃ (bt33_1 : Bool), Sat 152 [(1, .pointer (some ⟨b1, 0, none⟩)), (3, .int .i64 it3_0), (33, .bool bt33_1)] a ∧ w3.heap.size ≤ w4.heap.size ∧ Sl (Kd.sl kSeg) w4.heap (okL [(0, some w.heap.size, none)]) A1 p0.L ∧ Sl (Kd.int .i64) w4.heap (okL [(0, some w.heap.size, none)]) A2 p0.N ∧ Ext w w4 ∧ Box w4.heap b1 25 [.slice A1 p0.L.length c_1, .slice A2 p0.N.length c_2] ∧ Box w4.heap 0 gT (arrI .u8 64 tz) ∧ hermitagelaw1_SegParts.j0 p0 k it3_0 (hermitagelaw1_SegParts.l0 p0 k n1) bt33_1 = some r) ?_ ?_
      ·
        refine CW.lex [.W, .W, .W, .L, .W, .W, .W, .W, .W, .W] rfl ?_
        refine RW.pure tabOk 3 rfl ?_
        refine RW.load tabOk [.slice A1 p0.L.length c_1] ((gb1_0.at 0).take 1 rfl) ⟨rfl, rfl, rfl, rfl⟩ rfl rfl rfl rfl ?_
        refine RW.pure tabOk 3 rfl ?_
        by_cases c2 : (w64 (it3_0 + 1)) < (p0.L.length : Int)
        · rw [if_pos c2] at H
          refine RW.bool 30 (b' := true) (decide_eq_true c2) rfl ?_
          refine RW.pure tabOk 3 rfl ?_
          refine RW.done ?_
          exact NW.J fun a ha => ⟨(decide (it3_0 < 5)), ha.sub ⟨rfl, rfl, rfl, trivial⟩, by omega, gF1_0, gF2_0, x0_0, gb1_0, g0_0, H⟩
        · rw [if_neg c2] at H
          refine RW.bool 30 (b' := false) (decide_eq_false c2) rfl ?_
          refine RW.pure tabOk 3 rfl ?_
          refine RW.done ?_
          exact NW.J fun a ha => ⟨false, ha.sub ⟨rfl, rfl, rfl, trivial⟩, by omega, gF1_0, gF2_0, x0_0, gb1_0, g0_0, H⟩
      intro a w4 hJ hp
      obtain ⟨bt33_1, hS, hle, gF1_1, gF2_1, x0_1, gb1_1, g0_1, H⟩ := hJ
      unfold hermitagelaw1_SegParts.j0 at H
      refine CW.go hp hS ?_
      by_cases c3 : bt33_1 = true
      · rw [if_pos c3] at H
        refine CW.cond_t rfl (c3) ?_
        refine CW.skip ?_
        refine NW.next ?_
        refine CW.seqJ (fun a w5 => Sat 152 [(1, .pointer (some ⟨b1, 0, none⟩)), (3, .int .i64 it3_0)] a ∧ w4.heap.size ≤ w5.heap.size ∧ Sl (Kd.sl kSeg) w5.heap (okL [(0, some w.heap.size, none)]) A1 p0.L ∧ Sl (Kd.int .i64) w5.heap (okL [(0, some w.heap.size, none)]) A2 p0.N ∧ Ext w w5 ∧ Box w5.heap b1 25 [.slice A1 p0.L.length c_1, .slice A2 p0.N.length c_2] ∧ Box w5.heap 0 gT (arrI .u8 64 tz) ∧ hermitagelaw1_SegParts.j1 it3_0 (hermitagelaw1_SegParts.l0 p0 k n1) = some r) ?_ ?_
        ·
          refine CW.block ?_
          refine CW.seq ?_
          refine CW.ord [0, 1, 0, 7, 15, 0, 32, 0, 128, 480, 992, 31, 4095] [(0, .W), (2, .W), (5, .W), (7, .W), (8, .W), (1, .L), (3, .W), (4, .L), (11, .W), (6, .L), (9, .W), (10, .L), (12, .W)] mixed (by kernel_rfl) ?_
          intro w6 x3
          have sx3 := x3.size
          refine RW.pure tabOk 5 rfl ?_
          have h13 := gb1_1.ext x3
          refine RW.load tabOk [.slice A1 p0.L.length c_1] ((h13.at 0).take 1 rfl) ⟨rfl, rfl, rfl, rfl⟩ rfl rfl rfl rfl ?_
          obtain ⟨g1, H⟩ := guard_some H
          have h14 := gF1_1.ext x3
          obtain ⟨ad1, A3, c_3, e1, a1, l2, h15⟩ := sl_at h14 g1.1 g1.2
          refine RW.index tabOk g1.1 g1.2 e1 ⟨rfl, rfl, rfl, rfl⟩ rfl rfl rfl rfl rfl rfl ?_
          refine RW.load tabOk [.slice A3 (rd p0.L it3_0).length c_3] a1 ⟨rfl, rfl, rfl, rfl⟩ rfl rfl rfl rfl ?_
          refine RW.pure tabOk 1 rfl ?_
          refine RW.load tabOk [.slice A1 p0.L.length c_1] ((h13.at 0).take 1 rfl) ⟨rfl, rfl, rfl, rfl⟩ rfl rfl rfl rfl ?_
          obtain ⟨g2, H⟩ := guard_some H
          obtain ⟨ad2, A4, c_4, e2, a2, l3, h16⟩ := sl_at h14 g2.1 g2.2
          refine RW.index tabOk g2.1 g2.2 e2 ⟨rfl, rfl, rfl, rfl⟩ rfl rfl rfl rfl rfl rfl ?_
          refine RW.load tabOk [.slice A4 (rd p0.L (w64 (it3_0 + 1))).length c_4] a2 ⟨rfl, rfl, rfl, rfl⟩ rfl rfl rfl rfl ?_
          refine RW.pure tabOk 1 rfl ?_
          refine RW.done ?_
          refine NW.next ?_
          refine CW.seq ?_
          refine CW.seqJ (fun a w7 => ∃ (bt56_3 : Bool), Sat 152 [(1, .pointer (some ⟨b1, 0, none⟩)), (3, .int .i64 it3_0), (4, .slice A3 (rd p0.L it3_0).length c_3), (5, .slice A4 (rd p0.L (w64 (it3_0 + 1))).length c_4), (56, .bool bt56_3)] a ∧ w6.heap.size ≤ w7.heap.size ∧ Sl (Kd.sl kSeg) w7.heap (okL [(0, some w.heap.size, none)]) A1 p0.L ∧ Sl (Kd.int .i64) w7.heap (okL [(0, some w.heap.size, none)]) A2 p0.N ∧ Sl kSeg w7.heap (okL [(0, some w.heap.size, none)]) A3 (rd p0.L it3_0) ∧ Sl kSeg w7.heap (okL [(0, some w.heap.size, none)]) A4 (rd p0.L (w64 (it3_0 + 1))) ∧ Ext w w7 ∧ Box w7.heap b1 25 [.slice A1 p0.L.length c_1, .slice A2 p0.N.length c_2] ∧ Box w7.heap 0 gT (arrI .u8 64 tz) ∧ hermitagelaw1_SegParts.j2 p0 k it3_0 (hermitagelaw1_SegParts.l0 p0 k n1) bt56_3 = some r) ?_ ?_
          ·
            refine CW.lex [.W, .X, .X, .W, .W, .W, .X, .X, .W, .W] rfl ?_
            refine RW.pure tabOk 1 rfl ?_
            obtain ⟨y2, h17, H⟩ := bind_some H
            refine RW.callF (.inl rfl) ent24 ⟨rfl, rfl, rfl, rfl⟩ rfl rfl (seg_Check.calls k A3 c_3 (rd p0.L it3_0) _ _ h15.all l2 h17) ?_
            rintro _ w8 ⟨rfl, x4⟩
            refine ⟨_, rfl, x4, ?_⟩
            have sx4 := x4.size
            obtain ⟨y3, h18, H⟩ := bind_some H
            refine RW.callF (.inl rfl) ent14 ⟨rfl, rfl, rfl, rfl⟩ rfl rfl (hermitagelaw1_num.calls y2 _ _ h18) ?_
            rintro _ w9 ⟨rfl, x5⟩
            refine ⟨_, rfl, x5, ?_⟩
            have sx5 := x5.size
            refine RW.pure tabOk 2 rfl ?_
            by_cases c4 : y3 = 0
            · rw [if_pos c4] at H
              refine RW.bool 51 (b' := false) (bne_f c4) rfl ?_
              refine RW.pure tabOk 1 rfl ?_
              have h19 := (h16.ext x4).ext x5
              obtain ⟨y4, h20, H⟩ := bind_some H
              refine RW.callF (.inl rfl) ent24 ⟨rfl, rfl, rfl, rfl⟩ rfl rfl (seg_Check.calls k A4 c_4 (rd p0.L (w64 (it3_0 + 1))) _ _ h19.all l3 h20) ?_
              rintro _ w10 ⟨rfl, x6⟩
              refine ⟨_, rfl, x6, ?_⟩
              have sx6 := x6.size
              obtain ⟨y5, h21, H⟩ := bind_some H
              refine RW.callF (.inl rfl) ent14 ⟨rfl, rfl, rfl, rfl⟩ rfl rfl (hermitagelaw1_num.calls y4 _ _ h21) ?_
              rintro _ w11 ⟨rfl, x7⟩
              refine ⟨_, rfl, x7, ?_⟩
              have sx7 := x7.size
              refine RW.pure tabOk 2 rfl ?_
              refine RW.done ?_
              have h22 := (((h14.ext x4).ext x5).ext x6).ext x7
              have h23 := ((((gF2_1.ext x3).ext x4).ext x5).ext x6).ext x7
              have h24 := (((h15.ext x4).ext x5).ext x6).ext x7
              have h25 := (h19.ext x6).ext x7
              have h26 := Ext.trans (Ext.trans (Ext.trans (Ext.trans (Ext.trans x0_1 x3) x4) x5) x6) x7
              have h27 := (((h13.ext x4).ext x5).ext x6).ext x7
              have h28 := ((((g0_1.ext x3).ext x4).ext x5).ext x6).ext x7
              exact NW.J fun a ha => ⟨(y5 != 0), ha.sub ⟨rfl, rfl, rfl, rfl, rfl, trivial⟩, by omega, h22, h23, h24, h25, h26, h27, h28, H⟩
            · rw [if_neg c4] at H
              refine RW.bool 51 (b' := true) (bne_t c4) rfl ?_
              refine RW.pure tabOk 5 rfl ?_
              refine RW.done ?_
              have h29 := (h14.ext x4).ext x5
              have h30 := ((gF2_1.ext x3).ext x4).ext x5
              have h31 := (h15.ext x4).ext x5
              have h32 := (h16.ext x4).ext x5
              have h33 := Ext.trans (Ext.trans (Ext.trans x0_1 x3) x4) x5
              have h34 := (h13.ext x4).ext x5
              have h35 := ((g0_1.ext x3).ext x4).ext x5
              exact NW.J fun a ha => ⟨true, ha.sub ⟨rfl, rfl, rfl, rfl, rfl, trivial⟩, by omega, h29, h30, h31, h32, h33, h34, h35, H⟩
          intro a w7 hJ hp
          obtain ⟨bt56_3, hS, hle, gF1_3, gF2_3, gF3_3, gF4_3, x0_3, gb1_3, g0_3, H⟩ := hJ
          unfold hermitagelaw1_SegParts.j2 at H
          refine CW.go hp hS ?_
          by_cases c5 : bt56_3 = true
          · rw [if_pos c5] at H
            refine CW.cond_t rfl (c5) ?_
            refine CW.exit ?_
            refine NW.exit_then (NW.exit_hit ?_)
            exact NW.J fun a ha => ⟨ha.sub ⟨rfl, rfl, trivial⟩, by omega, gF1_3, gF2_3, x0_3, gb1_3, g0_3, H⟩
          · rw [if_neg c5] at H
            refine CW.cond_f rfl (bool_f c5) ?_
            refine CW.skip ?_
            refine NW.next ?_
            refine CW.seq ?_
            refine CW.lex [.W, .W, .X, .W, .W, .W, .W, .W] rfl ?_
            refine RW.pure tabOk 2 rfl ?_
            obtain ⟨y6, h36, H⟩ := bind_some H
            refine RW.callF (.inl rfl) ent18 ⟨rfl, rfl, rfl, rfl⟩ rfl rfl (seg_Less.calls k A3 c_3 (rd p0.L it3_0) A4 c_4 (rd p0.L (w64 (it3_0 + 1))) _ _ gF3_3.all l2 gF4_3.all l3 g0_3 h36) ?_
            rintro _ w12 ⟨A5, c_5, rfl, x8, h37⟩
            refine ⟨_, rfl, x8, ?_⟩
            have sx8 := x8.size
            have h38 : Ow kSeg 93 w12.heap (okL [(w7.heap.size, some w12.heap.size, some 93)]) (okL []) A5 c_5 y6.1 := h37.close
            refine RW.pure tabOk 5 rfl ?_
            refine RW.done ?_
            refine NW.next ?_
            refine CW.seq ?_
            refine CW.lex [.W, .W, .X, .W, .W, .W, .W, .W] rfl ?_
            refine RW.pure tabOk 2 rfl ?_
            have h39 := gF3_3.ext x8
            have h40 := gF4_3.ext x8
            have h41 := g0_3.ext x8
            obtain ⟨y7, h42, H⟩ := bind_some H
            refine RW.callF (.inl rfl) ent19 ⟨rfl, rfl, rfl, rfl⟩ rfl rfl (seg_Both.calls k A3 c_3 (rd p0.L it3_0) A4 c_4 (rd p0.L (w64 (it3_0 + 1))) _ _ h39.all l2 h40.all l3 h41 h42) ?_
            rintro _ w13 ⟨A6, c_6, rfl, x9, h43⟩
            refine ⟨_, rfl, x9, ?_⟩
            have sx9 := x9.size
            have h44 : Ow kSeg 93 w13.heap (okL [(w12.heap.size, some w13.heap.size, some 93)]) (okL []) A6 c_6 y7.1 := h43.close
            refine RW.pure tabOk 5 rfl ?_
            refine RW.done ?_
            refine NW.next ?_
            refine CW.seq ?_
            refine CW.lex [.W, .W, .X, .X, .W, .W, .W, .W, .W] rfl ?_
            refine RW.pure tabOk 2 rfl ?_
            refine RW.buildSlice (cs := [.slice A6 y7.1.length c_6, .slice A5 y6.1.length c_5]) tabOk (.inl rfl) ⟨rfl, rfl, rfl, rfl⟩ rfl rfl rfl rfl rfl rfl rfl ?_
            intro b2 w14 x10 l4 h45
            have sx10 := x10.size
            have ltb2 := h45.lt
            have h46 := (h38.ext x9).ext x10
            have h47 := h44.ext x10
            have h48 : Ow (Kd.ow kSeg 93) 28 w14.heap (okL [(w13.heap.size, some w14.heap.size, some 28)]) (okL [(w12.heap.size, some w13.heap.size, some 93), (w7.heap.size, some w12.heap.size, some 93)]) (some ⟨b2, 0, none⟩) 2 ([y7.1, y6.1] : List (List Seg)) := Ow.of_box h45 (.inl ⟨l4, ltb2, rfl⟩) (Nat.le_of_ble_eq_true rfl) (Ch.cons (d := (Kd.ow kSeg 93)) (cs := [.slice A6 y7.1.length c_6]) (x := y7.1) ⟨_, _, rfl, (h47.off h45 ⟨.inl (show (93 : Nat) ≠ 28 by decide), trivial⟩ trivial ⟨(.inl ⟨by omega, by omega, rfl⟩), trivial⟩ trivial)⟩ (Ch.cons (d := (Kd.ow kSeg 93)) (cs := [.slice A5 y6.1.length c_5]) (x := y6.1) ⟨_, _, rfl, (h46.off h45 ⟨.inl (show (93 : Nat) ≠ 28 by decide), trivial⟩ trivial ⟨(.inr (.inl ⟨by omega, by omega, rfl⟩)), trivial⟩ trivial)⟩ Ch.nil))
            have h49 := (h41.ext x9).ext x10
            obtain ⟨y8, h50, H⟩ := bind_some H
            refine RW.callF (.inl rfl) ent13 ⟨rfl, rfl, rfl, rfl⟩ rfl rfl (seg_Join.calls k (some ⟨b2, 0, none⟩) 2 ([y7.1, y6.1] : List (List Seg)) _ _ (h48.all.to (ow_sl_rep (fun k => k) rfl) rfl) h48.len h49 h50) ?_
            rintro _ w15 ⟨A7, c_7, rfl, x11, h51⟩
            refine ⟨_, rfl, x11, ?_⟩
            have sx11 := x11.size
            have h52 : Ow kSeg 93 w15.heap (okL [(w14.heap.size, some w15.heap.size, some 93)]) (okL []) A7 c_7 y8.1 := h51.close
            refine RW.pure tabOk 5 rfl ?_
            refine RW.done ?_
            refine NW.next ?_
            refine CW.seq ?_
            refine CW.lex [.W, .W, .X, .W, .W, .W, .W, .W] rfl ?_
            refine RW.pure tabOk 2 rfl ?_
            have h53 := h46.ext x11
            have h54 := ((h40.ext x9).ext x10).ext x11
            have h55 := h49.ext x11
            obtain ⟨y9, h56, H⟩ := bind_some H
            refine RW.callF (.inl rfl) ent19 ⟨rfl, rfl, rfl, rfl⟩ rfl rfl (seg_Both.calls k A5 c_5 y6.1 A4 c_4 (rd p0.L (w64 (it3_0 + 1))) _ _ h53.all h53.len h54.all l3 h55 h56) ?_
            rintro _ w16 ⟨A8, c_8, rfl, x12, h57⟩
            refine ⟨_, rfl, x12, ?_⟩
            have sx12 := x12.size
            have h58 : Ow kSeg 93 w16.heap (okL [(w15.heap.size, some w16.heap.size, some 93)]) (okL []) A8 c_8 y9.1 := h57.close
            refine RW.pure tabOk 5 rfl ?_
            refine RW.done ?_
            refine NW.next ?_
            refine CW.seq ?_
            refine CW.lex [.W, .X, .W, .W, .W, .W, .W] rfl ?_
            refine RW.pure tabOk 1 rfl ?_
            have h59 := (((h39.ext x9).ext x10).ext x11).ext x12
            have h60 := h55.ext x12
            obtain ⟨y10, h61, H⟩ := bind_some H
            refine RW.callF (.inl rfl) ent25 ⟨rfl, rfl, rfl, rfl⟩ rfl rfl (seg_List.calls k A3 c_3 (rd p0.L it3_0) _ _ h59.all l2 h60 h61) ?_
            rintro _ w17 ⟨A9, c_9, rfl, x13, h62⟩
            refine ⟨_, rfl, x13, ?_⟩
            have sx13 := x13.size
            have h63 : Ow (Kd.int .i64) 3 w17.heap (okL [(w16.heap.size, some w17.heap.size, some 3)]) (okL []) A9 c_9 y10.1 := h62.close
            refine RW.pure tabOk 5 rfl ?_
            refine RW.done ?_
            refine NW.next ?_
            refine CW.seq ?_
            refine CW.lex [.W, .X, .W, .W, .W, .W, .W] rfl ?_
            refine RW.pure tabOk 1 rfl ?_
            have h64 := h60.ext x13
            obtain ⟨y11, h65, H⟩ := bind_some H
            refine RW.callF (.inl rfl) ent26 ⟨rfl, rfl, rfl, rfl⟩ rfl rfl (seg_Of.calls k A9 c_9 y10.1 _ _ h63.all h63.len h64 h65) ?_
            rintro _ w18 ⟨A10, c_10, rfl, x14, h66⟩
            refine ⟨_, rfl, x14, ?_⟩
            have sx14 := x14.size
            have h67 : Ow kSeg 93 w18.heap (okL [(w17.heap.size, some w18.heap.size, some 93)]) (okL []) A10 c_10 y11.1 := h66.close
            refine RW.pure tabOk 5 rfl ?_
            refine RW.done ?_
            refine NW.next ?_
            refine CW.seq ?_
            refine CW.lex [.W, .X, .W, .W, .W, .W, .W] rfl ?_
            refine RW.pure tabOk 1 rfl ?_
            have h68 := ((h53.ext x12).ext x13).ext x14
            obtain ⟨y12, h69, H⟩ := bind_some H
            refine RW.callF (.inl rfl) ent23 ⟨rfl, rfl, rfl, rfl⟩ rfl rfl (seg_Count.calls k A5 c_5 y6.1 _ _ h68.all h68.len h69) ?_
            rintro _ w19 ⟨rfl, x15⟩
            refine ⟨_, rfl, x15, ?_⟩
            have sx15 := x15.size
            refine RW.pure tabOk 5 rfl ?_
            refine RW.done ?_
            refine NW.next ?_
            refine CW.seq ?_
            refine CW.lex [.W, .X, .W, .W, .W, .W, .W] rfl ?_
            refine RW.pure tabOk 1 rfl ?_
            have h70 := ((((h47.ext x11).ext x12).ext x13).ext x14).ext x15
            obtain ⟨y13, h71, H⟩ := bind_some H
            refine RW.callF (.inl rfl) ent23 ⟨rfl, rfl, rfl, rfl⟩ rfl rfl (seg_Count.calls k A6 c_6 y7.1 _ _ h70.all h70.len h71) ?_
            rintro _ w20 ⟨rfl, x16⟩
            refine ⟨_, rfl, x16, ?_⟩
            have sx16 := x16.size
            refine RW.pure tabOk 5 rfl ?_
            refine RW.done ?_
            refine NW.next ?_
            refine CW.seqJ (fun a w21 => ∃ (bt150_4 : Bool), Sat 152 [(1, .pointer (some ⟨b1, 0, none⟩)), (3, .int .i64 it3_0), (150, .bool bt150_4)] a ∧ w20.heap.size ≤ w21.heap.size ∧ Sl (Kd.sl kSeg) w21.heap (okL [(0, some w.heap.size, none)]) A1 p0.L ∧ Sl (Kd.int .i64) w21.heap (okL [(0, some w.heap.size, none)]) A2 p0.N ∧ Ext w w21 ∧ Box w21.heap b1 25 [.slice A1 p0.L.length c_1, .slice A2 p0.N.length c_2] ∧ Box w21.heap 0 gT (arrI .u8 64 tz) ∧ hermitagelaw1_SegParts.j3 it3_0 (hermitagelaw1_SegParts.l0 p0 k n1) bt150_4 = some r) ?_ ?_
            ·
              refine CW.lex [.W, .X, .W, .X, .W, .W, .X, .W, .W, .X, .W, .W, .X, .W, .W, .X, .W, .W, .X, .W, .W, .X, .W, .W, .W, .W, .W, .X, .W, .W, .W, .W, .W, .W, .W, .W, .W, .W, .X, .W, .W, .W, .W, .W, .W, .W, .W, .W, .W] rfl ?_
              refine RW.pure tabOk 1 rfl ?_
              obtain ⟨y14, h72, H⟩ := bind_some H
              refine RW.callF (.inl rfl) ent14 ⟨rfl, rfl, rfl, rfl⟩ rfl rfl (hermitagelaw1_num.calls y6.2 _ _ h72) ?_
              rintro _ w22 ⟨rfl, x17⟩
              refine ⟨_, rfl, x17, ?_⟩
              have sx17 := x17.size
              refine RW.pure tabOk 1 rfl ?_
              obtain ⟨y15, h73, H⟩ := bind_some H
              refine RW.callF (.inl rfl) ent14 ⟨rfl, rfl, rfl, rfl⟩ rfl rfl (hermitagelaw1_num.calls y7.2 _ _ h73) ?_
              rintro _ w23 ⟨rfl, x18⟩
              refine ⟨_, rfl, x18, ?_⟩
              have sx18 := x18.size
              refine RW.pure tabOk 2 rfl ?_
              obtain ⟨y16, h74, H⟩ := bind_some H
              refine RW.callF (.inl rfl) ent14 ⟨rfl, rfl, rfl, rfl⟩ rfl rfl (hermitagelaw1_num.calls y8.2 _ _ h74) ?_
              rintro _ w24 ⟨rfl, x19⟩
              refine ⟨_, rfl, x19, ?_⟩
              have sx19 := x19.size
              refine RW.pure tabOk 2 rfl ?_
              obtain ⟨y17, h75, H⟩ := bind_some H
              refine RW.callF (.inl rfl) ent14 ⟨rfl, rfl, rfl, rfl⟩ rfl rfl (hermitagelaw1_num.calls y9.2 _ _ h75) ?_
              rintro _ w25 ⟨rfl, x20⟩
              refine ⟨_, rfl, x20, ?_⟩
              have sx20 := x20.size
              refine RW.pure tabOk 2 rfl ?_
              obtain ⟨y18, h76, H⟩ := bind_some H
              refine RW.callF (.inl rfl) ent14 ⟨rfl, rfl, rfl, rfl⟩ rfl rfl (hermitagelaw1_num.calls y10.2 _ _ h76) ?_
              rintro _ w26 ⟨rfl, x21⟩
              refine ⟨_, rfl, x21, ?_⟩
              have sx21 := x21.size
              refine RW.pure tabOk 2 rfl ?_
              obtain ⟨y19, h77, H⟩ := bind_some H
              refine RW.callF (.inl rfl) ent14 ⟨rfl, rfl, rfl, rfl⟩ rfl rfl (hermitagelaw1_num.calls y11.2 _ _ h77) ?_
              rintro _ w27 ⟨rfl, x22⟩
              refine ⟨_, rfl, x22, ?_⟩
              have sx22 := x22.size
              refine RW.pure tabOk 2 rfl ?_
              obtain ⟨y20, h78, H⟩ := bind_some H
              refine RW.callF (.inl rfl) ent14 ⟨rfl, rfl, rfl, rfl⟩ rfl rfl (hermitagelaw1_num.calls y12.2 _ _ h78) ?_
              rintro _ w28 ⟨rfl, x23⟩
              refine ⟨_, rfl, x23, ?_⟩
              have sx23 := x23.size
              refine RW.pure tabOk 2 rfl ?_
              obtain ⟨y21, h79, H⟩ := bind_some H
              refine RW.callF (.inl rfl) ent14 ⟨rfl, rfl, rfl, rfl⟩ rfl rfl (hermitagelaw1_num.calls y13.2 _ _ h79) ?_
              rintro _ w29 ⟨rfl, x24⟩
              refine ⟨_, rfl, x24, ?_⟩
              have sx24 := x24.size
              refine RW.pure tabOk 3 rfl ?_
              by_cases c6 : w64 ((w64 ((w64 ((w64 ((w64 ((w64 ((w64 (y14 + y15)) + y16)) + y17)) + y18)) + y19)) + y20)) + y21) = 0
              · rw [if_pos c6] at H
                refine RW.bool 126 (b' := false) (bne_f c6) rfl ?_
                refine RW.pure tabOk 2 rfl ?_
                have h80 := ((((((((((((h52.ext x12).ext x13).ext x14).ext x15).ext x16).ext x17).ext x18).ext x19).ext x20).ext x21).ext x22).ext x23).ext x24
                have h81 := (((((((((((h59.ext x13).ext x14).ext x15).ext x16).ext x17).ext x18).ext x19).ext x20).ext x21).ext x22).ext x23).ext x24
                obtain ⟨y22, h82, H⟩ := bind_some H
                refine RW.callF (.inl rfl) ent15 ⟨rfl, rfl, rfl, rfl⟩ rfl rfl (hermitageref0_EqSegs.calls k A7 c_7 y8.1 A3 c_3 (rd p0.L it3_0) _ _ h80.all h80.len h81.all l2 h82) ?_
                rintro _ w30 ⟨rfl, x25⟩
                refine ⟨_, rfl, x25, ?_⟩
                have sx25 := x25.size
                refine RW.pure tabOk 3 rfl ?_
                by_cases c7 : y22 = true
                · rw [if_pos c7] at H
                  refine RW.bool 132 (b' := false) (not_f (c7)) rfl ?_
                  refine RW.pure tabOk 5 rfl ?_
                  by_cases c8 : 0 < (y9.1.length : Int)
                  · rw [if_pos c8] at H
                    refine RW.bool 137 (b' := true) (decide_eq_true c8) rfl ?_
                    refine RW.pure tabOk 13 rfl ?_
                    refine RW.done ?_
                    have h83 := (((((((((((((((((gF1_3.ext x8).ext x9).ext x10).ext x11).ext x12).ext x13).ext x14).ext x15).ext x16).ext x17).ext x18).ext x19).ext x20).ext x21).ext x22).ext x23).ext x24).ext x25
                    have h84 := (((((((((((((((((gF2_3.ext x8).ext x9).ext x10).ext x11).ext x12).ext x13).ext x14).ext x15).ext x16).ext x17).ext x18).ext x19).ext x20).ext x21).ext x22).ext x23).ext x24).ext x25
                    have h85 := Ext.trans (Ext.trans (Ext.trans (Ext.trans (Ext.trans (Ext.trans (Ext.trans (Ext.trans (Ext.trans (Ext.trans (Ext.trans (Ext.trans (Ext.trans (Ext.trans (Ext.trans (Ext.trans (Ext.trans (Ext.trans x0_3 x8) x9) x10) x11) x12) x13) x14) x15) x16) x17) x18) x19) x20) x21) x22) x23) x24) x25
                    have h86 := (((((((((((((((((gb1_3.ext x8).ext x9).ext x10).ext x11).ext x12).ext x13).ext x14).ext x15).ext x16).ext x17).ext x18).ext x19).ext x20).ext x21).ext x22).ext x23).ext x24).ext x25
                    have h87 := (((((((((((h64.ext x14).ext x15).ext x16).ext x17).ext x18).ext x19).ext x20).ext x21).ext x22).ext x23).ext x24).ext x25
                    exact NW.J fun a ha => ⟨true, ha.sub ⟨rfl, rfl, rfl, trivial⟩, by omega, h83, h84, h85, h86, h87, H⟩
                  · rw [if_neg c8] at H
                    refine RW.bool 137 (b' := false) (decide_eq_false c8) rfl ?_
                    refine RW.pure tabOk 2 rfl ?_
                    have h88 := ((((((((((h67.ext x15).ext x16).ext x17).ext x18).ext x19).ext x20).ext x21).ext x22).ext x23).ext x24).ext x25
                    have h89 := h81.ext x25
                    obtain ⟨y23, h90, H⟩ := bind_some H
                    refine RW.callF (.inl rfl) ent15 ⟨rfl, rfl, rfl, rfl⟩ rfl rfl (hermitageref0_EqSegs.calls k A10 c_10 y11.1 A3 c_3 (rd p0.L it3_0) _ _ h88.all h88.len h89.all l2 h90) ?_
                    rintro _ w31 ⟨rfl, x26⟩
                    refine ⟨_, rfl, x26, ?_⟩
                    have sx26 := x26.size
                    refine RW.pure tabOk 3 rfl ?_
                    by_cases c9 : y23 = true
                    · rw [if_pos c9] at H
                      refine RW.bool 143 (b' := false) (not_f (c9)) rfl ?_
                      refine RW.pure tabOk 7 rfl ?_
                      refine RW.done ?_
                      have h91 := ((((((((((((((((((gF1_3.ext x8).ext x9).ext x10).ext x11).ext x12).ext x13).ext x14).ext x15).ext x16).ext x17).ext x18).ext x19).ext x20).ext x21).ext x22).ext x23).ext x24).ext x25).ext x26
                      have h92 := ((((((((((((((((((gF2_3.ext x8).ext x9).ext x10).ext x11).ext x12).ext x13).ext x14).ext x15).ext x16).ext x17).ext x18).ext x19).ext x20).ext x21).ext x22).ext x23).ext x24).ext x25).ext x26
                      have h93 := Ext.trans (Ext.trans (Ext.trans (Ext.trans (Ext.trans (Ext.trans (Ext.trans (Ext.trans (Ext.trans (Ext.trans (Ext.trans (Ext.trans (Ext.trans (Ext.trans (Ext.trans (Ext.trans (Ext.trans (Ext.trans (Ext.trans x0_3 x8) x9) x10) x11) x12) x13) x14) x15) x16) x17) x18) x19) x20) x21) x22) x23) x24) x25) x26
                      have h94 := ((((((((((((((((((gb1_3.ext x8).ext x9).ext x10).ext x11).ext x12).ext x13).ext x14).ext x15).ext x16).ext x17).ext x18).ext x19).ext x20).ext x21).ext x22).ext x23).ext x24).ext x25).ext x26
                      have h95 := ((((((((((((h64.ext x14).ext x15).ext x16).ext x17).ext x18).ext x19).ext x20).ext x21).ext x22).ext x23).ext x24).ext x25).ext x26
                      exact NW.J fun a ha => ⟨((w64 (y12.1 + y13.1)) != (y10.1.length : Int)), ha.sub ⟨rfl, rfl, rfl, trivial⟩, by omega, h91, h92, h93, h94, h95, H⟩
                    · rw [if_neg c9] at H
                      refine RW.bool 143 (b' := true) (not_t (bool_f c9)) rfl ?_
                      refine RW.pure tabOk 7 rfl ?_
                      refine RW.done ?_
                      have h96 := ((((((((((((((((((gF1_3.ext x8).ext x9).ext x10).ext x11).ext x12).ext x13).ext x14).ext x15).ext x16).ext x17).ext x18).ext x19).ext x20).ext x21).ext x22).ext x23).ext x24).ext x25).ext x26
                      have h97 := ((((((((((((((((((gF2_3.ext x8).ext x9).ext x10).ext x11).ext x12).ext x13).ext x14).ext x15).ext x16).ext x17).ext x18).ext x19).ext x20).ext x21).ext x22).ext x23).ext x24).ext x25).ext x26
                      have h98 := Ext.trans (Ext.trans (Ext.trans (Ext.trans (Ext.trans (Ext.trans (Ext.trans (Ext.trans (Ext.trans (Ext.trans (Ext.trans (Ext.trans (Ext.trans (Ext.trans (Ext.trans (Ext.trans (Ext.trans (Ext.trans (Ext.trans x0_3 x8) x9) x10) x11) x12) x13) x14) x15) x16) x17) x18) x19) x20) x21) x22) x23) x24) x25) x26
                      have h99 := ((((((((((((((((((gb1_3.ext x8).ext x9).ext x10).ext x11).ext x12).ext x13).ext x14).ext x15).ext x16).ext x17).ext x18).ext x19).ext x20).ext x21).ext x22).ext x23).ext x24).ext x25).ext x26
                      have h100 := ((((((((((((h64.ext x14).ext x15).ext x16).ext x17).ext x18).ext x19).ext x20).ext x21).ext x22).ext x23).ext x24).ext x25).ext x26
                      exact NW.J fun a ha => ⟨true, ha.sub ⟨rfl, rfl, rfl, trivial⟩, by omega, h96, h97, h98, h99, h100, H⟩
                · rw [if_neg c7] at H
                  refine RW.bool 132 (b' := true) (not_t (bool_f c7)) rfl ?_
                  refine RW.pure tabOk 18 rfl ?_
                  refine RW.done ?_
                  have h101 := (((((((((((((((((gF1_3.ext x8).ext x9).ext x10).ext x11).ext x12).ext x13).ext x14).ext x15).ext x16).ext x17).ext x18).ext x19).ext x20).ext x21).ext x22).ext x23).ext x24).ext x25
                  have h102 := (((((((((((((((((gF2_3.ext x8).ext x9).ext x10).ext x11).ext x12).ext x13).ext x14).ext x15).ext x16).ext x17).ext x18).ext x19).ext x20).ext x21).ext x22).ext x23).ext x24).ext x25
                  have h103 := Ext.trans (Ext.trans (Ext.trans (Ext.trans (Ext.trans (Ext.trans (Ext.trans (Ext.trans (Ext.trans (Ext.trans (Ext.trans (Ext.trans (Ext.trans (Ext.trans (Ext.trans (Ext.trans (Ext.trans (Ext.trans x0_3 x8) x9) x10) x11) x12) x13) x14) x15) x16) x17) x18) x19) x20) x21) x22) x23) x24) x25
                  have h104 := (((((((((((((((((gb1_3.ext x8).ext x9).ext x10).ext x11).ext x12).ext x13).ext x14).ext x15).ext x16).ext x17).ext x18).ext x19).ext x20).ext x21).ext x22).ext x23).ext x24).ext x25
                  have h105 := (((((((((((h64.ext x14).ext x15).ext x16).ext x17).ext x18).ext x19).ext x20).ext x21).ext x22).ext x23).ext x24).ext x25
                  exact NW.J fun a ha => ⟨true, ha.sub ⟨rfl, rfl, rfl, trivial⟩, by omega, h101, h102, h103, h104, h105, H⟩
              · rw [if_neg c6] at H
                refine RW.bool 126 (b' := true) (bne_t c6) rfl ?_
                refine RW.pure tabOk 24 rfl ?_
                refine RW.done ?_
                have h106 := ((((((((((((((((gF1_3.ext x8).ext x9).ext x10).ext x11).ext x12).ext x13).ext x14).ext x15).ext x16).ext x17).ext x18).ext x19).ext x20).ext x21).ext x22).ext x23).ext x24
                have h107 := ((((((((((((((((gF2_3.ext x8).ext x9).ext x10).ext x11).ext x12).ext x13).ext x14).ext x15).ext x16).ext x17).ext x18).ext x19).ext x20).ext x21).ext x22).ext x23).ext x24
                have h108 := Ext.trans (Ext.trans (Ext.trans (Ext.trans (Ext.trans (Ext.trans (Ext.trans (Ext.trans (Ext.trans (Ext.trans (Ext.trans (Ext.trans (Ext.trans (Ext.trans (Ext.trans (Ext.trans (Ext.trans x0_3 x8) x9) x10) x11) x12) x13) x14) x15) x16) x17) x18) x19) x20) x21) x22) x23) x24
                have h109 := ((((((((((((((((gb1_3.ext x8).ext x9).ext x10).ext x11).ext x12).ext x13).ext x14).ext x15).ext x16).ext x17).ext x18).ext x19).ext x20).ext x21).ext x22).ext x23).ext x24
                have h110 := ((((((((((h64.ext x14).ext x15).ext x16).ext x17).ext x18).ext x19).ext x20).ext x21).ext x22).ext x23).ext x24
                exact NW.J fun a ha => ⟨true, ha.sub ⟨rfl, rfl, rfl, trivial⟩, by omega, h106, h107, h108, h109, h110, H⟩
            intro a w21 hJ hp
            obtain ⟨bt150_4, hS, hle, gF1_4, gF2_4, x0_4, gb1_4, g0_4, H⟩ := hJ
            unfold hermitagelaw1_SegParts.j3 at H
            refine CW.go hp hS ?_
            by_cases c10 : bt150_4 = true
            · rw [if_pos c10] at H
              refine CW.cond_t rfl (c10) ?_
              refine CW.seq ?_
              refine CW.lex [.W] rfl ?_
              refine RW.pure tabOk 1 rfl ?_
              refine RW.done ?_
              refine NW.next ?_
              refine CW.ret ?_
              refine NW.ret_block (NW.ret_then (NW.ret_then (NW.ret_block (NW.ret_then ?_))))
              obtain rfl := Option.some.inj H
              exact NW.ret1 rfl (by rfl) ⟨rfl, x0_4⟩
            · rw [if_neg c10] at H
              refine CW.cond_f rfl (bool_f c10) ?_
              refine CW.skip ?_
              refine NW.norm_block ?_
              exact NW.J fun a ha => ⟨ha.sub ⟨rfl, rfl, trivial⟩, by omega, gF1_4, gF2_4, x0_4, gb1_4, g0_4, H⟩
        intro a w5 hJ hp
        obtain ⟨hS, hle, gF1_2, gF2_2, x0_2, gb1_2, g0_2, H⟩ := hJ
        unfold hermitagelaw1_SegParts.j1 at H
        refine CW.go hp hS ?_
        refine CW.lex [.W, .W, .W] rfl ?_
        refine RW.pure tabOk 3 rfl ?_
        refine RW.done ?_
        exact NW.J fun a ha => ⟨n1, Nat.lt_succ_self n1, (w64 (it3_0 + 1)), ha.sub ⟨rfl, rfl, trivial⟩, by omega, gF1_2, gF2_2, x0_2, gb1_2, g0_2, H⟩
      · rw [if_neg c3] at H
        refine CW.cond_f rfl (bool_f c3) ?_
        refine CW.exit ?_
        refine NW.exit_then (NW.exit_then (NW.exit_hit ?_))
        refine NW.next ?_
        refine CW.seq ?_
        refine CW.lex [.X, .W] rfl ?_
        obtain ⟨y24, h111, H⟩ := bind_some H
        refine RW.callF (.inl rfl) ent16 ⟨rfl, rfl, rfl, rfl⟩ rfl rfl (hermitagelaw1_wakes.calls k _ _ g0_1 h111) ?_
        rintro _ w32 ⟨rfl, x27⟩
        refine ⟨_, rfl, x27, ?_⟩
        have sx27 := x27.size
        refine RW.pure tabOk 1 rfl ?_
        refine RW.done ?_
        refine NW.next ?_
        refine CW.ret ?_
        obtain rfl := Option.some.inj H
        have h112 := Ext.trans x0_1 x27
        exact NW.ret1 rfl (by rfl) ⟨rfl, h112⟩

set_option maxHeartbeats 4000000 in
set_option maxRecDepth 100000 in
theorem hermitageref1_List.calls (k : Nat) (A1 : Option Addr) (c_1 : Nat) (p0 : List Seg) (r : (List Int)) (w : World) (hs1 : Sl kSeg w.heap okAll A1 p0) (hl1 : p0.length ≤ c_1) (H : hermitageref1_List.f k p0 = some r) :
    Calls Tryd.prog 28 #[.slice A1 p0.length c_1] w fun e w' => ∃ (B1 : Option Addr) (d1 : Nat), e = .returned (.slice B1 r.length d1) ∧ Ext w w' ∧ Ow (Kd.int .i64) 3 w'.heap (okL [(w.heap.size, none, some 3)]) (okL []) B1 d1 r := by
  have h1 : Sl kSeg w.heap (okL [(0, some w.heap.size, none)]) A1 p0 := hs1.old _ rfl
  have x0 : Ext w w := Upd.refl _ w
  unfold hermitageref1_List.f at H
  refine calls_start Tryd.func28 rfl 20 rfl [.slice A1 p0.length c_1] rfl ?_
  refine CW.seq ?_
  refine CW.lex [.W] rfl ?_
  refine RW.pure tabOk 1 rfl ?_
  refine RW.done ?_
  refine NW.next ?_
  refine CW.seq ?_
  refine CW.lex [.W] rfl ?_
  refine RW.pure tabOk 1 rfl ?_
  refine RW.done ?_
  refine NW.next ?_
  refine CW.seq ?_
  refine CW.lex [.W, .X, .X, .M] rfl ?_
  refine RW.pure tabOk 1 rfl ?_
  obtain ⟨y1, h2, H⟩ := bind_some H
  refine RW.callF (.inl rfl) ent57 ⟨rfl, rfl, rfl, rfl⟩ rfl rfl (hermitageref1_Set.calls k A1 c_1 p0 _ _ h1.all hl1 h2) ?_
  rintro _ w1 ⟨rfl, x1⟩
  refine ⟨_, rfl, x1, ?_⟩
  have sx1 := x1.size
  refine RW.alloc tabOk (.inl rfl) ⟨rfl, rfl, rfl, rfl⟩ rfl rfl ?_
  intro b1 w2 x2 l1 h3
  have sx2 := x2.size
  have ltb1 := h3.lt
  refine RW.storeBox tabOk h3 (arrB 64 y1) ⟨rfl, rfl, rfl⟩ rfl rfl rfl rfl rfl arrF_len (arrF_all fun _ => rfl) (arrF_fitAll arrF_len) ?_
  intro w3 x3 h4
  have h5 : Box w3.heap b1 54 (arrB 64 y1) := by rw [lay_arrFull] at h4; exact h4
  have sx3 := x3.size
  refine RW.done ?_
  refine NW.next ?_
  refine CW.seq ?_
  refine CW.seq ?_
  refine CW.lex [.W] rfl ?_
  refine RW.pure tabOk 1 rfl ?_
  refine RW.done ?_
  refine NW.next ?_
  refine CW.block ?_
  refine CW.loop (fun n1 a w4 => ∃ (lt3_0 : List Int) (At3_0 : Option Addr) (ct3_0 : Nat) (it5_0 : Int), Sat 20 [(3, .slice At3_0 lt3_0.length ct3_0), (4, .pointer (some ⟨b1, 0, none⟩)), (5, .int .i64 it5_0)] a ∧ w3.heap.size ≤ w4.heap.size ∧ Ow (Kd.int .i64) 3 w4.heap (okL [(w3.heap.size, none, some 3)]) (okL []) At3_0 ct3_0 lt3_0 ∧ Ext w w4 ∧ Box w4.heap b1 54 (arrB 64 y1) ∧ hermitageref1_List.l0 y1 n1 lt3_0 it5_0 = some r) k ?_ ?_
  have h6 := Ext.turnB (Ext.trans (Ext.trans x0 x1) x2) x3 (by omega)
  · exact fun a ha => ⟨([] : List Int), none, 0, 0, ha.sub ⟨rfl, rfl, rfl, trivial⟩, by omega, Ow.nil, h6, h5, H⟩
  intro n1 a w4 hI hp
  obtain ⟨lt3_0, At3_0, ct3_0, it5_0, hS, hle, ft3_0, x0_0, gb1_0, H⟩ := hI
  cases n1 with
  | zero => cases H
  | succ n1 =>
    rw [hermitageref1_List.l0] at H
    refine CW.go hp hS ?_
    have h7 : Ow (Kd.int .i64) 3 w4.heap (okL [(w3.heap.size, some w4.heap.size, some 3)]) (okL []) At3_0 ct3_0 lt3_0 := ft3_0.close
    refine CW.seq ?_
    refine CW.seq ?_
    refine CW.lex [.W, .W] rfl ?_
    refine RW.pure tabOk 2 rfl ?_
    refine RW.done ?_
    refine NW.next ?_
    by_cases c1 : it5_0 < 64
    · rw [if_pos c1] at H
      refine CW.cond_t rfl (decide_eq_true c1) ?_
      refine CW.skip ?_
      refine NW.next ?_
      refine CW.seqJ (fun a w5 => ∃ (lt3_1 : List Int) (At3_1 : Option Addr) (ct3_1 : Nat), Sat 20 [(3, .slice At3_1 lt3_1.length ct3_1), (4, .pointer (some ⟨b1, 0, none⟩)), (5, .int .i64 it5_0)] a ∧ w4.heap.size ≤ w5.heap.size ∧ Ow (Kd.int .i64) 3 w5.heap (okL [(w3.heap.size, none, some 3)]) (okL []) At3_1 ct3_1 lt3_1 ∧ Ext w w5 ∧ Box w5.heap b1 54 (arrB 64 y1) ∧ hermitageref1_List.j0 it5_0 (hermitageref1_List.l0 y1 n1) lt3_1 = some r) ?_ ?_
      ·
        refine CW.block ?_
        refine CW.seq ?_
        refine CW.lex [.W, .W, .L] rfl ?_
        refine RW.pure tabOk 1 rfl ?_
        obtain ⟨g1, H⟩ := guard_some H
        refine RW.indexBox tabOk g1.1 g1.2 ⟨rfl, rfl, rfl, rfl⟩ rfl rfl rfl rfl rfl rfl rfl ?_
        refine RW.load tabOk [.bool (y1 it5_0.toNat)] (gb1_0.elF (by have := g1; omega)) ⟨rfl, rfl, rfl, rfl⟩ rfl rfl rfl rfl ?_
        refine RW.done ?_
        refine NW.next ?_
        by_cases c2 : (y1 it5_0.toNat) = true
        · rw [if_pos c2] at H
          refine CW.cond_t rfl (c2) ?_
          refine CW.lex [.W, .W, .X, .M, .W] rfl ?_
          refine RW.pure tabOk 2 rfl ?_
          refine RW.buildSlice (cs := [.int .i64 it5_0]) tabOk (.inl rfl) ⟨rfl, rfl, rfl, rfl⟩ rfl rfl rfl rfl rfl rfl rfl ?_
          intro b2 w6 x4 l2 h8
          have sx4 := x4.size
          have ltb2 := h8.lt
          have h9 := h7.ext x4
          obtain ⟨g2, H⟩ := guard_some H
          refine RW.append1L (d := (Kd.int .i64)) (v := it5_0) (l := [(w3.heap.size, some w4.heap.size, some 3)]) (li := []) (ly := []) (xs := lt3_0) tabOk h9 h8 rfl trivial (by simp only [maxLen]; omega) g2 ⟨rfl, rfl, rfl, rfl⟩ rfl rfl rfl rfl rfl rfl rfl ?_
          intro A2 c_2 w7 x5 h10
          have sx5 := x5.size
          have h11 := h10.close.sub (l' := [(w3.heap.size, some w7.heap.size, some 3)]) (li' := []) ⟨(.inl ⟨by omega, by omega, rfl⟩), ⟨(.inl ⟨by omega, by omega, rfl⟩), trivial⟩⟩ trivial
          refine RW.pure tabOk 1 rfl ?_
          refine RW.done ?_
          refine NW.norm_block ?_
          have h12 := Ext.turn (Ext.trans x0_0 x4) x5 ⟨by omega, trivial⟩
          have h13 := (gb1_0.ext x4).turnL x5 (.inl (by decide))
          exact NW.J fun a ha => ⟨(lt3_0 ++ [it5_0]), A2, c_2, ha.sub ⟨rfl, rfl, rfl, trivial⟩, by omega, (h11.sub ⟨(.inl ⟨by omega, trivial, rfl⟩), trivial⟩ trivial), h12, h13, H⟩
        · rw [if_neg c2] at H
          refine CW.cond_f rfl (bool_f c2) ?_
          refine CW.skip ?_
          refine NW.norm_block ?_
          exact NW.J fun a ha => ⟨lt3_0, At3_0, ct3_0, ha.sub ⟨rfl, rfl, rfl, trivial⟩, by omega, (h7.sub ⟨(.inl ⟨by omega, trivial, rfl⟩), trivial⟩ trivial), x0_0, gb1_0, H⟩
      intro a w5 hJ hp
      obtain ⟨lt3_1, At3_1, ct3_1, hS, hle, ft3_1, x0_1, gb1_1, H⟩ := hJ
      unfold hermitageref1_List.j0 at H
      refine CW.go hp hS ?_
      have h14 : Ow (Kd.int .i64) 3 w5.heap (okL [(w3.heap.size, some w5.heap.size, some 3)]) (okL []) At3_1 ct3_1 lt3_1 := ft3_1.close
      refine CW.lex [.W, .W, .W] rfl ?_
      refine RW.pure tabOk 3 rfl ?_
      refine RW.done ?_
      exact NW.J fun a ha => ⟨n1, Nat.lt_succ_self n1, lt3_1, At3_1, ct3_1, (w64 (it5_0 + 1)), ha.sub ⟨rfl, rfl, rfl, trivial⟩, by omega, (h14.sub ⟨(.inl ⟨by omega, trivial, rfl⟩), trivial⟩ trivial), x0_1, gb1_1, H⟩
    · rw [if_neg c1] at H
      refine CW.cond_f rfl (decide_eq_false c1) ?_
      refine CW.exit ?_
      refine NW.exit_then (NW.exit_then (NW.exit_hit ?_))
      refine NW.next ?_
      refine CW.seq ?_
      refine CW.lex [.W, .W] rfl ?_
      refine RW.pure tabOk 2 rfl ?_
      refine RW.done ?_
      refine NW.next ?_
      refine CW.ret ?_
      obtain rfl := Option.some.inj H
      exact NW.ret1 rfl (by rfl) ⟨At3_0, ct3_0, rfl, x0_0, (h7.sub (l' := [(w.heap.size, none, some 3)]) (li' := []) ⟨(.inl ⟨by omega, trivial, rfl⟩), trivial⟩ trivial)⟩

set_option maxHeartbeats 4000000 in
set_option maxRecDepth 100000 in
theorem hermitageref1_Count.calls (k : Nat) (A1 : Option Addr) (c_1 : Nat) (p0 : List Seg) (r : Int) (w : World) (hs1 : Sl kSeg w.heap okAll A1 p0) (hl1 : p0.length ≤ c_1) (H : hermitageref1_Count.f k p0 = some r) :
    Calls Tryd.prog 27 #[.slice A1 p0.length c_1] w fun e w' => e = .returned (.int .i64 r) ∧ Ext w w' := by
  have h1 : Sl kSeg w.heap (okL [(0, some w.heap.size, none)]) A1 p0 := hs1.old _ rfl
  have x0 : Ext w w := Upd.refl _ w
  unfold hermitageref1_Count.f at H
  refine calls_start Tryd.func27 rfl 6 rfl [.slice A1 p0.length c_1] rfl ?_
  refine CW.seq ?_
  refine CW.lex [.W] rfl ?_
  refine RW.pure tabOk 1 rfl ?_
  refine RW.done ?_
  refine NW.next ?_
  refine CW.seq ?_
  refine CW.lex [.W, .X, .W, .W] rfl ?_
  refine RW.pure tabOk 1 rfl ?_
  obtain ⟨y1, h2, H⟩ := bind_some H
  refine RW.callF (.inl rfl) ent28 ⟨rfl, rfl, rfl, rfl⟩ rfl rfl (hermitageref1_List.calls k A1 c_1 p0 _ _ h1.all hl1 h2) ?_
  rintro _ w1 ⟨A2, c_2, rfl, x1, h3⟩
  refine ⟨_, rfl, x1, ?_⟩
  have sx1 := x1.size
  have h4 : Ow (Kd.int .i64) 3 w1.heap (okL [(w.heap.size, some w1.heap.size, some 3)]) (okL []) A2 c_2 y1 := h3.close
  refine RW.pure tabOk 2 rfl ?_
  refine RW.done ?_
  refine NW.next ?_
  refine CW.ret ?_
  obtain rfl := Option.some.inj H
  have h5 := Ext.trans x0 x1
  exact NW.ret1 rfl (by rfl) ⟨rfl, h5⟩

set_option maxHeartbeats 4000000 in
set_option maxRecDepth 100000 in
theorem hermitageref0_EqNumbers.calls (k : Nat) (A1 : Option Addr) (c_1 : Nat) (p0 : List Int) (A2 : Option Addr) (c_2 : Nat) (p1 : List Int) (r : Bool) (w : World) (hs1 : Sl (Kd.int .i64) w.heap okAll A1 p0) (hl1 : p0.length ≤ c_1) (hs2 : Sl (Kd.int .i64) w.heap okAll A2 p1) (hl2 : p1.length ≤ c_2) (H : hermitageref0_EqNumbers.f k p0 p1 = some r) :
    Calls Tryd.prog 29 #[.slice A1 p0.length c_1, .slice A2 p1.length c_2] w fun e w' => e = .returned (.bool r) ∧ Ext w w' := by
  have h1 : Sl (Kd.int .i64) w.heap (okL [(0, some w.heap.size, none)]) A1 p0 := hs1.old _ rfl
  have h2 : Sl (Kd.int .i64) w.heap (okL [(0, some w.heap.size, none)]) A2 p1 := hs2.old _ rfl
  have x0 : Ext w w := Upd.refl _ w
  unfold hermitageref0_EqNumbers.f at H
  refine calls_start Tryd.func29 rfl 26 rfl [.slice A1 p0.length c_1, .slice A2 p1.length c_2] rfl ?_
  refine CW.seq ?_
  refine CW.lex [.W] rfl ?_
  refine RW.pure tabOk 1 rfl ?_
  refine RW.done ?_
  refine NW.next ?_
  refine CW.seq ?_
  refine CW.seq ?_
  refine CW.lex [.W, .W, .W, .W, .W] rfl ?_
  refine RW.pure tabOk 5 rfl ?_
  refine RW.done ?_
  refine NW.next ?_
  by_cases c1 : (p0.length : Int) = (p1.length : Int)
  · rw [if_pos c1] at H
    refine CW.cond_f rfl (bne_f c1) ?_
    refine CW.skip ?_
    refine NW.next ?_
    refine CW.seq ?_
    refine CW.seq ?_
    refine CW.lex [.W] rfl ?_
    refine RW.pure tabOk 1 rfl ?_
    refine RW.done ?_
    refine NW.next ?_
    refine CW.block ?_
    refine CW.loop (fun n1 a w1 => ∃ (it5_0 : Int), Sat 26 [(0, .slice A1 p0.length c_1), (1, .slice A2 p1.length c_2), (5, .int .i64 it5_0)] a ∧ w.heap.size ≤ w1.heap.size ∧ Sl (Kd.int .i64) w1.heap (okL [(0, some w.heap.size, none)]) A1 p0 ∧ Sl (Kd.int .i64) w1.heap (okL [(0, some w.heap.size, none)]) A2 p1 ∧ Ext w w1 ∧ hermitageref0_EqNumbers.l0 p0 p1 n1 it5_0 = some r) k ?_ ?_
    · exact fun a ha => ⟨0, ha.sub ⟨rfl, rfl, rfl, trivial⟩, by omega, h1, h2, x0, H⟩
    intro n1 a w1 hI hp
    obtain ⟨it5_0, hS, hle, gF1_0, gF2_0, x0_0, H⟩ := hI
    cases n1 with
    | zero => cases H
    | succ n1 =>
      rw [hermitageref0_EqNumbers.l0] at H
      refine CW.go hp hS ?_
      refine CW.seq ?_
      refine CW.seq ?_
      refine CW.lex [.W, .W, .W, .W] rfl ?_
      refine RW.pure tabOk 4 rfl ?_
      refine RW.done ?_
      refine NW.next ?_
      by_cases c2 : it5_0 < (p0.length : Int)
      · rw [if_pos c2] at H
        refine CW.cond_t rfl (decide_eq_true c2) ?_
        refine CW.skip ?_
        refine NW.next ?_
        refine CW.seq ?_
        refine CW.block ?_
        refine CW.seq ?_
        refine CW.ord [0, 0, 3, 7, 0, 0, 48, 112, 255] [(0, .W), (1, .W), (2, .W), (4, .W), (5, .W), (6, .W), (3, .L), (7, .L), (8, .W)] mixed (by kernel_rfl) ?_
        intro w2 x1
        have sx1 := x1.size
        refine RW.pure tabOk 2 rfl ?_
        obtain ⟨g1, H⟩ := guard_some H
        have h3 := gF1_0.ext x1
        obtain ⟨ad1, e1, a1⟩ := at_i64 h3 g1.1 g1.2
        refine RW.index tabOk g1.1 g1.2 e1 ⟨rfl, rfl, rfl, rfl⟩ rfl rfl rfl rfl rfl rfl ?_
        refine RW.pure tabOk 2 rfl ?_
        obtain ⟨g2, H⟩ := guard_some H
        have h4 := gF2_0.ext x1
        obtain ⟨ad2, e2, a2⟩ := at_i64 h4 g2.1 g2.2
        refine RW.index tabOk g2.1 g2.2 e2 ⟨rfl, rfl, rfl, rfl⟩ rfl rfl rfl rfl rfl rfl ?_
        refine RW.load tabOk [.int .i64 (rd p0 it5_0)] a1 ⟨rfl, rfl, rfl, rfl⟩ rfl rfl rfl rfl ?_
        refine RW.load tabOk [.int .i64 (rd p1 it5_0)] a2 ⟨rfl, rfl, rfl, rfl⟩ rfl rfl rfl rfl ?_
        refine RW.pure tabOk 1 rfl ?_
        refine RW.done ?_
        refine NW.next ?_
        by_cases c3 : rd p0 it5_0 = rd p1 it5_0
        · rw [if_pos c3] at H
          refine CW.cond_f rfl (bne_f c3) ?_
          refine CW.skip ?_
          refine NW.norm_block (NW.next ?_)
          refine CW.lex [.W, .W, .W] rfl ?_
          refine RW.pure tabOk 3 rfl ?_
          refine RW.done ?_
          have h5 := Ext.trans x0_0 x1
          exact NW.J fun a ha => ⟨n1, Nat.lt_succ_self n1, (w64 (it5_0 + 1)), ha.sub ⟨rfl, rfl, rfl, trivial⟩, by omega, h3, h4, h5, H⟩
        · rw [if_neg c3] at H
          refine CW.cond_t rfl (bne_t c3) ?_
          refine CW.seq ?_
          refine CW.lex [.W] rfl ?_
          refine RW.pure tabOk 1 rfl ?_
          refine RW.done ?_
          refine NW.next ?_
          refine CW.ret ?_
          refine NW.ret_block (NW.ret_then (NW.ret_then (NW.ret_block (NW.ret_then ?_))))
          obtain rfl := Option.some.inj H
          have h6 := Ext.trans x0_0 x1
          exact NW.ret1 rfl (by rfl) ⟨rfl, h6⟩
      · rw [if_neg c2] at H
        refine CW.cond_f rfl (decide_eq_false c2) ?_
        refine CW.exit ?_
        refine NW.exit_then (NW.exit_then (NW.exit_hit ?_))
        refine NW.next ?_
        refine CW.seq ?_
        refine CW.lex [.W] rfl ?_
        refine RW.pure tabOk 1 rfl ?_
        refine RW.done ?_
        refine NW.next ?_
        refine CW.ret ?_
        obtain rfl := Option.some.inj H
        exact NW.ret1 rfl (by rfl) ⟨rfl, x0_0⟩
  · rw [if_neg c1] at H
    refine CW.cond_t rfl (bne_t c1) ?_
    refine CW.seq ?_
    refine CW.lex [.W] rfl ?_
    refine RW.pure tabOk 1 rfl ?_
    refine RW.done ?_
    refine NW.next ?_
    refine CW.ret ?_
    refine NW.ret_then ?_
    obtain rfl := Option.some.inj H
    exact NW.ret1 rfl (by rfl) ⟨rfl, x0⟩

set_option maxHeartbeats 4000000 in
set_option maxRecDepth 100000 in
theorem seg_Set_Has.calls (p0 : Int) (p1 : Int) (r : Bool) (w : World) (H : seg_Set_Has.f p0 p1 = some r) :
    Calls Tryd.prog 64 #[.int .u64 p0, .int .i64 p1] w fun e w' => e = .returned (.bool r) ∧ Ext w w' := by
  have x0 : Ext w w := Upd.refl _ w
  unfold seg_Set_Has.f at H
  refine calls_start Tryd.func64 rfl 18 rfl [.int .u64 p0, .int .i64 p1] rfl ?_
  refine CW.seq ?_
  refine CW.lex [.W] rfl ?_
  refine RW.pure tabOk 1 rfl ?_
  refine RW.done ?_
  refine NW.next ?_
  refine CW.seq ?_
  refine CW.lex [.W, .W, .W, .W, .W, .W, .W, .W, .W, .X, .W, .W, .W, .W] rfl ?_
  refine RW.pure tabOk 3 rfl ?_
  by_cases c1 : 0 ≤ p1
  · rw [if_pos c1] at H
    refine RW.bool 7 (b' := true) (decide_eq_true c1) rfl ?_
    refine RW.pure tabOk 4 rfl ?_
    by_cases c2 : p1 < 64
    · rw [if_pos c2] at H
      refine RW.bool 11 (b' := true) (decide_eq_true c2) rfl ?_
      refine RW.pure tabOk 2 rfl ?_
      obtain ⟨y1, h1, H⟩ := bind_some H
      refine RW.callF (.inl rfl) ent63 ⟨rfl, rfl, rfl, rfl⟩ rfl rfl (seg_One.calls p1 _ _ h1) ?_
      rintro _ w1 ⟨rfl, x1⟩
      refine ⟨_, rfl, x1, ?_⟩
      have sx1 := x1.size
      refine RW.pure tabOk 4 rfl ?_
      refine RW.done ?_
      refine NW.next ?_
      refine CW.ret ?_
      obtain rfl := Option.some.inj H
      have h2 := Ext.trans x0 x1
      exact NW.ret1 rfl (by rfl) ⟨rfl, h2⟩
    · rw [if_neg c2] at H
      refine RW.bool 11 (b' := false) (decide_eq_false c2) rfl ?_
      refine RW.pure tabOk 7 rfl ?_
      refine RW.done ?_
      refine NW.next ?_
      refine CW.ret ?_
      obtain rfl := Option.some.inj H
      exact NW.ret1 rfl (by rfl) ⟨rfl, x0⟩
  · rw [if_neg c1] at H
    refine RW.bool 7 (b' := false) (decide_eq_false c1) rfl ?_
    refine RW.pure tabOk 11 rfl ?_
    refine RW.done ?_
    refine NW.next ?_
    refine CW.ret ?_
    obtain rfl := Option.some.inj H
    exact NW.ret1 rfl (by rfl) ⟨rfl, x0⟩

set_option maxHeartbeats 4000000 in
set_option maxRecDepth 100000 in
theorem seg_Has.calls (k : Nat) (A1 : Option Addr) (c_1 : Nat) (p0 : List Seg) (p1 : Int) (r : Bool × Int) (w : World) (hs1 : Sl kSeg w.heap okAll A1 p0) (hl1 : p0.length ≤ c_1) (H : seg_Has.f k p0 p1 = some r) :
    Calls Tryd.prog 30 #[.slice A1 p0.length c_1, .int .i64 p1] w fun e w' => e = .returned (.tuple #[.bool r.1, .int .i64 r.2]) ∧ Ext w w' := by
  have h1 : Sl kSeg w.heap (okL [(0, some w.heap.size, none)]) A1 p0 := hs1.old _ rfl
  have x0 : Ext w w := Upd.refl _ w
  unfold seg_Has.f at H
  refine calls_start Tryd.func30 rfl 13 rfl [.slice A1 p0.length c_1, .int .i64 p1] rfl ?_
  refine CW.seq ?_
  refine CW.lex [.W, .W] rfl ?_
  refine RW.pure tabOk 2 rfl ?_
  refine RW.done ?_
  refine NW.next ?_
  refine CW.seq ?_
  refine CW.seq ?_
  refine CW.lex [.W, .X, .W] rfl ?_
  refine RW.pure tabOk 1 rfl ?_
  obtain ⟨y1, h2, H⟩ := bind_some H
  refine RW.callF (.inl rfl) ent51 ⟨rfl, rfl, rfl, rfl⟩ rfl rfl (seg_May.calls k A1 c_1 p0 _ _ h1.all hl1 h2) ?_
  rintro _ w1 ⟨rfl, x1⟩
  refine ⟨_, rfl, x1, ?_⟩
  have sx1 := x1.size
  refine RW.pure tabOk 1 rfl ?_
  refine RW.done ?_
  refine NW.next ?_
  by_cases c1 : y1 = true
  · rw [if_pos c1] at H
    refine CW.cond_f rfl (not_f (c1)) ?_
    refine CW.skip ?_
    refine NW.next ?_
    refine CW.seq ?_
    refine CW.lex [.W, .X, .W, .X, .W, .W] rfl ?_
    refine RW.pure tabOk 1 rfl ?_
    have h3 := h1.ext x1
    obtain ⟨y2, h4, H⟩ := bind_some H
    refine RW.callF (.inl rfl) ent52 ⟨rfl, rfl, rfl, rfl⟩ rfl rfl (seg_Make.calls k A1 c_1 p0 _ _ h3.all hl1 h4) ?_
    rintro _ w2 ⟨rfl, x2⟩
    refine ⟨_, rfl, x2, ?_⟩
    have sx2 := x2.size
    refine RW.pure tabOk 1 rfl ?_
    obtain ⟨y3, h5, H⟩ := bind_some H
    refine RW.callF (.inl rfl) ent64 ⟨rfl, rfl, rfl, rfl⟩ rfl rfl (seg_Set_Has.calls y2 p1 _ _ h5) ?_
    rintro _ w3 ⟨rfl, x3⟩
    refine ⟨_, rfl, x3, ?_⟩
    have sx3 := x3.size
    refine RW.pure tabOk 2 rfl ?_
    refine RW.done ?_
    refine NW.next ?_
    refine CW.ret ?_
    obtain rfl := Option.some.inj H
    have h6 := Ext.trans (Ext.trans (Ext.trans x0 x1) x2) x3
    exact NW.ret2 rfl (by rfl) (by rfl) ⟨rfl, h6⟩
  · rw [if_neg c1] at H
    refine CW.cond_t rfl (not_t (bool_f c1)) ?_
    refine CW.seq ?_
    refine CW.lex [.W, .W] rfl ?_
    refine RW.pure tabOk 2 rfl ?_
    refine RW.done ?_
    refine NW.next ?_
    refine CW.ret ?_
    refine NW.ret_then ?_
    obtain rfl := Option.some.inj H
    have h7 := Ext.trans x0 x1
    exact NW.ret2 rfl (by rfl) (by rfl) ⟨rfl, h7⟩

set_option maxHeartbeats 4000000 in
set_option maxRecDepth 100000 in
theorem hermitageref0_Num.calls (p0 : Int) (p1 : Int) (r : Bool) (w : World) (H : hermitageref0_Num.f p0 p1 = some r) :
    Calls Tryd.prog 31 #[.int .i64 p0, .int .i64 p1] w fun e w' => e = .returned (.bool r) ∧ Ext w w' := by
  have x0 : Ext w w := Upd.refl _ w
  unfold hermitageref0_Num.f at H
  refine calls_start Tryd.func31 rfl 12 rfl [.int .i64 p0, .int .i64 p1] rfl ?_
  refine CW.seq ?_
  refine CW.lex [.W] rfl ?_
  refine RW.pure tabOk 1 rfl ?_
  refine RW.done ?_
  refine NW.next ?_
  refine CW.seq ?_
  refine CW.lex [.W, .W, .W, .W, .W, .W, .W, .W] rfl ?_
  refine RW.pure tabOk 3 rfl ?_
  by_cases c1 : 0 ≤ p0
  · rw [if_pos c1] at H
    refine RW.bool 7 (b' := true) (decide_eq_true c1) rfl ?_
    refine RW.pure tabOk 5 rfl ?_
    refine RW.done ?_
    refine NW.next ?_
    refine CW.ret ?_
    obtain rfl := Option.some.inj H
    exact NW.ret1 rfl (by rfl) ⟨rfl, x0⟩
  · rw [if_neg c1] at H
    refine RW.bool 7 (b' := false) (decide_eq_false c1) rfl ?_
    refine RW.pure tabOk 5 rfl ?_
    refine RW.done ?_
    refine NW.next ?_
    refine CW.ret ?_
    obtain rfl := Option.some.inj H
    exact NW.ret1 rfl (by rfl) ⟨rfl, x0⟩

set_option maxHeartbeats 4000000 in
set_option maxRecDepth 100000 in
theorem hermitageref1_Ends.calls (A1 : Option Addr) (c_1 : Nat) (p0 : List Seg) (r : Int) (w : World) (hs1 : Sl kSeg w.heap okAll A1 p0) (hl1 : p0.length ≤ c_1) (H : hermitageref1_Ends.f p0 = some r) :
    Calls Tryd.prog 32 #[.slice A1 p0.length c_1] w fun e w' => e = .returned (.int .i64 r) ∧ Ext w w' := by
  have h1 : Sl kSeg w.heap (okL [(0, some w.heap.size, none)]) A1 p0 := hs1.old _ rfl
  have x0 : Ext w w := Upd.refl _ w
  unfold hermitageref1_Ends.f at H
  refine calls_start Tryd.func32 rfl 21 rfl [.slice A1 p0.length c_1] rfl ?_
  refine CW.seq ?_
  refine CW.lex [.W] rfl ?_
  refine RW.pure tabOk 1 rfl ?_
  refine RW.done ?_
  refine NW.next ?_
  refine CW.seq ?_
  refine CW.seq ?_
  refine CW.lex [.W, .W, .W] rfl ?_
  refine RW.pure tabOk 3 rfl ?_
  refine RW.done ?_
  refine NW.next ?_
  by_cases c1 : (p0.length : Int) = 0
  · rw [if_pos c1] at H
    refine CW.cond_t rfl (beq_t c1) ?_
    refine CW.seq ?_
    refine CW.lex [.W] rfl ?_
    refine RW.pure tabOk 1 rfl ?_
    refine RW.done ?_
    refine NW.next ?_
    refine CW.ret ?_
    refine NW.ret_then ?_
    obtain rfl := Option.some.inj H
    exact NW.ret1 rfl (by rfl) ⟨rfl, x0⟩
  · rw [if_neg c1] at H
    refine CW.cond_f rfl (beq_f c1) ?_
    refine CW.skip ?_
    refine NW.next ?_
    refine CW.seq ?_
    refine CW.ord [0, 0, 2, 6, 15, 31, 63, 0, 0, 256, 768, 1920, 3968, 8064, 16383, 32767] [(0, .W), (1, .W), (2, .W), (3, .W), (4, .W), (5, .W), (7, .W), (8, .W), (9, .W), (10, .W), (11, .W), (12, .W), (6, .L), (13, .L), (14, .W), (15, .W)] mixed (by kernel_rfl) ?_
    intro w1 x1
    have sx1 := x1.size
    refine RW.pure tabOk 4 rfl ?_
    obtain ⟨g1, H⟩ := guard_some H
    have h2 := h1.ext x1
    obtain ⟨ad1, e1, a1⟩ := kSeg_at h2 g1.1 g1.2
    refine RW.index tabOk g1.1 g1.2 e1 ⟨rfl, rfl, rfl, rfl⟩ rfl rfl rfl rfl rfl rfl ?_
    refine RW.pure tabOk 5 rfl ?_
    obtain ⟨g2, H⟩ := guard_some H
    obtain ⟨ad2, e2, a2⟩ := kSeg_at h2 g2.1 g2.2
    refine RW.index tabOk g2.1 g2.2 e2 ⟨rfl, rfl, rfl, rfl⟩ rfl rfl rfl rfl rfl rfl ?_
    refine RW.pure tabOk 1 rfl ?_
    refine RW.load tabOk [.int .i64 ((rd p0 (w64 ((p0.length : Int) - 1))).At)] ((a1.fld 0).take 1 rfl) ⟨rfl, rfl, rfl, rfl⟩ rfl rfl rfl rfl ?_
    refine RW.load tabOk [.int .i64 ((rd p0 (w64 ((p0.length : Int) - 1))).Len)] (a2.fld 1) ⟨rfl, rfl, rfl, rfl⟩ rfl rfl rfl rfl ?_
    refine RW.pure tabOk 2 rfl ?_
    refine RW.done ?_
    refine NW.next ?_
    refine CW.ret ?_
    obtain rfl := Option.some.inj H
    have h3 := Ext.trans x0 x1
    exact NW.ret1 rfl (by rfl) ⟨rfl, h3⟩

set_option maxHeartbeats 4000000 in
set_option maxRecDepth 100000 in
theorem hermitageref1_Not.calls (k : Nat) (A1 : Option Addr) (c_1 : Nat) (p0 : List Seg) (p1 : Int) (r : (List Seg)) (w : World) (hs1 : Sl kSeg w.heap okAll A1 p0) (hl1 : p0.length ≤ c_1) (H : hermitageref1_Not.f k p0 p1 = some r) :
    Calls Tryd.prog 33 #[.slice A1 p0.length c_1, .int .i64 p1] w fun e w' => ∃ (B1 : Option Addr) (d1 : Nat), e = .returned (.slice B1 r.length d1) ∧ Ext w w' ∧ Ow kSeg 93 w'.heap (okL [(w.heap.size, none, some 93)]) (okL []) B1 d1 r := by
  have h1 : Sl kSeg w.heap (okL [(0, some w.heap.size, none)]) A1 p0 := hs1.old _ rfl
  have x0 : Ext w w := Upd.refl _ w
  unfold hermitageref1_Not.f at H
  refine calls_start Tryd.func33 rfl 12 rfl [.slice A1 p0.length c_1, .int .i64 p1] rfl ?_
  refine CW.seq ?_
  refine CW.lex [.W] rfl ?_
  refine RW.pure tabOk 1 rfl ?_
  refine RW.done ?_
  refine NW.next ?_
  refine CW.seq ?_
  refine CW.seq ?_
  refine CW.lex [.W, .W] rfl ?_
  refine RW.pure tabOk 2 rfl ?_
  refine RW.done ?_
  refine NW.next ?_
  by_cases c1 : p1 = 0
  · rw [if_pos c1] at H
    refine CW.cond_t rfl (beq_t c1) ?_
    refine CW.seq ?_
    refine CW.lex [.W] rfl ?_
    refine RW.pure tabOk 1 rfl ?_
    refine RW.done ?_
    refine NW.next ?_
    refine CW.ret ?_
    refine NW.ret_then ?_
    obtain rfl := Option.some.inj H
    exact NW.ret1 rfl (by rfl) ⟨none, 0, rfl, x0, Ow.nil⟩
  · rw [if_neg c1] at H
    refine CW.cond_f rfl (beq_f c1) ?_
    refine CW.skip ?_
    refine NW.next ?_
    refine CW.seq ?_
    refine CW.lex [.W, .W, .X, .W, .X, .W] rfl ?_
    refine RW.pure tabOk 2 rfl ?_
    refine RW.buildSlice (cs := [.int .i64 0, .int .i64 p1]) tabOk (.inl rfl) ⟨rfl, rfl, rfl, rfl⟩ rfl rfl rfl rfl rfl rfl rfl ?_
    intro b1 w1 x1 l1 h2
    have sx1 := x1.size
    have ltb1 := h2.lt
    refine RW.pure tabOk 1 rfl ?_
    have h3 : Ow kSeg 93 w1.heap (okL [(w.heap.size, some w1.heap.size, some 93)]) (okL []) (some ⟨b1, 0, none⟩) 1 ([(⟨0, p1⟩ : Seg)] : List Seg) := Ow.of_box h2 (.inl ⟨l1, ltb1, rfl⟩) (Nat.le_of_ble_eq_true rfl) (Ch.cons (d := kSeg) (cs := [.int .i64 0, .int .i64 p1]) (x := (⟨0, p1⟩ : Seg)) (kSeg_mk (⟨0, p1⟩ : Seg)) Ch.nil)
    have h4 := h1.ext x1
    obtain ⟨y1, h5, H⟩ := bind_some H
    refine RW.callF (.inl rfl) ent20 ⟨rfl, rfl, rfl, rfl⟩ rfl rfl (hermitageref1_Two.calls k (some ⟨b1, 0, none⟩) 1 ([(⟨0, p1⟩ : Seg)] : List Seg) A1 c_1 p0 1 _ _ h3.all h3.len h4.all hl1 h5) ?_
    rintro _ w2 ⟨A2, c_2, rfl, x2, h6⟩
    refine ⟨_, rfl, x2, ?_⟩
    have sx2 := x2.size
    have h7 : Ow kSeg 93 w2.heap (okL [(w1.heap.size, some w2.heap.size, some 93)]) (okL []) A2 c_2 y1 := h6.close
    refine RW.pure tabOk 1 rfl ?_
    refine RW.done ?_
    refine NW.next ?_
    refine CW.ret ?_
    obtain rfl := Option.some.inj H
    have h8 := Ext.trans (Ext.trans x0 x1) x2
    exact NW.ret1 rfl (by rfl) ⟨A2, c_2, rfl, h8, (h7.sub (l' := [(w.heap.size, none, some 93)]) (li' := []) ⟨(.inl ⟨by omega, trivial, rfl⟩), trivial⟩ trivial)⟩

set_option maxHeartbeats 4000000 in
set_option maxRecDepth 100000 in
theorem hermitageref1_Has.calls (k : Nat) (A1 : Option Addr) (c_1 : Nat) (p0 : List Seg) (p1 : Int) (r : Bool) (w : World) (hs1 : Sl kSeg w.heap okAll A1 p0) (hl1 : p0.length ≤ c_1) (H : hermitageref1_Has.f k p0 p1 = some r) :
    Calls Tryd.prog 34 #[.slice A1 p0.length c_1, .int .i64 p1] w fun e w' => e = .returned (.bool r) ∧ Ext w w' := by
  have h1 : Sl kSeg w.heap (okL [(0, some w.heap.size, none)]) A1 p0 := hs1.old _ rfl
  have x0 : Ext w w := Upd.refl _ w
  unfold hermitageref1_Has.f at H
  refine calls_start Tryd.func34 rfl 15 rfl [.slice A1 p0.length c_1, .int .i64 p1] rfl ?_
  refine CW.seq ?_
  refine CW.lex [.W] rfl ?_
  refine RW.pure tabOk 1 rfl ?_
  refine RW.done ?_
  refine NW.next ?_
  refine CW.seq ?_
  refine CW.lex [.W, .X, .X, .M] rfl ?_
  refine RW.pure tabOk 1 rfl ?_
  obtain ⟨y1, h2, H⟩ := bind_some H
  refine RW.callF (.inl rfl) ent57 ⟨rfl, rfl, rfl, rfl⟩ rfl rfl (hermitageref1_Set.calls k A1 c_1 p0 _ _ h1.all hl1 h2) ?_
  rintro _ w1 ⟨rfl, x1⟩
  refine ⟨_, rfl, x1, ?_⟩
  have sx1 := x1.size
  refine RW.alloc tabOk (.inl rfl) ⟨rfl, rfl, rfl, rfl⟩ rfl rfl ?_
  intro b1 w2 x2 l1 h3
  have sx2 := x2.size
  have ltb1 := h3.lt
  refine RW.storeBox tabOk h3 (arrB 64 y1) ⟨rfl, rfl, rfl⟩ rfl rfl rfl rfl rfl arrF_len (arrF_all fun _ => rfl) (arrF_fitAll arrF_len) ?_
  intro w3 x3 h4
  have h5 : Box w3.heap b1 54 (arrB 64 y1) := by rw [lay_arrFull] at h4; exact h4
  have sx3 := x3.size
  refine RW.done ?_
  refine NW.next ?_
  refine CW.seq ?_
  refine CW.lex [.W, .X, .W, .W, .W, .L, .W, .W] rfl ?_
  refine RW.pure tabOk 1 rfl ?_
  obtain ⟨y2, h6, H⟩ := bind_some H
  refine RW.callF (.inl rfl) ent31 ⟨rfl, rfl, rfl, rfl⟩ rfl rfl (hermitageref0_Num.calls p1 63 _ _ h6) ?_
  rintro _ w4 ⟨rfl, x4⟩
  refine ⟨_, rfl, x4, ?_⟩
  have sx4 := x4.size
  refine RW.pure tabOk 1 rfl ?_
  by_cases c1 : y2 = true
  · rw [if_pos c1] at H
    refine RW.bool 10 (b' := true) (c1) rfl ?_
    refine RW.pure tabOk 1 rfl ?_
    obtain ⟨g1, H⟩ := guard_some H
    refine RW.indexBox tabOk g1.1 g1.2 ⟨rfl, rfl, rfl, rfl⟩ rfl rfl rfl rfl rfl rfl rfl ?_
    have h7 := h5.ext x4
    refine RW.load tabOk [.bool (y1 p1.toNat)] (h7.elF (by have := g1; omega)) ⟨rfl, rfl, rfl, rfl⟩ rfl rfl rfl rfl ?_
    refine RW.pure tabOk 2 rfl ?_
    refine RW.done ?_
    refine NW.next ?_
    refine CW.ret ?_
    obtain rfl := Option.some.inj H
    have h8 := Ext.trans (Ext.turnB (Ext.trans (Ext.trans x0 x1) x2) x3 (by omega)) x4
    exact NW.ret1 rfl (by rfl) ⟨rfl, h8⟩
  · rw [if_neg c1] at H
    refine RW.bool 10 (b' := false) (bool_f c1) rfl ?_
    refine RW.pure tabOk 5 rfl ?_
    refine RW.done ?_
    refine NW.next ?_
    refine CW.ret ?_
    obtain rfl := Option.some.inj H
    have h9 := Ext.trans (Ext.turnB (Ext.trans (Ext.trans x0 x1) x2) x3 (by omega)) x4
    exact NW.ret1 rfl (by rfl) ⟨rfl, h9⟩

end Go.Proofs.YtnaajldlloglkaaDoor.W
