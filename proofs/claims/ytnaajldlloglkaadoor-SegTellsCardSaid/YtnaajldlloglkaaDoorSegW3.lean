/- Walks; printed by a program of the claim. -/
import Derived.Test.YtnaajldlloglkaaDoorSegW2
set_option linter.unusedVariables false
set_option linter.unusedSimpArgs false
namespace Go.Proofs.YtnaajldlloglkaaDoor.W
open Go.H Go.Proofs
set_option maxHeartbeats 4000000 in
set_option maxRecDepth 100000 in
theorem hermitagelaw1_SegTells.calls (k : Nat) (p0 : hermitagelaw1Ask) (A1 : Option Addr) (c_1 : Nat) (A2 : Option Addr) (c_2 : Nat) (r : Bool) (w : World) (hs1 : Sl (Kd.sl kSeg) w.heap okAll A1 p0.L) (hl1 : p0.L.length ≤ c_1) (hs2 : Sl (Kd.int .i64) w.heap okAll A2 p0.N) (hl2 : p0.N.length ≤ c_2) {gT : Nat} (hG : Box w.heap 0 gT (arrI .u8 64 tz)) (H : hermitagelaw1_SegTells.f k p0 = some r) :
    Calls Tryd.prog 7 #[.agg #[.slice A1 p0.L.length c_1, .slice A2 p0.N.length c_2]] w fun e w' => e = .returned (.bool r) ∧ Ext w w' := by
  have h1 : Sl (Kd.sl kSeg) w.heap (okL [(0, some w.heap.size, none)]) A1 p0.L := hs1.old _ rfl
  have h2 : Sl (Kd.int .i64) w.heap (okL [(0, some w.heap.size, none)]) A2 p0.N := hs2.old _ rfl
  have hG0 : 0 < w.heap.size := hG.lt
  have x0 : Ext w w := Upd.refl _ w
  unfold hermitagelaw1_SegTells.f at H
  refine calls_start Tryd.func7 rfl 277 rfl [.agg #[.slice A1 p0.L.length c_1, .slice A2 p0.N.length c_2]] rfl ?_
  refine CW.seq ?_
  refine CW.lex [.X, .W] rfl ?_
  refine RW.box (cs := [.slice A1 p0.L.length c_1, .slice A2 p0.N.length c_2]) (.inl rfl) ⟨rfl, rfl, rfl, rfl⟩ rfl rfl rfl ?_
  intro b1 w1 x1 l1 h3
  have sx1 := x1.size
  have ltb1 := h3.lt
  refine RW.pure tabOk 1 rfl ?_
  refine RW.done ?_
  refine NW.next ?_
  refine CW.seq ?_
  refine CW.seq ?_
  refine CW.lex [.L, .X] rfl ?_
  refine RW.load tabOk [.slice A1 p0.L.length c_1, .slice A2 p0.N.length c_2] (h3.at 0) ⟨rfl, rfl, rfl, rfl⟩ rfl rfl rfl rfl ?_
  have h4 := h1.ext x1
  have h5 := h2.ext x1
  obtain ⟨y1, h6, H⟩ := bind_some H
  refine RW.callF (.inl rfl) ent11 ⟨rfl, rfl, rfl, rfl⟩ rfl rfl (hermitagelaw1_Heavy.calls k p0 A1 c_1 A2 c_2 _ _ h4.all hl1 h5.all hl2 h6) ?_
  rintro _ w2 ⟨rfl, x2⟩
  refine ⟨_, rfl, x2, ?_⟩
  have sx2 := x2.size
  refine RW.done ?_
  refine NW.next ?_
  by_cases c1 : y1 = true
  · rw [if_pos c1] at H
    refine CW.cond_t rfl (c1) ?_
    refine CW.seq ?_
    refine CW.lex [.W] rfl ?_
    refine RW.pure tabOk 1 rfl ?_
    refine RW.done ?_
    refine NW.next ?_
    refine CW.ret ?_
    refine NW.ret_then ?_
    obtain rfl := Option.some.inj H
    have h7 := Ext.trans (Ext.trans x0 x1) x2
    exact NW.ret1 rfl (by rfl) ⟨rfl, h7⟩
  · rw [if_neg c1] at H
    refine CW.cond_f rfl (bool_f c1) ?_
    refine CW.skip ?_
    refine NW.next ?_
    refine CW.seq ?_
    refine CW.lex [.X, .W, .L, .M, .W] rfl ?_
    refine RW.buildSlice (cs := [.int .i64 0, .int .i64 1, .int .i64 63, .int .i64 64, .int .i64 65, .int .i64 (-1)]) tabOk (.inl rfl) ⟨rfl, rfl, rfl, rfl⟩ rfl rfl rfl rfl rfl rfl rfl ?_
    intro b2 w3 x3 l2 h8
    have sx3 := x3.size
    have ltb2 := h8.lt
    refine RW.pure tabOk 1 rfl ?_
    have h9 := (h3.ext x2).ext x3
    refine RW.load tabOk [.slice A2 p0.N.length c_2] (h9.at 1) ⟨rfl, rfl, rfl, rfl⟩ rfl rfl rfl rfl ?_
    have h10 : Ow (Kd.int .i64) 3 w3.heap (okL [(w2.heap.size, some w3.heap.size, some 3)]) (okL []) (some ⟨b2, 0, none⟩) 6 ([0, 1, 63, 64, 65, (-1)] : List Int) := Ow.of_box h8 (.inl ⟨l2, ltb2, rfl⟩) (Nat.le_of_ble_eq_true rfl) (Ch.cons (d := (Kd.int .i64)) (cs := [.int .i64 0]) (x := 0) rfl (Ch.cons (d := (Kd.int .i64)) (cs := [.int .i64 1]) (x := 1) rfl (Ch.cons (d := (Kd.int .i64)) (cs := [.int .i64 63]) (x := 63) rfl (Ch.cons (d := (Kd.int .i64)) (cs := [.int .i64 64]) (x := 64) rfl (Ch.cons (d := (Kd.int .i64)) (cs := [.int .i64 65]) (x := 65) rfl (Ch.cons (d := (Kd.int .i64)) (cs := [.int .i64 (-1)]) (x := (-1)) rfl Ch.nil))))))
    have h11 := (h5.ext x2).ext x3
    obtain ⟨y2, h12, h13⟩ := Sl.ch h11
    have h14 := h12.flat (h' := w3.heap) (ok' := okL []) fun e => e
    obtain ⟨g1, H⟩ := guard_some H
    refine RW.appendL (d := (Kd.int .i64)) (l := [(w2.heap.size, some w3.heap.size, some 3)]) (li := []) (ly := []) (xs := ([0, 1, 63, 64, 65, (-1)] : List Int)) (ys := p0.N) tabOk h10 h14 h13 trivial (by simp only [maxLen]; omega) g1 ⟨rfl, rfl, rfl, rfl⟩ rfl rfl rfl rfl rfl rfl rfl rfl ?_
    intro A3 c_3 w4 x4 h15
    have sx4 := x4.size
    have h16 := h15.close.sub (l' := [(w2.heap.size, some w4.heap.size, some 3)]) (li' := []) ⟨(.inl ⟨by omega, by omega, rfl⟩), ⟨(.inl ⟨by omega, by omega, rfl⟩), trivial⟩⟩ trivial
    refine RW.pure tabOk 1 rfl ?_
    refine RW.done ?_
    refine NW.next ?_
    refine CW.seq ?_
    refine CW.seq ?_
    refine CW.lex [.W] rfl ?_
    refine RW.pure tabOk 1 rfl ?_
    refine RW.done ?_
    refine NW.next ?_
    refine CW.block ?_
    refine CW.loop (fun n1 a w5 => ∃ (it4_0 : Int), Sat 277 [(1, .pointer (some ⟨b1, 0, none⟩)), (3, .slice A3 (([0, 1, 63, 64, 65, (-1)] : List Int) ++ p0.N).length c_3), (4, .int .i64 it4_0)] a ∧ w4.heap.size ≤ w5.heap.size ∧ Sl (Kd.sl kSeg) w5.heap (okL [(0, some w.heap.size, none)]) A1 p0.L ∧ Sl (Kd.int .i64) w5.heap (okL [(0, some w.heap.size, none)]) A2 p0.N ∧ Ow (Kd.int .i64) 3 w5.heap (okL [(w2.heap.size, some w4.heap.size, some 3)]) (okL []) A3 c_3 (([0, 1, 63, 64, 65, (-1)] : List Int) ++ p0.N) ∧ Ext w w5 ∧ Box w5.heap b1 25 [.slice A1 p0.L.length c_1, .slice A2 p0.N.length c_2] ∧ Box w5.heap 0 gT (arrI .u8 64 tz) ∧ hermitagelaw1_SegTells.l0 p0 k n1 it4_0 = some r) k ?_ ?_
    have h17 := ((h4.ext x2).ext x3).turnL x4 ⟨⟨.inr (.inl (by omega)), trivial⟩, trivial⟩
    have h18 := h11.turnL x4 ⟨⟨.inr (.inl (by omega)), trivial⟩, trivial⟩
    have h19 := Ext.turn (Ext.trans (Ext.trans (Ext.trans x0 x1) x2) x3) x4 ⟨by omega, trivial⟩
    have h20 := h9.turnL x4 (.inl (by decide))
    have h21 := (((hG.ext x1).ext x2).ext x3).turnL x4 (.inr ⟨⟨.inr (.inl (by omega)), trivial⟩, trivial⟩)
    · exact fun a ha => ⟨0, ha.sub ⟨rfl, rfl, rfl, trivial⟩, by omega, h17, h18, h16, h19, h20, h21, H⟩
    intro n1 a w5 hI hp
    obtain ⟨it4_0, hS, hle, gF1_0, gF2_0, gF4_0, x0_0, gb1_0, g0_0, H⟩ := hI
    cases n1 with
    | zero => cases H
    | succ n1 =>
      rw [hermitagelaw1_SegTells.l0] at H
      refine CW.go hp hS ?_
      refine CW.seq ?_
      refine CW.seqJ (fun a w6 => ∃ (bt42_1 : Bool), Sat 277 [(1, .pointer (some ⟨b1, 0, none⟩)), (3, .slice A3 (([0, 1, 63, 64, 65, (-1)] : List Int) ++ p0.N).length c_3), (4, .int .i64 it4_0), (42, .bool bt42_1)] a ∧ w5.heap.size ≤ w6.heap.size ∧ Sl (Kd.sl kSeg) w6.heap (okL [(0, some w.heap.size, none)]) A1 p0.L ∧ Sl (Kd.int .i64) w6.heap (okL [(0, some w.heap.size, none)]) A2 p0.N ∧ Ow (Kd.int .i64) 3 w6.heap (okL [(w2.heap.size, some w4.heap.size, some 3)]) (okL []) A3 c_3 (([0, 1, 63, 64, 65, (-1)] : List Int) ++ p0.N) ∧ Ext w w6 ∧ Box w6.heap b1 25 [.slice A1 p0.L.length c_1, .slice A2 p0.N.length c_2] ∧ Box w6.heap 0 gT (arrI .u8 64 tz) ∧ hermitagelaw1_SegTells.j0 p0 k it4_0 (hermitagelaw1_SegTells.l0 p0 k n1) bt42_1 = some r) ?_ ?_
      ·
        refine CW.lex [.W, .W, .L, .W, .W, .W, .W, .W, .W] rfl ?_
        refine RW.pure tabOk 2 rfl ?_
        refine RW.load tabOk [.slice A1 p0.L.length c_1] ((gb1_0.at 0).take 1 rfl) ⟨rfl, rfl, rfl, rfl⟩ rfl rfl rfl rfl ?_
        refine RW.pure tabOk 3 rfl ?_
        by_cases c2 : it4_0 < (p0.L.length : Int)
        · rw [if_pos c2] at H
          refine RW.bool 39 (b' := true) (decide_eq_true c2) rfl ?_
          refine RW.pure tabOk 3 rfl ?_
          refine RW.done ?_
          exact NW.J fun a ha => ⟨(decide (it4_0 < 5)), ha.sub ⟨rfl, rfl, rfl, rfl, trivial⟩, by omega, gF1_0, gF2_0, gF4_0, x0_0, gb1_0, g0_0, H⟩
        · rw [if_neg c2] at H
          refine RW.bool 39 (b' := false) (decide_eq_false c2) rfl ?_
          refine RW.pure tabOk 3 rfl ?_
          refine RW.done ?_
          exact NW.J fun a ha => ⟨false, ha.sub ⟨rfl, rfl, rfl, rfl, trivial⟩, by omega, gF1_0, gF2_0, gF4_0, x0_0, gb1_0, g0_0, H⟩
      intro a w6 hJ hp
      obtain ⟨bt42_1, hS, hle, gF1_1, gF2_1, gF4_1, x0_1, gb1_1, g0_1, H⟩ := hJ
      unfold hermitagelaw1_SegTells.j0 at H
      refine CW.go hp hS ?_
      by_cases c3 : bt42_1 = true
      · rw [if_pos c3] at H
        refine CW.cond_t rfl (c3) ?_
        refine CW.skip ?_
        refine NW.next ?_
        refine CW.seqJ (fun a w7 => Sat 277 [(1, .pointer (some ⟨b1, 0, none⟩)), (3, .slice A3 (([0, 1, 63, 64, 65, (-1)] : List Int) ++ p0.N).length c_3), (4, .int .i64 it4_0)] a ∧ w6.heap.size ≤ w7.heap.size ∧ Sl (Kd.sl kSeg) w7.heap (okL [(0, some w.heap.size, none)]) A1 p0.L ∧ Sl (Kd.int .i64) w7.heap (okL [(0, some w.heap.size, none)]) A2 p0.N ∧ Ow (Kd.int .i64) 3 w7.heap (okL [(w2.heap.size, some w4.heap.size, some 3)]) (okL []) A3 c_3 (([0, 1, 63, 64, 65, (-1)] : List Int) ++ p0.N) ∧ Ext w w7 ∧ Box w7.heap b1 25 [.slice A1 p0.L.length c_1, .slice A2 p0.N.length c_2] ∧ Box w7.heap 0 gT (arrI .u8 64 tz) ∧ hermitagelaw1_SegTells.j1 it4_0 (hermitagelaw1_SegTells.l0 p0 k n1) = some r) ?_ ?_
        ·
          refine CW.block ?_
          refine CW.seq ?_
          refine CW.lex [.W, .L, .W, .W, .L, .X, .W] rfl ?_
          refine RW.pure tabOk 1 rfl ?_
          refine RW.load tabOk [.slice A1 p0.L.length c_1] ((gb1_1.at 0).take 1 rfl) ⟨rfl, rfl, rfl, rfl⟩ rfl rfl rfl rfl ?_
          refine RW.pure tabOk 1 rfl ?_
          obtain ⟨g2, H⟩ := guard_some H
          obtain ⟨ad1, A4, c_4, e1, a1, l3, h22⟩ := sl_at gF1_1 g2.1 g2.2
          refine RW.index tabOk g2.1 g2.2 e1 ⟨rfl, rfl, rfl, rfl⟩ rfl rfl rfl rfl rfl rfl ?_
          refine RW.load tabOk [.slice A4 (rd p0.L it4_0).length c_4] a1 ⟨rfl, rfl, rfl, rfl⟩ rfl rfl rfl rfl ?_
          obtain ⟨y3, h23, H⟩ := bind_some H
          refine RW.callF (.inl rfl) ent17 ⟨rfl, rfl, rfl, rfl⟩ rfl rfl (hermitageref0_CopySegs.calls k A4 c_4 (rd p0.L it4_0) _ _ h22.all l3 h23) ?_
          rintro _ w8 ⟨A5, c_5, rfl, x5, h24⟩
          refine ⟨_, rfl, x5, ?_⟩
          have sx5 := x5.size
          have h25 : Ow kSeg 93 w8.heap (okL [(w6.heap.size, some w8.heap.size, some 93)]) (okL []) A5 c_5 y3 := h24.close
          refine RW.pure tabOk 1 rfl ?_
          refine RW.done ?_
          refine NW.next ?_
          refine CW.seq ?_
          refine CW.lex [.W, .L, .W, .W, .L, .X, .W] rfl ?_
          refine RW.pure tabOk 1 rfl ?_
          have h26 := gb1_1.ext x5
          refine RW.load tabOk [.slice A1 p0.L.length c_1] ((h26.at 0).take 1 rfl) ⟨rfl, rfl, rfl, rfl⟩ rfl rfl rfl rfl ?_
          refine RW.pure tabOk 1 rfl ?_
          obtain ⟨g3, H⟩ := guard_some H
          have h27 := gF1_1.ext x5
          obtain ⟨ad2, A6, c_6, e2, a2, l4, h28⟩ := sl_at h27 g3.1 g3.2
          refine RW.index tabOk g3.1 g3.2 e2 ⟨rfl, rfl, rfl, rfl⟩ rfl rfl rfl rfl rfl rfl ?_
          refine RW.load tabOk [.slice A6 (rd p0.L it4_0).length c_6] a2 ⟨rfl, rfl, rfl, rfl⟩ rfl rfl rfl rfl ?_
          obtain ⟨y4, h29, H⟩ := bind_some H
          refine RW.callF (.inl rfl) ent12 ⟨rfl, rfl, rfl, rfl⟩ rfl rfl (hermitageref1_Segs.calls k A6 c_6 (rd p0.L it4_0) _ _ h28.all l4 h29) ?_
          rintro _ w9 ⟨rfl, x6⟩
          refine ⟨_, rfl, x6, ?_⟩
          have sx6 := x6.size
          refine RW.pure tabOk 1 rfl ?_
          refine RW.done ?_
          refine NW.next ?_
          refine CW.seq ?_
          refine CW.lex [.W, .X, .W, .W, .W, .W, .W] rfl ?_
          refine RW.pure tabOk 1 rfl ?_
          have h30 := h25.ext x6
          obtain ⟨y5, h31, H⟩ := bind_some H
          refine RW.callF (.inl rfl) ent23 ⟨rfl, rfl, rfl, rfl⟩ rfl rfl (seg_Count.calls k A5 c_5 y3 _ _ h30.all h30.len h31) ?_
          rintro _ w10 ⟨rfl, x7⟩
          refine ⟨_, rfl, x7, ?_⟩
          have sx7 := x7.size
          refine RW.pure tabOk 5 rfl ?_
          refine RW.done ?_
          refine NW.next ?_
          refine CW.seq ?_
          refine CW.lex [.W, .X, .W, .W, .W, .W, .W] rfl ?_
          refine RW.pure tabOk 1 rfl ?_
          have h32 := h30.ext x7
          have h33 := ((g0_1.ext x5).ext x6).ext x7
          obtain ⟨y6, h34, H⟩ := bind_some H
          refine RW.callF (.inl rfl) ent25 ⟨rfl, rfl, rfl, rfl⟩ rfl rfl (seg_List.calls k A5 c_5 y3 _ _ h32.all h32.len h33 h34) ?_
          rintro _ w11 ⟨A7, c_7, rfl, x8, h35⟩
          refine ⟨_, rfl, x8, ?_⟩
          have sx8 := x8.size
          have h36 : Ow (Kd.int .i64) 3 w11.heap (okL [(w10.heap.size, some w11.heap.size, some 3)]) (okL []) A7 c_7 y6.1 := h35.close
          refine RW.pure tabOk 5 rfl ?_
          refine RW.done ?_
          refine NW.next ?_
          refine CW.seq ?_
          refine CW.lex [.W, .W] rfl ?_
          refine RW.pure tabOk 2 rfl ?_
          refine RW.done ?_
          refine NW.next ?_
          refine CW.seq ?_
          refine CW.lex [.W] rfl ?_
          refine RW.pure tabOk 1 rfl ?_
          refine RW.done ?_
          refine NW.next ?_
          refine CW.seqJ (fun a w12 => ∃ (it11_3 : Int) (it12_3 : Int) (lt13_3 : List Int) (At13_3 : Option Addr) (ct13_3 : Nat), Sat 277 [(1, .pointer (some ⟨b1, 0, none⟩)), (3, .slice A3 (([0, 1, 63, 64, 65, (-1)] : List Int) ++ p0.N).length c_3), (4, .int .i64 it4_0), (5, .slice A5 y3.length c_5), (6, .bool y4), (7, .int .i64 y5.1), (8, .int .i64 y5.2), (9, .slice A7 y6.1.length c_7), (10, .int .i64 y6.2), (11, .int .i64 it11_3), (12, .int .i64 it12_3), (13, .slice At13_3 lt13_3.length ct13_3)] a ∧ w11.heap.size ≤ w12.heap.size ∧ Ow (Kd.int .i64) 3 w12.heap (okL [(w11.heap.size, none, some 3)]) (okL []) At13_3 ct13_3 lt13_3 ∧ Sl (Kd.sl kSeg) w12.heap (okL [(0, some w.heap.size, none)]) A1 p0.L ∧ Sl (Kd.int .i64) w12.heap (okL [(0, some w.heap.size, none)]) A2 p0.N ∧ Ow (Kd.int .i64) 3 w12.heap (okL [(w2.heap.size, some w4.heap.size, some 3)]) (okL []) A3 c_3 (([0, 1, 63, 64, 65, (-1)] : List Int) ++ p0.N) ∧ Ow kSeg 93 w12.heap (okL [(w6.heap.size, some w8.heap.size, some 93)]) (okL []) A5 c_5 y3 ∧ Ow (Kd.int .i64) 3 w12.heap (okL [(w10.heap.size, some w11.heap.size, some 3)]) (okL []) A7 c_7 y6.1 ∧ Ext w w12 ∧ Box w12.heap b1 25 [.slice A1 p0.L.length c_1, .slice A2 p0.N.length c_2] ∧ Box w12.heap 0 gT (arrI .u8 64 tz) ∧ hermitagelaw1_SegTells.j2 p0 k it4_0 y3 y4 y5 y6 (hermitagelaw1_SegTells.l0 p0 k n1) it11_3 it12_3 lt13_3 = some r) ?_ ?_
          ·
            refine CW.seq ?_
            refine CW.lex [.W] rfl ?_
            refine RW.pure tabOk 1 rfl ?_
            refine RW.done ?_
            refine NW.next ?_
            by_cases c4 : y4 = true
            · rw [if_pos c4] at H
              refine CW.cond_t rfl (c4) ?_
              refine CW.ord [0, 1, 0, 7, 15, 31, 0, 64, 0, 448, 960, 2047, 4095, 8191, 16383] [(0, .W), (2, .W), (6, .W), (8, .W), (1, .L), (3, .W), (4, .L), (7, .L), (9, .W), (10, .L), (5, .X), (11, .X), (12, .W), (13, .W), (14, .W)] mixed (by kernel_rfl) ?_
              intro w13 x9
              have sx9 := x9.size
              refine RW.pure tabOk 4 rfl ?_
              have h37 := (((h26.ext x6).ext x7).ext x8).ext x9
              refine RW.load tabOk [.slice A1 p0.L.length c_1] ((h37.at 0).take 1 rfl) ⟨rfl, rfl, rfl, rfl⟩ rfl rfl rfl rfl ?_
              obtain ⟨g4, H⟩ := guard_some H
              have h38 := (((h27.ext x6).ext x7).ext x8).ext x9
              obtain ⟨ad3, A8, c_8, e3, a3, l5, h39⟩ := sl_at h38 g4.1 g4.2
              refine RW.index tabOk g4.1 g4.2 e3 ⟨rfl, rfl, rfl, rfl⟩ rfl rfl rfl rfl rfl rfl ?_
              refine RW.load tabOk [.slice A8 (rd p0.L it4_0).length c_8] a3 ⟨rfl, rfl, rfl, rfl⟩ rfl rfl rfl rfl ?_
              refine RW.load tabOk [.slice A1 p0.L.length c_1] ((h37.at 0).take 1 rfl) ⟨rfl, rfl, rfl, rfl⟩ rfl rfl rfl rfl ?_
              obtain ⟨g5, H⟩ := guard_some H
              obtain ⟨ad4, A9, c_9, e4, a4, l6, h40⟩ := sl_at h38 g5.1 g5.2
              refine RW.index tabOk g5.1 g5.2 e4 ⟨rfl, rfl, rfl, rfl⟩ rfl rfl rfl rfl rfl rfl ?_
              refine RW.load tabOk [.slice A9 (rd p0.L it4_0).length c_9] a4 ⟨rfl, rfl, rfl, rfl⟩ rfl rfl rfl rfl ?_
              obtain ⟨y7, h41, H⟩ := bind_some H
              refine RW.callF (.inl rfl) ent27 ⟨rfl, rfl, rfl, rfl⟩ rfl rfl (hermitageref1_Count.calls k A8 c_8 (rd p0.L it4_0) _ _ h39.all l5 h41) ?_
              rintro _ w14 ⟨rfl, x10⟩
              refine ⟨_, rfl, x10, ?_⟩
              have sx10 := x10.size
              have h42 := h40.ext x10
              obtain ⟨y8, h43, H⟩ := bind_some H
              refine RW.callF (.inl rfl) ent28 ⟨rfl, rfl, rfl, rfl⟩ rfl rfl (hermitageref1_List.calls k A9 c_9 (rd p0.L it4_0) _ _ h42.all l6 h43) ?_
              rintro _ w15 ⟨A10, c_10, rfl, x11, h44⟩
              refine ⟨_, rfl, x11, ?_⟩
              have sx11 := x11.size
              have h45 : Ow (Kd.int .i64) 3 w15.heap (okL [(w14.heap.size, some w15.heap.size, some 3)]) (okL []) A10 c_10 y8 := h44.close
              refine RW.pure tabOk 3 rfl ?_
              refine RW.done ?_
              have h46 := (h38.ext x10).ext x11
              have h47 := ((((((gF2_1.ext x5).ext x6).ext x7).ext x8).ext x9).ext x10).ext x11
              have h48 := ((((((gF4_1.ext x5).ext x6).ext x7).ext x8).ext x9).ext x10).ext x11
              have h49 := (((h32.ext x8).ext x9).ext x10).ext x11
              have h50 := ((h36.ext x9).ext x10).ext x11
              have h51 := Ext.trans (Ext.trans (Ext.trans (Ext.trans (Ext.trans (Ext.trans (Ext.trans x0_1 x5) x6) x7) x8) x9) x10) x11
              have h52 := (h37.ext x10).ext x11
              have h53 := (((h33.ext x8).ext x9).ext x10).ext x11
              exact NW.J fun a ha => ⟨0, y7, y8, A10, c_10, ha.sub ⟨rfl, rfl, rfl, rfl, rfl, rfl, rfl, rfl, rfl, rfl, rfl, rfl, trivial⟩, by omega, (h45.sub ⟨(.inl ⟨by omega, trivial, rfl⟩), trivial⟩ trivial), h46, h47, h48, h49, h50, h51, h52, h53, H⟩
            · rw [if_neg c4] at H
              refine CW.cond_f rfl (bool_f c4) ?_
              refine CW.skip ?_
              have h54 := ((h27.ext x6).ext x7).ext x8
              have h55 := (((gF2_1.ext x5).ext x6).ext x7).ext x8
              have h56 := (((gF4_1.ext x5).ext x6).ext x7).ext x8
              have h57 := h32.ext x8
              have h58 := Ext.trans (Ext.trans (Ext.trans (Ext.trans x0_1 x5) x6) x7) x8
              have h59 := ((h26.ext x6).ext x7).ext x8
              have h60 := h33.ext x8
              exact NW.J fun a ha => ⟨1, 0, ([] : List Int), none, 0, ha.sub ⟨rfl, rfl, rfl, rfl, rfl, rfl, rfl, rfl, rfl, rfl, rfl, rfl, trivial⟩, by omega, Ow.nil, h54, h55, h56, h57, h36, h58, h59, h60, H⟩
          intro a w12 hJ hp
          obtain ⟨it11_3, it12_3, lt13_3, At13_3, ct13_3, hS, hle, ft13_3, gF1_3, gF2_3, gF4_3, gF6_3, gF8_3, x0_3, gb1_3, g0_3, H⟩ := hJ
          unfold hermitagelaw1_SegTells.j2 at H
          refine CW.go hp hS ?_
          have h61 : Ow (Kd.int .i64) 3 w12.heap (okL [(w11.heap.size, some w12.heap.size, some 3)]) (okL []) At13_3 ct13_3 lt13_3 := ft13_3.close
          refine CW.seq ?_
          refine CW.seqJ (fun a w16 => ∃ (bt117_4 : Bool), Sat 277 [(1, .pointer (some ⟨b1, 0, none⟩)), (3, .slice A3 (([0, 1, 63, 64, 65, (-1)] : List Int) ++ p0.N).length c_3), (4, .int .i64 it4_0), (5, .slice A5 y3.length c_5), (6, .bool y4), (11, .int .i64 it11_3), (117, .bool bt117_4)] a ∧ w12.heap.size ≤ w16.heap.size ∧ Sl (Kd.sl kSeg) w16.heap (okL [(0, some w.heap.size, none)]) A1 p0.L ∧ Sl (Kd.int .i64) w16.heap (okL [(0, some w.heap.size, none)]) A2 p0.N ∧ Ow (Kd.int .i64) 3 w16.heap (okL [(w2.heap.size, some w4.heap.size, some 3)]) (okL []) A3 c_3 (([0, 1, 63, 64, 65, (-1)] : List Int) ++ p0.N) ∧ Ow kSeg 93 w16.heap (okL [(w6.heap.size, some w8.heap.size, some 93)]) (okL []) A5 c_5 y3 ∧ Ext w w16 ∧ Box w16.heap b1 25 [.slice A1 p0.L.length c_1, .slice A2 p0.N.length c_2] ∧ Box w16.heap 0 gT (arrI .u8 64 tz) ∧ hermitagelaw1_SegTells.j3 p0 k it4_0 y3 y4 it11_3 (hermitagelaw1_SegTells.l0 p0 k n1) bt117_4 = some r) ?_ ?_
          ·
            refine CW.lex [.W, .X, .X, .W, .W, .W, .W, .X, .W, .W, .W, .W, .W, .X, .W, .W, .W, .W, .W, .W, .W, .W, .W, .W, .W, .X, .W, .W, .W, .W, .W, .L, .W, .W, .L, .X, .W, .W] rfl ?_
            refine RW.pure tabOk 1 rfl ?_
            obtain ⟨y9, h62, H⟩ := bind_some H
            refine RW.callF (.inl rfl) ent24 ⟨rfl, rfl, rfl, rfl⟩ rfl rfl (seg_Check.calls k A5 c_5 y3 _ _ gF6_3.all gF6_3.len h62) ?_
            rintro _ w17 ⟨rfl, x12⟩
            refine ⟨_, rfl, x12, ?_⟩
            have sx12 := x12.size
            obtain ⟨y10, h63, H⟩ := bind_some H
            refine RW.callF (.inl rfl) ent14 ⟨rfl, rfl, rfl, rfl⟩ rfl rfl (hermitagelaw1_num.calls y9 _ _ h63) ?_
            rintro _ w18 ⟨rfl, x13⟩
            refine ⟨_, rfl, x13, ?_⟩
            have sx13 := x13.size
            refine RW.pure tabOk 3 rfl ?_
            by_cases c5 : y10 = it11_3
            · rw [if_pos c5] at H
              refine RW.bool 85 (b' := false) (bne_f c5) rfl ?_
              refine RW.pure tabOk 1 rfl ?_
              obtain ⟨y11, h64, H⟩ := bind_some H
              refine RW.callF (.inl rfl) ent14 ⟨rfl, rfl, rfl, rfl⟩ rfl rfl (hermitagelaw1_num.calls y5.2 _ _ h64) ?_
              rintro _ w19 ⟨rfl, x14⟩
              refine ⟨_, rfl, x14, ?_⟩
              have sx14 := x14.size
              refine RW.pure tabOk 4 rfl ?_
              by_cases c6 : y11 = it11_3
              · rw [if_pos c6] at H
                refine RW.bool 91 (b' := false) (bne_f c6) rfl ?_
                refine RW.pure tabOk 1 rfl ?_
                obtain ⟨y12, h65, H⟩ := bind_some H
                refine RW.callF (.inl rfl) ent14 ⟨rfl, rfl, rfl, rfl⟩ rfl rfl (hermitagelaw1_num.calls y6.2 _ _ h65) ?_
                rintro _ w20 ⟨rfl, x15⟩
                refine ⟨_, rfl, x15, ?_⟩
                have sx15 := x15.size
                refine RW.pure tabOk 4 rfl ?_
                by_cases c7 : y12 = it11_3
                · rw [if_pos c7] at H
                  refine RW.bool 97 (b' := false) (bne_f c7) rfl ?_
                  refine RW.pure tabOk 5 rfl ?_
                  by_cases c8 : y5.1 = it12_3
                  · rw [if_pos c8] at H
                    refine RW.bool 102 (b' := false) (bne_f c8) rfl ?_
                    refine RW.pure tabOk 2 rfl ?_
                    have h66 := (((gF8_3.ext x12).ext x13).ext x14).ext x15
                    have h67 := (((h61.ext x12).ext x13).ext x14).ext x15
                    obtain ⟨y13, h68, H⟩ := bind_some H
                    refine RW.callF (.inl rfl) ent29 ⟨rfl, rfl, rfl, rfl⟩ rfl rfl (hermitageref0_EqNumbers.calls k A7 c_7 y6.1 At13_3 ct13_3 lt13_3 _ _ h66.all h66.len h67.all h67.len h68) ?_
                    rintro _ w21 ⟨rfl, x16⟩
                    refine ⟨_, rfl, x16, ?_⟩
                    have sx16 := x16.size
                    refine RW.pure tabOk 3 rfl ?_
                    by_cases c9 : y13 = true
                    · rw [if_pos c9] at H
                      refine RW.bool 108 (b' := false) (not_f (c9)) rfl ?_
                      refine RW.pure tabOk 2 rfl ?_
                      have h69 := ((((gb1_3.ext x12).ext x13).ext x14).ext x15).ext x16
                      refine RW.load tabOk [.slice A1 p0.L.length c_1] ((h69.at 0).take 1 rfl) ⟨rfl, rfl, rfl, rfl⟩ rfl rfl rfl rfl ?_
                      refine RW.pure tabOk 1 rfl ?_
                      obtain ⟨g6, H⟩ := guard_some H
                      have h70 := ((((gF1_3.ext x12).ext x13).ext x14).ext x15).ext x16
                      obtain ⟨ad5, A11, c_11, e5, a5, l7, h71⟩ := sl_at h70 g6.1 g6.2
                      refine RW.index tabOk g6.1 g6.2 e5 ⟨rfl, rfl, rfl, rfl⟩ rfl rfl rfl rfl rfl rfl ?_
                      refine RW.load tabOk [.slice A11 (rd p0.L it4_0).length c_11] a5 ⟨rfl, rfl, rfl, rfl⟩ rfl rfl rfl rfl ?_
                      have h72 := ((((gF6_3.ext x12).ext x13).ext x14).ext x15).ext x16
                      obtain ⟨y14, h73, H⟩ := bind_some H
                      refine RW.callF (.inl rfl) ent15 ⟨rfl, rfl, rfl, rfl⟩ rfl rfl (hermitageref0_EqSegs.calls k A5 c_5 y3 A11 c_11 (rd p0.L it4_0) _ _ h72.all h72.len h71.all l7 h73) ?_
                      rintro _ w22 ⟨rfl, x17⟩
                      refine ⟨_, rfl, x17, ?_⟩
                      have sx17 := x17.size
                      refine RW.pure tabOk 2 rfl ?_
                      refine RW.done ?_
                      have h74 := h70.ext x17
                      have h75 := (((((gF2_3.ext x12).ext x13).ext x14).ext x15).ext x16).ext x17
                      have h76 := (((((gF4_3.ext x12).ext x13).ext x14).ext x15).ext x16).ext x17
                      have h77 := h72.ext x17
                      have h78 := Ext.trans (Ext.trans (Ext.trans (Ext.trans (Ext.trans (Ext.trans x0_3 x12) x13) x14) x15) x16) x17
                      have h79 := h69.ext x17
                      have h80 := (((((g0_3.ext x12).ext x13).ext x14).ext x15).ext x16).ext x17
                      exact NW.J fun a ha => ⟨(!y14), ha.sub ⟨rfl, rfl, rfl, rfl, rfl, rfl, rfl, trivial⟩, by omega, h74, h75, h76, h77, h78, h79, h80, H⟩
                    · rw [if_neg c9] at H
                      refine RW.bool 108 (b' := true) (not_t (bool_f c9)) rfl ?_
                      refine RW.pure tabOk 9 rfl ?_
                      refine RW.done ?_
                      have h81 := ((((gF1_3.ext x12).ext x13).ext x14).ext x15).ext x16
                      have h82 := ((((gF2_3.ext x12).ext x13).ext x14).ext x15).ext x16
                      have h83 := ((((gF4_3.ext x12).ext x13).ext x14).ext x15).ext x16
                      have h84 := ((((gF6_3.ext x12).ext x13).ext x14).ext x15).ext x16
                      have h85 := Ext.trans (Ext.trans (Ext.trans (Ext.trans (Ext.trans x0_3 x12) x13) x14) x15) x16
                      have h86 := ((((gb1_3.ext x12).ext x13).ext x14).ext x15).ext x16
                      have h87 := ((((g0_3.ext x12).ext x13).ext x14).ext x15).ext x16
                      exact NW.J fun a ha => ⟨true, ha.sub ⟨rfl, rfl, rfl, rfl, rfl, rfl, rfl, trivial⟩, by omega, h81, h82, h83, h84, h85, h86, h87, H⟩
                  · rw [if_neg c8] at H
                    refine RW.bool 102 (b' := true) (bne_t c8) rfl ?_
                    refine RW.pure tabOk 15 rfl ?_
                    refine RW.done ?_
                    have h88 := (((gF1_3.ext x12).ext x13).ext x14).ext x15
                    have h89 := (((gF2_3.ext x12).ext x13).ext x14).ext x15
                    have h90 := (((gF4_3.ext x12).ext x13).ext x14).ext x15
                    have h91 := (((gF6_3.ext x12).ext x13).ext x14).ext x15
                    have h92 := Ext.trans (Ext.trans (Ext.trans (Ext.trans x0_3 x12) x13) x14) x15
                    have h93 := (((gb1_3.ext x12).ext x13).ext x14).ext x15
                    have h94 := (((g0_3.ext x12).ext x13).ext x14).ext x15
                    exact NW.J fun a ha => ⟨true, ha.sub ⟨rfl, rfl, rfl, rfl, rfl, rfl, rfl, trivial⟩, by omega, h88, h89, h90, h91, h92, h93, h94, H⟩
                · rw [if_neg c7] at H
                  refine RW.bool 97 (b' := true) (bne_t c7) rfl ?_
                  refine RW.pure tabOk 20 rfl ?_
                  refine RW.done ?_
                  have h95 := (((gF1_3.ext x12).ext x13).ext x14).ext x15
                  have h96 := (((gF2_3.ext x12).ext x13).ext x14).ext x15
                  have h97 := (((gF4_3.ext x12).ext x13).ext x14).ext x15
                  have h98 := (((gF6_3.ext x12).ext x13).ext x14).ext x15
                  have h99 := Ext.trans (Ext.trans (Ext.trans (Ext.trans x0_3 x12) x13) x14) x15
                  have h100 := (((gb1_3.ext x12).ext x13).ext x14).ext x15
                  have h101 := (((g0_3.ext x12).ext x13).ext x14).ext x15
                  exact NW.J fun a ha => ⟨true, ha.sub ⟨rfl, rfl, rfl, rfl, rfl, rfl, rfl, trivial⟩, by omega, h95, h96, h97, h98, h99, h100, h101, H⟩
              · rw [if_neg c6] at H
                refine RW.bool 91 (b' := true) (bne_t c6) rfl ?_
                refine RW.pure tabOk 26 rfl ?_
                refine RW.done ?_
                have h102 := ((gF1_3.ext x12).ext x13).ext x14
                have h103 := ((gF2_3.ext x12).ext x13).ext x14
                have h104 := ((gF4_3.ext x12).ext x13).ext x14
                have h105 := ((gF6_3.ext x12).ext x13).ext x14
                have h106 := Ext.trans (Ext.trans (Ext.trans x0_3 x12) x13) x14
                have h107 := ((gb1_3.ext x12).ext x13).ext x14
                have h108 := ((g0_3.ext x12).ext x13).ext x14
                exact NW.J fun a ha => ⟨true, ha.sub ⟨rfl, rfl, rfl, rfl, rfl, rfl, rfl, trivial⟩, by omega, h102, h103, h104, h105, h106, h107, h108, H⟩
            · rw [if_neg c5] at H
              refine RW.bool 85 (b' := true) (bne_t c5) rfl ?_
              refine RW.pure tabOk 32 rfl ?_
              refine RW.done ?_
              have h109 := (gF1_3.ext x12).ext x13
              have h110 := (gF2_3.ext x12).ext x13
              have h111 := (gF4_3.ext x12).ext x13
              have h112 := (gF6_3.ext x12).ext x13
              have h113 := Ext.trans (Ext.trans x0_3 x12) x13
              have h114 := (gb1_3.ext x12).ext x13
              have h115 := (g0_3.ext x12).ext x13
              exact NW.J fun a ha => ⟨true, ha.sub ⟨rfl, rfl, rfl, rfl, rfl, rfl, rfl, trivial⟩, by omega, h109, h110, h111, h112, h113, h114, h115, H⟩
          intro a w16 hJ hp
          obtain ⟨bt117_4, hS, hle, gF1_4, gF2_4, gF4_4, gF6_4, x0_4, gb1_4, g0_4, H⟩ := hJ
          unfold hermitagelaw1_SegTells.j3 at H
          refine CW.go hp hS ?_
          by_cases c10 : bt117_4 = true
          · rw [if_pos c10] at H
            refine CW.cond_t rfl (c10) ?_
            refine CW.seq ?_
            refine CW.lex [.W] rfl ?_
            refine RW.pure tabOk 1 rfl ?_
            refine RW.done ?_
            refine NW.next ?_
            refine CW.ret ?_
            refine NW.ret_then (NW.ret_block (NW.ret_then (NW.ret_then (NW.ret_block (NW.ret_then ?_)))))
            obtain rfl := Option.some.inj H
            exact NW.ret1 rfl (by rfl) ⟨rfl, x0_4⟩
          · rw [if_neg c10] at H
            refine CW.cond_f rfl (bool_f c10) ?_
            refine CW.skip ?_
            refine NW.next ?_
            refine CW.seq ?_
            refine CW.lex [.W] rfl ?_
            refine RW.pure tabOk 1 rfl ?_
            refine RW.done ?_
            refine NW.next ?_
            refine CW.block ?_
            refine CW.loop (fun n2 a w23 => ∃ (it14_5 : Int), Sat 277 [(1, .pointer (some ⟨b1, 0, none⟩)), (3, .slice A3 (([0, 1, 63, 64, 65, (-1)] : List Int) ++ p0.N).length c_3), (4, .int .i64 it4_0), (5, .slice A5 y3.length c_5), (6, .bool y4), (11, .int .i64 it11_3), (14, .int .i64 it14_5)] a ∧ w16.heap.size ≤ w23.heap.size ∧ Sl (Kd.sl kSeg) w23.heap (okL [(0, some w.heap.size, none)]) A1 p0.L ∧ Sl (Kd.int .i64) w23.heap (okL [(0, some w.heap.size, none)]) A2 p0.N ∧ Ow (Kd.int .i64) 3 w23.heap (okL [(w2.heap.size, some w4.heap.size, some 3)]) (okL []) A3 c_3 (([0, 1, 63, 64, 65, (-1)] : List Int) ++ p0.N) ∧ Ow kSeg 93 w23.heap (okL [(w6.heap.size, some w8.heap.size, some 93)]) (okL []) A5 c_5 y3 ∧ Ext w w23 ∧ Box w23.heap b1 25 [.slice A1 p0.L.length c_1, .slice A2 p0.N.length c_2] ∧ Box w23.heap 0 gT (arrI .u8 64 tz) ∧ hermitagelaw1_SegTells.l1 p0 k it4_0 y3 y4 it11_3 (hermitagelaw1_SegTells.l0 p0 k n1) n2 it14_5 = some r) k ?_ ?_
            · exact fun a ha => ⟨0, ha.sub ⟨rfl, rfl, rfl, rfl, rfl, rfl, rfl, trivial⟩, by omega, gF1_4, gF2_4, gF4_4, gF6_4, x0_4, gb1_4, g0_4, H⟩
            intro n2 a w23 hI hp
            obtain ⟨it14_5, hS, hle, gF1_5, gF2_5, gF4_5, gF6_5, x0_5, gb1_5, g0_5, H⟩ := hI
            cases n2 with
            | zero => cases H
            | succ n2 =>
              rw [hermitagelaw1_SegTells.l1] at H
              refine CW.go hp hS ?_
              refine CW.seq ?_
              refine CW.seqJ (fun a w24 => ∃ (bt125_6 : Bool), Sat 277 [(1, .pointer (some ⟨b1, 0, none⟩)), (3, .slice A3 (([0, 1, 63, 64, 65, (-1)] : List Int) ++ p0.N).length c_3), (4, .int .i64 it4_0), (5, .slice A5 y3.length c_5), (6, .bool y4), (11, .int .i64 it11_3), (14, .int .i64 it14_5), (125, .bool bt125_6)] a ∧ w23.heap.size ≤ w24.heap.size ∧ Sl (Kd.sl kSeg) w24.heap (okL [(0, some w.heap.size, none)]) A1 p0.L ∧ Sl (Kd.int .i64) w24.heap (okL [(0, some w.heap.size, none)]) A2 p0.N ∧ Ow (Kd.int .i64) 3 w24.heap (okL [(w2.heap.size, some w4.heap.size, some 3)]) (okL []) A3 c_3 (([0, 1, 63, 64, 65, (-1)] : List Int) ++ p0.N) ∧ Ow kSeg 93 w24.heap (okL [(w6.heap.size, some w8.heap.size, some 93)]) (okL []) A5 c_5 y3 ∧ Ext w w24 ∧ Box w24.heap b1 25 [.slice A1 p0.L.length c_1, .slice A2 p0.N.length c_2] ∧ Box w24.heap 0 gT (arrI .u8 64 tz) ∧ hermitagelaw1_SegTells.j4 p0 k it4_0 y3 y4 it11_3 it14_5 (hermitagelaw1_SegTells.l0 p0 k n1) (hermitagelaw1_SegTells.l1 p0 k it4_0 y3 y4 it11_3 (hermitagelaw1_SegTells.l0 p0 k n1) n2) bt125_6 = some r) ?_ ?_
              ·
                refine CW.lex [.W, .W, .W, .W, .W, .W, .W, .W] rfl ?_
                refine RW.pure tabOk 5 rfl ?_
                by_cases c11 : it14_5 < ((([0, 1, 63, 64, 65, (-1)] : List Int) ++ p0.N).length : Int)
                · rw [if_pos c11] at H
                  refine RW.bool 122 (b' := true) (decide_eq_true c11) rfl ?_
                  refine RW.pure tabOk 3 rfl ?_
                  refine RW.done ?_
                  exact NW.J fun a ha => ⟨(decide (it14_5 < 11)), ha.sub ⟨rfl, rfl, rfl, rfl, rfl, rfl, rfl, rfl, trivial⟩, by omega, gF1_5, gF2_5, gF4_5, gF6_5, x0_5, gb1_5, g0_5, H⟩
                · rw [if_neg c11] at H
                  refine RW.bool 122 (b' := false) (decide_eq_false c11) rfl ?_
                  refine RW.pure tabOk 3 rfl ?_
                  refine RW.done ?_
                  exact NW.J fun a ha => ⟨false, ha.sub ⟨rfl, rfl, rfl, rfl, rfl, rfl, rfl, rfl, trivial⟩, by omega, gF1_5, gF2_5, gF4_5, gF6_5, x0_5, gb1_5, g0_5, H⟩
              intro a w24 hJ hp
              obtain ⟨bt125_6, hS, hle, gF1_6, gF2_6, gF4_6, gF6_6, x0_6, gb1_6, g0_6, H⟩ := hJ
              unfold hermitagelaw1_SegTells.j4 at H
              refine CW.go hp hS ?_
              by_cases c12 : bt125_6 = true
              · rw [if_pos c12] at H
                refine CW.cond_t rfl (c12) ?_
                refine CW.skip ?_
                refine NW.next ?_
                refine CW.seq ?_
                refine CW.block ?_
                refine CW.seq ?_
                refine CW.lex [.W, .W, .W, .W, .L, .X, .W, .W, .W, .W, .W] rfl ?_
                refine RW.pure tabOk 3 rfl ?_
                obtain ⟨g7, H⟩ := guard_some H
                obtain ⟨ad6, e6, a6⟩ := at_i64 gF4_6.slL g7.1 g7.2
                refine RW.index tabOk g7.1 g7.2 e6 ⟨rfl, rfl, rfl, rfl⟩ rfl rfl rfl rfl rfl rfl ?_
                refine RW.load tabOk [.int .i64 (rd (([0, 1, 63, 64, 65, (-1)] : List Int) ++ p0.N) it14_5)] a6 ⟨rfl, rfl, rfl, rfl⟩ rfl rfl rfl rfl ?_
                obtain ⟨y15, h116, H⟩ := bind_some H
                refine RW.callF (.inl rfl) ent30 ⟨rfl, rfl, rfl, rfl⟩ rfl rfl (seg_Has.calls k A5 c_5 y3 (rd (([0, 1, 63, 64, 65, (-1)] : List Int) ++ p0.N) it14_5) _ _ gF6_6.all gF6_6.len h116) ?_
                rintro _ w25 ⟨rfl, x18⟩
                refine ⟨_, rfl, x18, ?_⟩
                have sx18 := x18.size
                refine RW.pure tabOk 5 rfl ?_
                refine RW.done ?_
                refine NW.next ?_
                refine CW.seq ?_
                refine CW.lex [.W, .W, .W, .W, .L, .X, .W, .W, .W, .W, .W] rfl ?_
                refine RW.pure tabOk 3 rfl ?_
                obtain ⟨g8, H⟩ := guard_some H
                have h117 := gF4_6.ext x18
                obtain ⟨ad7, e7, a7⟩ := at_i64 h117.slL g8.1 g8.2
                refine RW.index tabOk g8.1 g8.2 e7 ⟨rfl, rfl, rfl, rfl⟩ rfl rfl rfl rfl rfl rfl ?_
                refine RW.load tabOk [.int .i64 (rd (([0, 1, 63, 64, 65, (-1)] : List Int) ++ p0.N) it14_5)] a7 ⟨rfl, rfl, rfl, rfl⟩ rfl rfl rfl rfl ?_
                have h118 := gF6_6.ext x18
                have h119 := g0_6.ext x18
                obtain ⟨y16, h120, H⟩ := bind_some H
                refine RW.callF (.inl rfl) ent22 ⟨rfl, rfl, rfl, rfl⟩ rfl rfl (seg_Not.calls k A5 c_5 y3 (rd (([0, 1, 63, 64, 65, (-1)] : List Int) ++ p0.N) it14_5) _ _ h118.all h118.len h119 h120) ?_
                rintro _ w26 ⟨A12, c_12, rfl, x19, h121⟩
                refine ⟨_, rfl, x19, ?_⟩
                have sx19 := x19.size
                have h122 : Ow kSeg 93 w26.heap (okL [(w25.heap.size, some w26.heap.size, some 93)]) (okL []) A12 c_12 y16.1 := h121.close
                refine RW.pure tabOk 5 rfl ?_
                refine RW.done ?_
                refine NW.next ?_
                refine CW.seq ?_
                refine CW.lex [.W] rfl ?_
                refine RW.pure tabOk 1 rfl ?_
                refine RW.done ?_
                refine NW.next ?_
                refine CW.seq ?_
                refine CW.lex [.W] rfl ?_
                refine RW.pure tabOk 1 rfl ?_
                refine RW.done ?_
                refine NW.next ?_
                refine CW.seqJ (fun a w27 => ∃ (it19_7 : Int) (lt20_7 : List Seg) (At20_7 : Option Addr) (ct20_7 : Nat), Sat 277 [(1, .pointer (some ⟨b1, 0, none⟩)), (3, .slice A3 (([0, 1, 63, 64, 65, (-1)] : List Int) ++ p0.N).length c_3), (4, .int .i64 it4_0), (5, .slice A5 y3.length c_5), (6, .bool y4), (11, .int .i64 it11_3), (14, .int .i64 it14_5), (15, .bool y15.1), (16, .int .i64 y15.2), (17, .slice A12 y16.1.length c_12), (18, .int .i64 y16.2), (19, .int .i64 it19_7), (20, .slice At20_7 lt20_7.length ct20_7)] a ∧ w26.heap.size ≤ w27.heap.size ∧ Ow kSeg 93 w27.heap (okL [(w26.heap.size, none, some 93)]) (okL []) At20_7 ct20_7 lt20_7 ∧ Sl (Kd.sl kSeg) w27.heap (okL [(0, some w.heap.size, none)]) A1 p0.L ∧ Sl (Kd.int .i64) w27.heap (okL [(0, some w.heap.size, none)]) A2 p0.N ∧ Ow (Kd.int .i64) 3 w27.heap (okL [(w2.heap.size, some w4.heap.size, some 3)]) (okL []) A3 c_3 (([0, 1, 63, 64, 65, (-1)] : List Int) ++ p0.N) ∧ Ow kSeg 93 w27.heap (okL [(w6.heap.size, some w8.heap.size, some 93)]) (okL []) A5 c_5 y3 ∧ Ow kSeg 93 w27.heap (okL [(w25.heap.size, some w26.heap.size, some 93)]) (okL []) A12 c_12 y16.1 ∧ Ext w w27 ∧ Box w27.heap b1 25 [.slice A1 p0.L.length c_1, .slice A2 p0.N.length c_2] ∧ Box w27.heap 0 gT (arrI .u8 64 tz) ∧ hermitagelaw1_SegTells.j5 p0 k it4_0 y3 y4 it11_3 it14_5 y15 y16 (hermitagelaw1_SegTells.l1 p0 k it4_0 y3 y4 it11_3 (hermitagelaw1_SegTells.l0 p0 k n1) n2) it19_7 lt20_7 = some r) ?_ ?_
                ·
                  refine CW.seqJ (fun a w28 => ∃ (bt166_8 : Bool), Sat 277 [(1, .pointer (some ⟨b1, 0, none⟩)), (3, .slice A3 (([0, 1, 63, 64, 65, (-1)] : List Int) ++ p0.N).length c_3), (4, .int .i64 it4_0), (5, .slice A5 y3.length c_5), (6, .bool y4), (11, .int .i64 it11_3), (14, .int .i64 it14_5), (15, .bool y15.1), (16, .int .i64 y15.2), (17, .slice A12 y16.1.length c_12), (18, .int .i64 y16.2), (19, .int .i64 1), (20, .slice none 0 0), (166, .bool bt166_8)] a ∧ w26.heap.size ≤ w28.heap.size ∧ Sl (Kd.sl kSeg) w28.heap (okL [(0, some w.heap.size, none)]) A1 p0.L ∧ Sl (Kd.int .i64) w28.heap (okL [(0, some w.heap.size, none)]) A2 p0.N ∧ Ow (Kd.int .i64) 3 w28.heap (okL [(w2.heap.size, some w4.heap.size, some 3)]) (okL []) A3 c_3 (([0, 1, 63, 64, 65, (-1)] : List Int) ++ p0.N) ∧ Ow kSeg 93 w28.heap (okL [(w6.heap.size, some w8.heap.size, some 93)]) (okL []) A5 c_5 y3 ∧ Ow kSeg 93 w28.heap (okL [(w25.heap.size, some w26.heap.size, some 93)]) (okL []) A12 c_12 y16.1 ∧ Ext w w28 ∧ Box w28.heap b1 25 [.slice A1 p0.L.length c_1, .slice A2 p0.N.length c_2] ∧ Box w28.heap 0 gT (arrI .u8 64 tz) ∧ hermitagelaw1_SegTells.j6 p0 k it4_0 y3 y4 it11_3 it14_5 y15 y16 (hermitagelaw1_SegTells.l1 p0 k it4_0 y3 y4 it11_3 (hermitagelaw1_SegTells.l0 p0 k n1) n2) bt166_8 = some r) ?_ ?_
                  ·
                    refine CW.ord [0, 1, 3, 3, 15, 31, 63, 127, 255, 511, 1023, 511, 4095, 8191, 16383, 511, 511, 98815, 229887, 524287, 1048575] [(0, .W), (1, .W), (2, .W), (3, .W), (4, .W), (5, .L), (6, .X), (7, .W), (8, .W), (9, .W), (11, .W), (15, .W), (16, .W), (17, .W), (10, .L), (12, .W), (13, .L), (18, .L), (14, .X), (19, .W), (20, .W)] mixed (by kernel_rfl) ?_
                    intro w29 x20
                    have sx20 := x20.size
                    refine RW.pure tabOk 2 rfl ?_
                    by_cases c13 : y4 = true
                    · rw [if_pos c13] at H
                      refine RW.bool 147 (b' := true) (c13) rfl ?_
                      refine RW.pure tabOk 2 rfl ?_
                      obtain ⟨g9, H⟩ := guard_some H
                      have h123 := (h117.ext x19).ext x20
                      obtain ⟨ad8, e8, a8⟩ := at_i64 h123.slL g9.1 g9.2
                      refine RW.index tabOk g9.1 g9.2 e8 ⟨rfl, rfl, rfl, rfl⟩ rfl rfl rfl rfl rfl rfl ?_
                      refine RW.load tabOk [.int .i64 (rd (([0, 1, 63, 64, 65, (-1)] : List Int) ++ p0.N) it14_5)] a8 ⟨rfl, rfl, rfl, rfl⟩ rfl rfl rfl rfl ?_
                      obtain ⟨y17, h124, H⟩ := bind_some H
                      refine RW.callF (.inl rfl) ent31 ⟨rfl, rfl, rfl, rfl⟩ rfl rfl (hermitageref0_Num.calls (rd (([0, 1, 63, 64, 65, (-1)] : List Int) ++ p0.N) it14_5) 64 _ _ h124) ?_
                      rintro _ w30 ⟨rfl, x21⟩
                      refine ⟨_, rfl, x21, ?_⟩
                      have sx21 := x21.size
                      refine RW.pure tabOk 2 rfl ?_
                      by_cases c14 : y17 = true
                      · rw [if_pos c14] at H
                        refine RW.bool 154 (b' := true) (c14) rfl ?_
                        refine RW.pure tabOk 4 rfl ?_
                        obtain ⟨g10, H⟩ := guard_some H
                        have h125 := h123.ext x21
                        obtain ⟨ad9, e9, a9⟩ := at_i64 h125.slL g10.1 g10.2
                        refine RW.index tabOk g10.1 g10.2 e9 ⟨rfl, rfl, rfl, rfl⟩ rfl rfl rfl rfl rfl rfl ?_
                        have h126 := (((gb1_6.ext x18).ext x19).ext x20).ext x21
                        refine RW.load tabOk [.slice A1 p0.L.length c_1] ((h126.at 0).take 1 rfl) ⟨rfl, rfl, rfl, rfl⟩ rfl rfl rfl rfl ?_
                        obtain ⟨g11, H⟩ := guard_some H
                        have h127 := (((gF1_6.ext x18).ext x19).ext x20).ext x21
                        obtain ⟨ad10, A13, c_13, e10, a10, l8, h128⟩ := sl_at h127 g11.1 g11.2
                        refine RW.index tabOk g11.1 g11.2 e10 ⟨rfl, rfl, rfl, rfl⟩ rfl rfl rfl rfl rfl rfl ?_
                        refine RW.load tabOk [.slice A13 (rd p0.L it4_0).length c_13] a10 ⟨rfl, rfl, rfl, rfl⟩ rfl rfl rfl rfl ?_
                        refine RW.load tabOk [.int .i64 (rd (([0, 1, 63, 64, 65, (-1)] : List Int) ++ p0.N) it14_5)] a9 ⟨rfl, rfl, rfl, rfl⟩ rfl rfl rfl rfl ?_
                        obtain ⟨y18, h129, H⟩ := bind_some H
                        refine RW.callF (.inl rfl) ent32 ⟨rfl, rfl, rfl, rfl⟩ rfl rfl (hermitageref1_Ends.calls A13 c_13 (rd p0.L it4_0) _ _ h128.all l8 h129) ?_
                        rintro _ w31 ⟨rfl, x22⟩
                        refine ⟨_, rfl, x22, ?_⟩
                        have sx22 := x22.size
                        refine RW.pure tabOk 2 rfl ?_
                        refine RW.done ?_
                        have h130 := h127.ext x22
                        have h131 := ((((gF2_6.ext x18).ext x19).ext x20).ext x21).ext x22
                        have h132 := h125.ext x22
                        have h133 := (((h118.ext x19).ext x20).ext x21).ext x22
                        have h134 := ((h122.ext x20).ext x21).ext x22
                        have h135 := Ext.trans (Ext.trans (Ext.trans (Ext.trans (Ext.trans x0_6 x18) x19) x20) x21) x22
                        have h136 := h126.ext x22
                        have h137 := (((h119.ext x19).ext x20).ext x21).ext x22
                        exact NW.J fun a ha => ⟨(decide (y18 ≤ (rd (([0, 1, 63, 64, 65, (-1)] : List Int) ++ p0.N) it14_5))), ha.sub ⟨rfl, rfl, rfl, rfl, rfl, rfl, rfl, rfl, rfl, rfl, rfl, rfl, rfl, rfl, trivial⟩, by omega, h130, h131, h132, h133, h134, h135, h136, h137, H⟩
                      · rw [if_neg c14] at H
                        refine RW.bool 154 (b' := false) (bool_f c14) rfl ?_
                        refine RW.pure tabOk 12 rfl ?_
                        refine RW.done ?_
                        have h138 := (((gF1_6.ext x18).ext x19).ext x20).ext x21
                        have h139 := (((gF2_6.ext x18).ext x19).ext x20).ext x21
                        have h140 := h123.ext x21
                        have h141 := ((h118.ext x19).ext x20).ext x21
                        have h142 := (h122.ext x20).ext x21
                        have h143 := Ext.trans (Ext.trans (Ext.trans (Ext.trans x0_6 x18) x19) x20) x21
                        have h144 := (((gb1_6.ext x18).ext x19).ext x20).ext x21
                        have h145 := ((h119.ext x19).ext x20).ext x21
                        exact NW.J fun a ha => ⟨false, ha.sub ⟨rfl, rfl, rfl, rfl, rfl, rfl, rfl, rfl, rfl, rfl, rfl, rfl, rfl, rfl, trivial⟩, by omega, h138, h139, h140, h141, h142, h143, h144, h145, H⟩
                    · rw [if_neg c13] at H
                      refine RW.bool 147 (b' := false) (bool_f c13) rfl ?_
                      refine RW.pure tabOk 19 rfl ?_
                      refine RW.done ?_
                      have h146 := ((gF1_6.ext x18).ext x19).ext x20
                      have h147 := ((gF2_6.ext x18).ext x19).ext x20
                      have h148 := (h117.ext x19).ext x20
                      have h149 := (h118.ext x19).ext x20
                      have h150 := h122.ext x20
                      have h151 := Ext.trans (Ext.trans (Ext.trans x0_6 x18) x19) x20
                      have h152 := ((gb1_6.ext x18).ext x19).ext x20
                      have h153 := (h119.ext x19).ext x20
                      exact NW.J fun a ha => ⟨false, ha.sub ⟨rfl, rfl, rfl, rfl, rfl, rfl, rfl, rfl, rfl, rfl, rfl, rfl, rfl, rfl, trivial⟩, by omega, h146, h147, h148, h149, h150, h151, h152, h153, H⟩
                  intro a w28 hJ hp
                  obtain ⟨bt166_8, hS, hle, gF1_8, gF2_8, gF4_8, gF6_8, gF13_8, x0_8, gb1_8, g0_8, H⟩ := hJ
                  unfold hermitagelaw1_SegTells.j6 at H
                  refine CW.go hp hS ?_
                  by_cases c15 : bt166_8 = true
                  · rw [if_pos c15] at H
                    refine CW.cond_t rfl (c15) ?_
                    refine CW.ord [0, 1, 0, 7, 15, 0, 0, 96, 224, 511, 1023, 2047] [(0, .W), (2, .W), (5, .W), (6, .W), (7, .W), (1, .L), (3, .W), (4, .L), (8, .L), (9, .X), (10, .W), (11, .W)] mixed (by kernel_rfl) ?_
                    intro w32 x23
                    have sx23 := x23.size
                    refine RW.pure tabOk 4 rfl ?_
                    obtain ⟨g12, H⟩ := guard_some H
                    have h154 := gF4_8.ext x23
                    obtain ⟨ad11, e11, a11⟩ := at_i64 h154.slL g12.1 g12.2
                    refine RW.index tabOk g12.1 g12.2 e11 ⟨rfl, rfl, rfl, rfl⟩ rfl rfl rfl rfl rfl rfl ?_
                    have h155 := gb1_8.ext x23
                    refine RW.load tabOk [.slice A1 p0.L.length c_1] ((h155.at 0).take 1 rfl) ⟨rfl, rfl, rfl, rfl⟩ rfl rfl rfl rfl ?_
                    obtain ⟨g13, H⟩ := guard_some H
                    have h156 := gF1_8.ext x23
                    obtain ⟨ad12, A14, c_14, e12, a12, l9, h157⟩ := sl_at h156 g13.1 g13.2
                    refine RW.index tabOk g13.1 g13.2 e12 ⟨rfl, rfl, rfl, rfl⟩ rfl rfl rfl rfl rfl rfl ?_
                    refine RW.load tabOk [.slice A14 (rd p0.L it4_0).length c_14] a12 ⟨rfl, rfl, rfl, rfl⟩ rfl rfl rfl rfl ?_
                    refine RW.load tabOk [.int .i64 (rd (([0, 1, 63, 64, 65, (-1)] : List Int) ++ p0.N) it14_5)] a11 ⟨rfl, rfl, rfl, rfl⟩ rfl rfl rfl rfl ?_
                    obtain ⟨y19, h158, H⟩ := bind_some H
                    refine RW.callF (.inl rfl) ent33 ⟨rfl, rfl, rfl, rfl⟩ rfl rfl (hermitageref1_Not.calls k A14 c_14 (rd p0.L it4_0) (rd (([0, 1, 63, 64, 65, (-1)] : List Int) ++ p0.N) it14_5) _ _ h157.all l9 h158) ?_
                    rintro _ w33 ⟨A15, c_15, rfl, x24, h159⟩
                    refine ⟨_, rfl, x24, ?_⟩
                    have sx24 := x24.size
                    have h160 : Ow kSeg 93 w33.heap (okL [(w32.heap.size, some w33.heap.size, some 93)]) (okL []) A15 c_15 y19 := h159.close
                    refine RW.pure tabOk 2 rfl ?_
                    refine RW.done ?_
                    have h161 := h156.ext x24
                    have h162 := (gF2_8.ext x23).ext x24
                    have h163 := h154.ext x24
                    have h164 := (gF6_8.ext x23).ext x24
                    have h165 := (gF13_8.ext x23).ext x24
                    have h166 := Ext.trans (Ext.trans x0_8 x23) x24
                    have h167 := h155.ext x24
                    have h168 := (g0_8.ext x23).ext x24
                    exact NW.J fun a ha => ⟨0, y19, A15, c_15, ha.sub ⟨rfl, rfl, rfl, rfl, rfl, rfl, rfl, rfl, rfl, rfl, rfl, rfl, rfl, trivial⟩, by omega, (h160.sub ⟨(.inl ⟨by omega, trivial, rfl⟩), trivial⟩ trivial), h161, h162, h163, h164, h165, h166, h167, h168, H⟩
                  · rw [if_neg c15] at H
                    refine CW.cond_f rfl (bool_f c15) ?_
                    refine CW.skip ?_
                    exact NW.J fun a ha => ⟨1, ([] : List Seg), none, 0, ha.sub ⟨rfl, rfl, rfl, rfl, rfl, rfl, rfl, rfl, rfl, rfl, rfl, rfl, rfl, trivial⟩, by omega, Ow.nil, gF1_8, gF2_8, gF4_8, gF6_8, gF13_8, x0_8, gb1_8, g0_8, H⟩
                intro a w27 hJ hp
                obtain ⟨it19_7, lt20_7, At20_7, ct20_7, hS, hle, ft20_7, gF1_7, gF2_7, gF4_7, gF6_7, gF13_7, x0_7, gb1_7, g0_7, H⟩ := hJ
                unfold hermitagelaw1_SegTells.j5 at H
                refine CW.go hp hS ?_
                have h169 : Ow kSeg 93 w27.heap (okL [(w26.heap.size, some w27.heap.size, some 93)]) (okL []) At20_7 ct20_7 lt20_7 := ft20_7.close
                refine CW.seq ?_
                refine CW.seqJ (fun a w34 => ∃ (bt219_9 : Bool), Sat 277 [(1, .pointer (some ⟨b1, 0, none⟩)), (3, .slice A3 (([0, 1, 63, 64, 65, (-1)] : List Int) ++ p0.N).length c_3), (4, .int .i64 it4_0), (5, .slice A5 y3.length c_5), (6, .bool y4), (11, .int .i64 it11_3), (14, .int .i64 it14_5), (17, .slice A12 y16.1.length c_12), (219, .bool bt219_9)] a ∧ w27.heap.size ≤ w34.heap.size ∧ Sl (Kd.sl kSeg) w34.heap (okL [(0, some w.heap.size, none)]) A1 p0.L ∧ Sl (Kd.int .i64) w34.heap (okL [(0, some w.heap.size, none)]) A2 p0.N ∧ Ow (Kd.int .i64) 3 w34.heap (okL [(w2.heap.size, some w4.heap.size, some 3)]) (okL []) A3 c_3 (([0, 1, 63, 64, 65, (-1)] : List Int) ++ p0.N) ∧ Ow kSeg 93 w34.heap (okL [(w6.heap.size, some w8.heap.size, some 93)]) (okL []) A5 c_5 y3 ∧ Ow kSeg 93 w34.heap (okL [(w25.heap.size, some w26.heap.size, some 93)]) (okL []) A12 c_12 y16.1 ∧ Ext w w34 ∧ Box w34.heap b1 25 [.slice A1 p0.L.length c_1, .slice A2 p0.N.length c_2] ∧ Box w34.heap 0 gT (arrI .u8 64 tz) ∧ hermitagelaw1_SegTells.j7 p0 k it4_0 y3 it14_5 y16 (hermitagelaw1_SegTells.l1 p0 k it4_0 y3 y4 it11_3 (hermitagelaw1_SegTells.l0 p0 k n1) n2) bt219_9 = some r) ?_ ?_
                ·
                  refine CW.ord [0, 1, 0, 7, 15, 31, 31, 95, 223, 479, 223, 2015, 4063, 223, 223, 24799, 57567, 131039, 262111, 524287, 1048575, 2097151, 4194303, 8388607, 4194303, 33554431, 67108863, 134217727, 268435455, 268435455, 1073741823, 2147483647, 4294967295, 8589934591, 17179869183, 17179869183, 51539607551, 17179869183, 257698037759, 532575944703, 1099511627775, 2199023255551, 4398046511103] [(0, .W), (2, .W), (1, .X), (3, .W), (4, .W), (5, .W), (6, .W), (7, .W), (8, .W), (10, .W), (13, .W), (14, .W), (15, .W), (9, .L), (11, .W), (12, .L), (16, .L), (17, .X), (18, .W), (19, .W), (20, .W), (21, .W), (22, .W), (24, .W), (23, .X), (25, .W), (26, .W), (27, .W), (28, .W), (29, .W), (30, .X), (31, .W), (32, .W), (33, .W), (34, .W), (35, .W), (37, .W), (36, .L), (38, .W), (39, .L), (40, .X), (41, .W), (42, .W)] mixed (by kernel_rfl) ?_
                  intro w35 x25
                  have sx25 := x25.size
                  refine RW.pure tabOk 2 rfl ?_
                  obtain ⟨y20, h170, H⟩ := bind_some H
                  refine RW.callF (.inl rfl) ent14 ⟨rfl, rfl, rfl, rfl⟩ rfl rfl (hermitagelaw1_num.calls y15.2 _ _ h170) ?_
                  rintro _ w36 ⟨rfl, x26⟩
                  refine ⟨_, rfl, x26, ?_⟩
                  have sx26 := x26.size
                  refine RW.pure tabOk 2 rfl ?_
                  by_cases c16 : y20 = it11_3
                  · rw [if_pos c16] at H
                    refine RW.bool 181 (b' := false) (bne_f c16) rfl ?_
                    refine RW.pure tabOk 3 rfl ?_
                    by_cases c17 : y4 = true
                    · rw [if_pos c17] at H
                      refine RW.bool 184 (b' := true) (c17) rfl ?_
                      refine RW.pure tabOk 4 rfl ?_
                      obtain ⟨g14, H⟩ := guard_some H
                      have h171 := (gF4_7.ext x25).ext x26
                      obtain ⟨ad13, e13, a13⟩ := at_i64 h171.slL g14.1 g14.2
                      refine RW.index tabOk g14.1 g14.2 e13 ⟨rfl, rfl, rfl, rfl⟩ rfl rfl rfl rfl rfl rfl ?_
                      have h172 := (gb1_7.ext x25).ext x26
                      refine RW.load tabOk [.slice A1 p0.L.length c_1] ((h172.at 0).take 1 rfl) ⟨rfl, rfl, rfl, rfl⟩ rfl rfl rfl rfl ?_
                      obtain ⟨g15, H⟩ := guard_some H
                      have h173 := (gF1_7.ext x25).ext x26
                      obtain ⟨ad14, A16, c_16, e14, a14, l10, h174⟩ := sl_at h173 g15.1 g15.2
                      refine RW.index tabOk g15.1 g15.2 e14 ⟨rfl, rfl, rfl, rfl⟩ rfl rfl rfl rfl rfl rfl ?_
                      refine RW.load tabOk [.slice A16 (rd p0.L it4_0).length c_16] a14 ⟨rfl, rfl, rfl, rfl⟩ rfl rfl rfl rfl ?_
                      refine RW.load tabOk [.int .i64 (rd (([0, 1, 63, 64, 65, (-1)] : List Int) ++ p0.N) it14_5)] a13 ⟨rfl, rfl, rfl, rfl⟩ rfl rfl rfl rfl ?_
                      obtain ⟨y21, h175, H⟩ := bind_some H
                      refine RW.callF (.inl rfl) ent34 ⟨rfl, rfl, rfl, rfl⟩ rfl rfl (hermitageref1_Has.calls k A16 c_16 (rd p0.L it4_0) (rd (([0, 1, 63, 64, 65, (-1)] : List Int) ++ p0.N) it14_5) _ _ h174.all l10 h175) ?_
                      rintro _ w37 ⟨rfl, x27⟩
                      refine ⟨_, rfl, x27, ?_⟩
                      have sx27 := x27.size
                      refine RW.pure tabOk 4 rfl ?_
                      by_cases c18 : (y15.1 == y21) = true
                      · rw [if_pos c18] at H
                        refine RW.bool 198 (b' := false) (not_f (c18)) rfl ?_
                        refine RW.pure tabOk 2 rfl ?_
                        obtain ⟨y22, h176, H⟩ := bind_some H
                        refine RW.callF (.inl rfl) ent14 ⟨rfl, rfl, rfl, rfl⟩ rfl rfl (hermitagelaw1_num.calls y16.2 _ _ h176) ?_
                        rintro _ w38 ⟨rfl, x28⟩
                        refine ⟨_, rfl, x28, ?_⟩
                        have sx28 := x28.size
                        refine RW.pure tabOk 3 rfl ?_
                        by_cases c19 : y22 = it19_7
                        · rw [if_pos c19] at H
                          refine RW.bool 204 (b' := false) (bne_f c19) rfl ?_
                          refine RW.pure tabOk 2 rfl ?_
                          have h177 := (((gF13_7.ext x25).ext x26).ext x27).ext x28
                          have h178 := (((h169.ext x25).ext x26).ext x27).ext x28
                          obtain ⟨y23, h179, H⟩ := bind_some H
                          refine RW.callF (.inl rfl) ent15 ⟨rfl, rfl, rfl, rfl⟩ rfl rfl (hermitageref0_EqSegs.calls k A12 c_12 y16.1 At20_7 ct20_7 lt20_7 _ _ h177.all h177.len h178.all h178.len h179) ?_
                          rintro _ w39 ⟨rfl, x29⟩
                          refine ⟨_, rfl, x29, ?_⟩
                          have sx29 := x29.size
                          refine RW.pure tabOk 3 rfl ?_
                          by_cases c20 : y23 = true
                          · rw [if_pos c20] at H
                            refine RW.bool 210 (b' := false) (not_f (c20)) rfl ?_
                            refine RW.pure tabOk 3 rfl ?_
                            have h180 := ((h172.ext x27).ext x28).ext x29
                            refine RW.load tabOk [.slice A1 p0.L.length c_1] ((h180.at 0).take 1 rfl) ⟨rfl, rfl, rfl, rfl⟩ rfl rfl rfl rfl ?_
                            obtain ⟨g16, H⟩ := guard_some H
                            have h181 := ((h173.ext x27).ext x28).ext x29
                            obtain ⟨ad15, A17, c_17, e15, a15, l11, h182⟩ := sl_at h181 g16.1 g16.2
                            refine RW.index tabOk g16.1 g16.2 e15 ⟨rfl, rfl, rfl, rfl⟩ rfl rfl rfl rfl rfl rfl ?_
                            refine RW.load tabOk [.slice A17 (rd p0.L it4_0).length c_17] a15 ⟨rfl, rfl, rfl, rfl⟩ rfl rfl rfl rfl ?_
                            have h183 := ((((gF6_7.ext x25).ext x26).ext x27).ext x28).ext x29
                            obtain ⟨y24, h184, H⟩ := bind_some H
                            refine RW.callF (.inl rfl) ent15 ⟨rfl, rfl, rfl, rfl⟩ rfl rfl (hermitageref0_EqSegs.calls k A5 c_5 y3 A17 c_17 (rd p0.L it4_0) _ _ h183.all h183.len h182.all l11 h184) ?_
                            rintro _ w40 ⟨rfl, x30⟩
                            refine ⟨_, rfl, x30, ?_⟩
                            have sx30 := x30.size
                            refine RW.pure tabOk 2 rfl ?_
                            refine RW.done ?_
                            have h185 := h181.ext x30
                            have h186 := (((((gF2_7.ext x25).ext x26).ext x27).ext x28).ext x29).ext x30
                            have h187 := (((h171.ext x27).ext x28).ext x29).ext x30
                            have h188 := h183.ext x30
                            have h189 := (h177.ext x29).ext x30
                            have h190 := Ext.trans (Ext.trans (Ext.trans (Ext.trans (Ext.trans (Ext.trans x0_7 x25) x26) x27) x28) x29) x30
                            have h191 := h180.ext x30
                            have h192 := (((((g0_7.ext x25).ext x26).ext x27).ext x28).ext x29).ext x30
                            exact NW.J fun a ha => ⟨(!y24), ha.sub ⟨rfl, rfl, rfl, rfl, rfl, rfl, rfl, rfl, rfl, trivial⟩, by omega, h185, h186, h187, h188, h189, h190, h191, h192, H⟩
                          · rw [if_neg c20] at H
                            refine RW.bool 210 (b' := true) (not_t (bool_f c20)) rfl ?_
                            refine RW.pure tabOk 9 rfl ?_
                            refine RW.done ?_
                            have h193 := ((h173.ext x27).ext x28).ext x29
                            have h194 := ((((gF2_7.ext x25).ext x26).ext x27).ext x28).ext x29
                            have h195 := ((h171.ext x27).ext x28).ext x29
                            have h196 := ((((gF6_7.ext x25).ext x26).ext x27).ext x28).ext x29
                            have h197 := h177.ext x29
                            have h198 := Ext.trans (Ext.trans (Ext.trans (Ext.trans (Ext.trans x0_7 x25) x26) x27) x28) x29
                            have h199 := ((h172.ext x27).ext x28).ext x29
                            have h200 := ((((g0_7.ext x25).ext x26).ext x27).ext x28).ext x29
                            exact NW.J fun a ha => ⟨true, ha.sub ⟨rfl, rfl, rfl, rfl, rfl, rfl, rfl, rfl, rfl, trivial⟩, by omega, h193, h194, h195, h196, h197, h198, h199, h200, H⟩
                        · rw [if_neg c19] at H
                          refine RW.bool 204 (b' := true) (bne_t c19) rfl ?_
                          refine RW.pure tabOk 15 rfl ?_
                          refine RW.done ?_
                          have h201 := (h173.ext x27).ext x28
                          have h202 := (((gF2_7.ext x25).ext x26).ext x27).ext x28
                          have h203 := (h171.ext x27).ext x28
                          have h204 := (((gF6_7.ext x25).ext x26).ext x27).ext x28
                          have h205 := (((gF13_7.ext x25).ext x26).ext x27).ext x28
                          have h206 := Ext.trans (Ext.trans (Ext.trans (Ext.trans x0_7 x25) x26) x27) x28
                          have h207 := (h172.ext x27).ext x28
                          have h208 := (((g0_7.ext x25).ext x26).ext x27).ext x28
                          exact NW.J fun a ha => ⟨true, ha.sub ⟨rfl, rfl, rfl, rfl, rfl, rfl, rfl, rfl, rfl, trivial⟩, by omega, h201, h202, h203, h204, h205, h206, h207, h208, H⟩
                      · rw [if_neg c18] at H
                        refine RW.bool 198 (b' := true) (not_t (bool_f c18)) rfl ?_
                        refine RW.pure tabOk 21 rfl ?_
                        refine RW.done ?_
                        have h209 := h173.ext x27
                        have h210 := ((gF2_7.ext x25).ext x26).ext x27
                        have h211 := h171.ext x27
                        have h212 := ((gF6_7.ext x25).ext x26).ext x27
                        have h213 := ((gF13_7.ext x25).ext x26).ext x27
                        have h214 := Ext.trans (Ext.trans (Ext.trans x0_7 x25) x26) x27
                        have h215 := h172.ext x27
                        have h216 := ((g0_7.ext x25).ext x26).ext x27
                        exact NW.J fun a ha => ⟨true, ha.sub ⟨rfl, rfl, rfl, rfl, rfl, rfl, rfl, rfl, rfl, trivial⟩, by omega, h209, h210, h211, h212, h213, h214, h215, h216, H⟩
                    · rw [if_neg c17] at H
                      refine RW.bool 184 (b' := false) (bool_f c17) rfl ?_
                      refine RW.pure tabOk 14 rfl ?_
                      by_cases c21 : (y15.1 == false) = true
                      · rw [if_pos c21] at H
                        refine RW.bool 198 (b' := false) (not_f (c21)) rfl ?_
                        refine RW.pure tabOk 2 rfl ?_
                        obtain ⟨y25, h217, H⟩ := bind_some H
                        refine RW.callF (.inl rfl) ent14 ⟨rfl, rfl, rfl, rfl⟩ rfl rfl (hermitagelaw1_num.calls y16.2 _ _ h217) ?_
                        rintro _ w41 ⟨rfl, x31⟩
                        refine ⟨_, rfl, x31, ?_⟩
                        have sx31 := x31.size
                        refine RW.pure tabOk 3 rfl ?_
                        by_cases c22 : y25 = it19_7
                        · rw [if_pos c22] at H
                          refine RW.bool 204 (b' := false) (bne_f c22) rfl ?_
                          refine RW.pure tabOk 2 rfl ?_
                          have h218 := ((gF13_7.ext x25).ext x26).ext x31
                          have h219 := ((h169.ext x25).ext x26).ext x31
                          obtain ⟨y26, h220, H⟩ := bind_some H
                          refine RW.callF (.inl rfl) ent15 ⟨rfl, rfl, rfl, rfl⟩ rfl rfl (hermitageref0_EqSegs.calls k A12 c_12 y16.1 At20_7 ct20_7 lt20_7 _ _ h218.all h218.len h219.all h219.len h220) ?_
                          rintro _ w42 ⟨rfl, x32⟩
                          refine ⟨_, rfl, x32, ?_⟩
                          have sx32 := x32.size
                          refine RW.pure tabOk 3 rfl ?_
                          by_cases c23 : y26 = true
                          · rw [if_pos c23] at H
                            refine RW.bool 210 (b' := false) (not_f (c23)) rfl ?_
                            refine RW.pure tabOk 3 rfl ?_
                            have h221 := (((gb1_7.ext x25).ext x26).ext x31).ext x32
                            refine RW.load tabOk [.slice A1 p0.L.length c_1] ((h221.at 0).take 1 rfl) ⟨rfl, rfl, rfl, rfl⟩ rfl rfl rfl rfl ?_
                            obtain ⟨g17, H⟩ := guard_some H
                            have h222 := (((gF1_7.ext x25).ext x26).ext x31).ext x32
                            obtain ⟨ad16, A18, c_18, e16, a16, l12, h223⟩ := sl_at h222 g17.1 g17.2
                            refine RW.index tabOk g17.1 g17.2 e16 ⟨rfl, rfl, rfl, rfl⟩ rfl rfl rfl rfl rfl rfl ?_
                            refine RW.load tabOk [.slice A18 (rd p0.L it4_0).length c_18] a16 ⟨rfl, rfl, rfl, rfl⟩ rfl rfl rfl rfl ?_
                            have h224 := (((gF6_7.ext x25).ext x26).ext x31).ext x32
                            obtain ⟨y27, h225, H⟩ := bind_some H
                            refine RW.callF (.inl rfl) ent15 ⟨rfl, rfl, rfl, rfl⟩ rfl rfl (hermitageref0_EqSegs.calls k A5 c_5 y3 A18 c_18 (rd p0.L it4_0) _ _ h224.all h224.len h223.all l12 h225) ?_
                            rintro _ w43 ⟨rfl, x33⟩
                            refine ⟨_, rfl, x33, ?_⟩
                            have sx33 := x33.size
                            refine RW.pure tabOk 2 rfl ?_
                            refine RW.done ?_
                            have h226 := h222.ext x33
                            have h227 := ((((gF2_7.ext x25).ext x26).ext x31).ext x32).ext x33
                            have h228 := ((((gF4_7.ext x25).ext x26).ext x31).ext x32).ext x33
                            have h229 := h224.ext x33
                            have h230 := (h218.ext x32).ext x33
                            have h231 := Ext.trans (Ext.trans (Ext.trans (Ext.trans (Ext.trans x0_7 x25) x26) x31) x32) x33
                            have h232 := h221.ext x33
                            have h233 := ((((g0_7.ext x25).ext x26).ext x31).ext x32).ext x33
                            exact NW.J fun a ha => ⟨(!y27), ha.sub ⟨rfl, rfl, rfl, rfl, rfl, rfl, rfl, rfl, rfl, trivial⟩, by omega, h226, h227, h228, h229, h230, h231, h232, h233, H⟩
                          · rw [if_neg c23] at H
                            refine RW.bool 210 (b' := true) (not_t (bool_f c23)) rfl ?_
                            refine RW.pure tabOk 9 rfl ?_
                            refine RW.done ?_
                            have h234 := (((gF1_7.ext x25).ext x26).ext x31).ext x32
                            have h235 := (((gF2_7.ext x25).ext x26).ext x31).ext x32
                            have h236 := (((gF4_7.ext x25).ext x26).ext x31).ext x32
                            have h237 := (((gF6_7.ext x25).ext x26).ext x31).ext x32
                            have h238 := h218.ext x32
                            have h239 := Ext.trans (Ext.trans (Ext.trans (Ext.trans x0_7 x25) x26) x31) x32
                            have h240 := (((gb1_7.ext x25).ext x26).ext x31).ext x32
                            have h241 := (((g0_7.ext x25).ext x26).ext x31).ext x32
                            exact NW.J fun a ha => ⟨true, ha.sub ⟨rfl, rfl, rfl, rfl, rfl, rfl, rfl, rfl, rfl, trivial⟩, by omega, h234, h235, h236, h237, h238, h239, h240, h241, H⟩
                        · rw [if_neg c22] at H
                          refine RW.bool 204 (b' := true) (bne_t c22) rfl ?_
                          refine RW.pure tabOk 15 rfl ?_
                          refine RW.done ?_
                          have h242 := ((gF1_7.ext x25).ext x26).ext x31
                          have h243 := ((gF2_7.ext x25).ext x26).ext x31
                          have h244 := ((gF4_7.ext x25).ext x26).ext x31
                          have h245 := ((gF6_7.ext x25).ext x26).ext x31
                          have h246 := ((gF13_7.ext x25).ext x26).ext x31
                          have h247 := Ext.trans (Ext.trans (Ext.trans x0_7 x25) x26) x31
                          have h248 := ((gb1_7.ext x25).ext x26).ext x31
                          have h249 := ((g0_7.ext x25).ext x26).ext x31
                          exact NW.J fun a ha => ⟨true, ha.sub ⟨rfl, rfl, rfl, rfl, rfl, rfl, rfl, rfl, rfl, trivial⟩, by omega, h242, h243, h244, h245, h246, h247, h248, h249, H⟩
                      · rw [if_neg c21] at H
                        refine RW.bool 198 (b' := true) (not_t (bool_f c21)) rfl ?_
                        refine RW.pure tabOk 21 rfl ?_
                        refine RW.done ?_
                        have h250 := (gF1_7.ext x25).ext x26
                        have h251 := (gF2_7.ext x25).ext x26
                        have h252 := (gF4_7.ext x25).ext x26
                        have h253 := (gF6_7.ext x25).ext x26
                        have h254 := (gF13_7.ext x25).ext x26
                        have h255 := Ext.trans (Ext.trans x0_7 x25) x26
                        have h256 := (gb1_7.ext x25).ext x26
                        have h257 := (g0_7.ext x25).ext x26
                        exact NW.J fun a ha => ⟨true, ha.sub ⟨rfl, rfl, rfl, rfl, rfl, rfl, rfl, rfl, rfl, trivial⟩, by omega, h250, h251, h252, h253, h254, h255, h256, h257, H⟩
                  · rw [if_neg c16] at H
                    refine RW.bool 181 (b' := true) (bne_t c16) rfl ?_
                    refine RW.pure tabOk 38 rfl ?_
                    refine RW.done ?_
                    have h258 := (gF1_7.ext x25).ext x26
                    have h259 := (gF2_7.ext x25).ext x26
                    have h260 := (gF4_7.ext x25).ext x26
                    have h261 := (gF6_7.ext x25).ext x26
                    have h262 := (gF13_7.ext x25).ext x26
                    have h263 := Ext.trans (Ext.trans x0_7 x25) x26
                    have h264 := (gb1_7.ext x25).ext x26
                    have h265 := (g0_7.ext x25).ext x26
                    exact NW.J fun a ha => ⟨true, ha.sub ⟨rfl, rfl, rfl, rfl, rfl, rfl, rfl, rfl, rfl, trivial⟩, by omega, h258, h259, h260, h261, h262, h263, h264, h265, H⟩
                intro a w34 hJ hp
                obtain ⟨bt219_9, hS, hle, gF1_9, gF2_9, gF4_9, gF6_9, gF13_9, x0_9, gb1_9, g0_9, H⟩ := hJ
                unfold hermitagelaw1_SegTells.j7 at H
                refine CW.go hp hS ?_
                by_cases c24 : bt219_9 = true
                · rw [if_pos c24] at H
                  refine CW.cond_t rfl (c24) ?_
                  refine CW.seq ?_
                  refine CW.lex [.W] rfl ?_
                  refine RW.pure tabOk 1 rfl ?_
                  refine RW.done ?_
                  refine NW.next ?_
                  refine CW.ret ?_
                  refine NW.ret_then (NW.ret_block (NW.ret_then (NW.ret_then (NW.ret_block (NW.ret_block (NW.ret_then (NW.ret_then (NW.ret_block (NW.ret_then ?_)))))))))
                  obtain rfl := Option.some.inj H
                  exact NW.ret1 rfl (by rfl) ⟨rfl, x0_9⟩
                · rw [if_neg c24] at H
                  refine CW.cond_f rfl (bool_f c24) ?_
                  refine CW.skip ?_
                  refine NW.next ?_
                  refine CW.seq ?_
                  refine CW.lex [.W, .M] rfl ?_
                  refine RW.pure tabOk 1 rfl ?_
                  refine RW.callFM (R := fun e w44 => e = .returned (.tuple #[]) ∧ w34.heap.size ≤ w44.heap.size ∧ Sl (Kd.sl kSeg) w44.heap (okL [(0, some w.heap.size, none)]) A1 p0.L ∧ Sl (Kd.int .i64) w44.heap (okL [(0, some w.heap.size, none)]) A2 p0.N ∧ Ow (Kd.int .i64) 3 w44.heap (okL [(w2.heap.size, some w4.heap.size, some 3)]) (okL []) A3 c_3 (([0, 1, 63, 64, 65, (-1)] : List Int) ++ p0.N) ∧ Ow kSeg 93 w44.heap (okL [(w6.heap.size, some w8.heap.size, some 93)]) (okL []) A5 c_5 y3 ∧ Ext w w44 ∧ Box w44.heap b1 25 [.slice A1 p0.L.length c_1, .slice A2 p0.N.length c_2] ∧ Box w44.heap 0 gT (arrI .u8 64 tz) ∧ hermitagelaw1_SegTells.j8 p0 k it4_0 y3 it14_5 (hermitagelaw1_SegTells.l1 p0 k it4_0 y3 y4 it11_3 (hermitagelaw1_SegTells.l0 p0 k n1) n2) = some r) ent21 ⟨rfl, rfl, rfl, rfl⟩ rfl rfl rfl ?_ ?_
                  ·
                    refine calls_start Tryd.func21 rfl 13 rfl [.slice A12 y16.1.length c_12] rfl ?_
                    refine CW.seq ?_
                    refine CW.lex [.W] rfl ?_
                    refine RW.pure tabOk 1 rfl ?_
                    refine RW.done ?_
                    refine NW.next ?_
                    refine CW.block ?_
                    refine CW.loop (fun n3 a w45 => ∃ (lt0_11 : List Seg) (At0_11 : Option Addr) (ct0_11 : Nat) (it2_11 : Int), Sat 13 [(0, .slice At0_11 lt0_11.length ct0_11), (2, .int .i64 it2_11)] a ∧ w34.heap.size ≤ w45.heap.size ∧ Ow kSeg 93 w45.heap (okL [(w25.heap.size, some w26.heap.size, some 93)]) (okL []) At0_11 ct0_11 lt0_11 ∧ Sl (Kd.sl kSeg) w45.heap (okL [(0, some w.heap.size, none)]) A1 p0.L ∧ Sl (Kd.int .i64) w45.heap (okL [(0, some w.heap.size, none)]) A2 p0.N ∧ Ow (Kd.int .i64) 3 w45.heap (okL [(w2.heap.size, some w4.heap.size, some 3)]) (okL []) A3 c_3 (([0, 1, 63, 64, 65, (-1)] : List Int) ++ p0.N) ∧ Ow kSeg 93 w45.heap (okL [(w6.heap.size, some w8.heap.size, some 93)]) (okL []) A5 c_5 y3 ∧ Ext w w45 ∧ Box w45.heap b1 25 [.slice A1 p0.L.length c_1, .slice A2 p0.N.length c_2] ∧ Box w45.heap 0 gT (arrI .u8 64 tz) ∧ hermitagelaw1_SegTells.l2 p0 k it4_0 y3 it14_5 (hermitagelaw1_SegTells.l1 p0 k it4_0 y3 y4 it11_3 (hermitagelaw1_SegTells.l0 p0 k n1) n2) n3 lt0_11 it2_11 = some r) k ?_ ?_
                    · exact fun a ha => ⟨y16.1, A12, c_12, 0, ha.sub ⟨rfl, rfl, trivial⟩, by omega, (gF13_9.sub ⟨(.inl ⟨by omega, by omega, rfl⟩), trivial⟩ trivial), gF1_9, gF2_9, gF4_9, gF6_9, x0_9, gb1_9, g0_9, H⟩
                    intro n3 a w45 hI hp
                    obtain ⟨lt0_11, At0_11, ct0_11, it2_11, hS, hle, ft0_11, gF1_11, gF2_11, gF4_11, gF6_11, x0_11, gb1_11, g0_11, H⟩ := hI
                    cases n3 with
                    | zero => cases H
                    | succ n3 =>
                      rw [hermitagelaw1_SegTells.l2] at H
                      refine CW.go hp hS ?_
                      refine CW.seq ?_
                      refine CW.seq ?_
                      refine CW.lex [.W, .W, .W, .W] rfl ?_
                      refine RW.pure tabOk 4 rfl ?_
                      refine RW.done ?_
                      refine NW.next ?_
                      by_cases c25 : it2_11 < (lt0_11.length : Int)
                      · rw [if_pos c25] at H
                        refine CW.cond_t rfl (decide_eq_true c25) ?_
                        refine CW.skip ?_
                        refine NW.next ?_
                        refine CW.seq ?_
                        refine CW.block ?_
                        refine CW.lex [.W, .W, .W, .W, .M] rfl ?_
                        refine RW.pure tabOk 3 rfl ?_
                        obtain ⟨g18, H⟩ := guard_some H
                        obtain ⟨ad17, e17, a17⟩ := kSeg_at ft0_11.slL g18.1 g18.2
                        refine RW.index tabOk g18.1 g18.2 e17 ⟨rfl, rfl, rfl, rfl⟩ rfl rfl rfl rfl rfl rfl ?_
                        refine RW.storeElL0 (y := (⟨(-9), 0⟩ : Seg)) (lv := []) tabOk ft0_11 (j := it2_11.toNat) (by have := g18; omega) default [.int .i64 (-9), .int .i64 0] (fun cs ok' hr => by obtain rfl := kSeg_open hr; exact ⟨by simp, kSeg_mk (⟨(-9), 0⟩ : Seg)⟩) trivial ⟨rfl, rfl, rfl⟩ rfl rfl e17 rfl rfl rfl rfl rfl ?_
                        intro w46 x34 h266
                        have sx34 := x34.size
                        have h267 := h266.sub (l' := [(w25.heap.size, some w26.heap.size, some 93)]) (li' := []) ⟨(.inl ⟨by omega, by omega, rfl⟩), trivial⟩ trivial
                        refine RW.tell 0 (v' := .slice At0_11 (lt0_11.set it2_11.toNat (⟨(-9), 0⟩ : Seg)).length ct0_11) (slice_len (List.length_set).symm) rfl ?_
                        refine RW.done ?_
                        refine NW.norm_block (NW.next ?_)
                        refine CW.lex [.W, .W, .W] rfl ?_
                        refine RW.pure tabOk 3 rfl ?_
                        refine RW.done ?_
                        have h268 := gF1_11.turnL x34 ⟨⟨.inr (.inl (by omega)), trivial⟩, trivial⟩
                        have h269 := gF2_11.turnL x34 ⟨⟨.inr (.inl (by omega)), trivial⟩, trivial⟩
                        have h270 := gF4_11.turnL x34 ⟨⟨.inl (show (3 : Nat) ≠ 93 by decide), trivial⟩, trivial⟩ trivial
                        have h271 := gF6_11.turnL x34 ⟨⟨.inr (.inl (by omega)), trivial⟩, trivial⟩ trivial
                        have h272 := Ext.turn x0_11 x34 ⟨by omega, trivial⟩
                        have h273 := gb1_11.turnL x34 (.inl (by decide))
                        have h274 := g0_11.turnL x34 (.inr ⟨⟨.inr (.inl (by omega)), trivial⟩, trivial⟩)
                        exact NW.J fun a ha => ⟨n3, Nat.lt_succ_self n3, (lt0_11.set it2_11.toNat (⟨(-9), 0⟩ : Seg)), At0_11, ct0_11, (w64 (it2_11 + 1)), ha.sub ⟨rfl, rfl, trivial⟩, by omega, (h267.sub ⟨(.inl ⟨by omega, by omega, rfl⟩), trivial⟩ trivial), h268, h269, h270, h271, h272, h273, h274, H⟩
                      · rw [if_neg c25] at H
                        refine CW.cond_f rfl (decide_eq_false c25) ?_
                        refine CW.exit ?_
                        refine NW.exit_then (NW.exit_then (NW.exit_hit ?_))
                        refine NW.end_ ?_
                        exact NW.ret0 rfl ⟨rfl, by omega, gF1_11, gF2_11, gF4_11, gF6_11, x0_11, gb1_11, g0_11, H⟩
                  rintro _ w44 ⟨rfl, hle, gF1_10, gF2_10, gF4_10, gF6_10, x0_10, gb1_10, g0_10, H⟩
                  refine ⟨_, rfl, ?_⟩
                  unfold hermitagelaw1_SegTells.j8 at H
                  refine RW.done ?_
                  refine NW.next ?_
                  refine CW.seq ?_
                  refine CW.lex [.W, .W, .L, .W, .W, .L, .X, .W] rfl ?_
                  refine RW.pure tabOk 2 rfl ?_
                  refine RW.load tabOk [.slice A1 p0.L.length c_1] ((gb1_10.at 0).take 1 rfl) ⟨rfl, rfl, rfl, rfl⟩ rfl rfl rfl rfl ?_
                  refine RW.pure tabOk 1 rfl ?_
                  obtain ⟨g19, H⟩ := guard_some H
                  obtain ⟨ad18, A19, c_19, e18, a18, l13, h275⟩ := sl_at gF1_10 g19.1 g19.2
                  refine RW.index tabOk g19.1 g19.2 e18 ⟨rfl, rfl, rfl, rfl⟩ rfl rfl rfl rfl rfl rfl ?_
                  refine RW.load tabOk [.slice A19 (rd p0.L it4_0).length c_19] a18 ⟨rfl, rfl, rfl, rfl⟩ rfl rfl rfl rfl ?_
                  obtain ⟨y28, h276, H⟩ := bind_some H
                  refine RW.callF (.inl rfl) ent15 ⟨rfl, rfl, rfl, rfl⟩ rfl rfl (hermitageref0_EqSegs.calls k A5 c_5 y3 A19 c_19 (rd p0.L it4_0) _ _ gF6_10.all gF6_10.len h275.all l13 h276) ?_
                  rintro _ w47 ⟨rfl, x35⟩
                  refine ⟨_, rfl, x35, ?_⟩
                  have sx35 := x35.size
                  refine RW.pure tabOk 1 rfl ?_
                  refine RW.done ?_
                  refine NW.next ?_
                  by_cases c26 : y28 = true
                  · rw [if_pos c26] at H
                    refine CW.cond_f rfl (not_f (c26)) ?_
                    refine CW.skip ?_
                    refine NW.norm_block (NW.next ?_)
                    refine CW.lex [.W, .W, .W] rfl ?_
                    refine RW.pure tabOk 3 rfl ?_
                    refine RW.done ?_
                    have h277 := gF1_10.ext x35
                    have h278 := gF2_10.ext x35
                    have h279 := gF4_10.ext x35
                    have h280 := gF6_10.ext x35
                    have h281 := Ext.trans x0_10 x35
                    have h282 := gb1_10.ext x35
                    have h283 := g0_10.ext x35
                    exact NW.J fun a ha => ⟨n2, Nat.lt_succ_self n2, (w64 (it14_5 + 1)), ha.sub ⟨rfl, rfl, rfl, rfl, rfl, rfl, rfl, trivial⟩, by omega, h277, h278, h279, h280, h281, h282, h283, H⟩
                  · rw [if_neg c26] at H
                    refine CW.cond_t rfl (not_t (bool_f c26)) ?_
                    refine CW.seq ?_
                    refine CW.lex [.W] rfl ?_
                    refine RW.pure tabOk 1 rfl ?_
                    refine RW.done ?_
                    refine NW.next ?_
                    refine CW.ret ?_
                    refine NW.ret_block (NW.ret_then (NW.ret_then (NW.ret_block (NW.ret_block (NW.ret_then (NW.ret_then (NW.ret_block (NW.ret_then ?_))))))))
                    obtain rfl := Option.some.inj H
                    have h284 := Ext.trans x0_10 x35
                    exact NW.ret1 rfl (by rfl) ⟨rfl, h284⟩
              · rw [if_neg c12] at H
                refine CW.cond_f rfl (bool_f c12) ?_
                refine CW.exit ?_
                refine NW.exit_then (NW.exit_then (NW.exit_hit ?_))
                refine NW.norm_block ?_
                exact NW.J fun a ha => ⟨ha.sub ⟨rfl, rfl, rfl, trivial⟩, by omega, gF1_6, gF2_6, gF4_6, x0_6, gb1_6, g0_6, H⟩
        intro a w7 hJ hp
        obtain ⟨hS, hle, gF1_2, gF2_2, gF4_2, x0_2, gb1_2, g0_2, H⟩ := hJ
        unfold hermitagelaw1_SegTells.j1 at H
        refine CW.go hp hS ?_
        refine CW.lex [.W, .W, .W] rfl ?_
        refine RW.pure tabOk 3 rfl ?_
        refine RW.done ?_
        exact NW.J fun a ha => ⟨n1, Nat.lt_succ_self n1, (w64 (it4_0 + 1)), ha.sub ⟨rfl, rfl, rfl, trivial⟩, by omega, gF1_2, gF2_2, gF4_2, x0_2, gb1_2, g0_2, H⟩
      · rw [if_neg c3] at H
        refine CW.cond_f rfl (bool_f c3) ?_
        refine CW.exit ?_
        refine NW.exit_then (NW.exit_then (NW.exit_hit ?_))
        refine NW.next ?_
        refine CW.seq ?_
        refine CW.seq ?_
        refine CW.lex [.W] rfl ?_
        refine RW.pure tabOk 1 rfl ?_
        refine RW.done ?_
        refine NW.next ?_
        refine CW.block ?_
        refine CW.loop (fun n4 a w48 => ∃ (it21_12 : Int), Sat 277 [(3, .slice A3 (([0, 1, 63, 64, 65, (-1)] : List Int) ++ p0.N).length c_3), (21, .int .i64 it21_12)] a ∧ w6.heap.size ≤ w48.heap.size ∧ Ow (Kd.int .i64) 3 w48.heap (okL [(w2.heap.size, some w4.heap.size, some 3)]) (okL []) A3 c_3 (([0, 1, 63, 64, 65, (-1)] : List Int) ++ p0.N) ∧ Ext w w48 ∧ Box w48.heap 0 gT (arrI .u8 64 tz) ∧ hermitagelaw1_SegTells.l3 p0 k n4 it21_12 = some r) k ?_ ?_
        · exact fun a ha => ⟨0, ha.sub ⟨rfl, rfl, trivial⟩, by omega, gF4_1, x0_1, g0_1, H⟩
        intro n4 a w48 hI hp
        obtain ⟨it21_12, hS, hle, gF4_12, x0_12, g0_12, H⟩ := hI
        cases n4 with
        | zero => cases H
        | succ n4 =>
          rw [hermitagelaw1_SegTells.l3] at H
          refine CW.go hp hS ?_
          refine CW.seq ?_
          refine CW.seqJ (fun a w49 => ∃ (bt237_13 : Bool), Sat 277 [(3, .slice A3 (([0, 1, 63, 64, 65, (-1)] : List Int) ++ p0.N).length c_3), (21, .int .i64 it21_12), (237, .bool bt237_13)] a ∧ w48.heap.size ≤ w49.heap.size ∧ Ow (Kd.int .i64) 3 w49.heap (okL [(w2.heap.size, some w4.heap.size, some 3)]) (okL []) A3 c_3 (([0, 1, 63, 64, 65, (-1)] : List Int) ++ p0.N) ∧ Ext w w49 ∧ Box w49.heap 0 gT (arrI .u8 64 tz) ∧ hermitagelaw1_SegTells.j9 p0 k it21_12 (hermitagelaw1_SegTells.l3 p0 k n4) bt237_13 = some r) ?_ ?_
          ·
            refine CW.lex [.W, .W, .W, .W, .W, .W, .W, .W] rfl ?_
            refine RW.pure tabOk 5 rfl ?_
            by_cases c27 : it21_12 ≤ ((([0, 1, 63, 64, 65, (-1)] : List Int) ++ p0.N).length : Int)
            · rw [if_pos c27] at H
              refine RW.bool 234 (b' := true) (decide_eq_true c27) rfl ?_
              refine RW.pure tabOk 3 rfl ?_
              refine RW.done ?_
              exact NW.J fun a ha => ⟨(decide (it21_12 < 11)), ha.sub ⟨rfl, rfl, rfl, trivial⟩, by omega, gF4_12, x0_12, g0_12, H⟩
            · rw [if_neg c27] at H
              refine RW.bool 234 (b' := false) (decide_eq_false c27) rfl ?_
              refine RW.pure tabOk 3 rfl ?_
              refine RW.done ?_
              exact NW.J fun a ha => ⟨false, ha.sub ⟨rfl, rfl, rfl, trivial⟩, by omega, gF4_12, x0_12, g0_12, H⟩
          intro a w49 hJ hp
          obtain ⟨bt237_13, hS, hle, gF4_13, x0_13, g0_13, H⟩ := hJ
          unfold hermitagelaw1_SegTells.j9 at H
          refine CW.go hp hS ?_
          by_cases c28 : bt237_13 = true
          · rw [if_pos c28] at H
            refine CW.cond_t rfl (c28) ?_
            refine CW.skip ?_
            refine NW.next ?_
            refine CW.seqJ (fun a w50 => Sat 277 [(3, .slice A3 (([0, 1, 63, 64, 65, (-1)] : List Int) ++ p0.N).length c_3), (21, .int .i64 it21_12)] a ∧ w49.heap.size ≤ w50.heap.size ∧ Ow (Kd.int .i64) 3 w50.heap (okL [(w2.heap.size, some w4.heap.size, some 3)]) (okL []) A3 c_3 (([0, 1, 63, 64, 65, (-1)] : List Int) ++ p0.N) ∧ Ext w w50 ∧ Box w50.heap 0 gT (arrI .u8 64 tz) ∧ hermitagelaw1_SegTells.j10 it21_12 (hermitagelaw1_SegTells.l3 p0 k n4) = some r) ?_ ?_
            ·
              refine CW.block ?_
              refine CW.seq ?_
              refine CW.lex [.W, .W, .W, .X, .W, .W, .W, .W, .W] rfl ?_
              refine RW.pure tabOk 2 rfl ?_
              obtain ⟨g20, H⟩ := guard_some H
              refine RW.sliceTo tabOk g20.1 g20.2 gF4_13.len ⟨rfl, rfl, rfl, rfl⟩ rfl rfl rfl rfl rfl rfl ?_
              have h285 := gF4_13.slL.take it21_12.toNat
              have l14 := take_le gF4_13.len it21_12.toNat
              obtain ⟨y29, h286, H⟩ := bind_some H
              refine RW.callF (.inl rfl) ent26 ⟨rfl, rfl, rfl, rfl⟩ rfl rfl (seg_Of.calls k A3 c_3 ((([0, 1, 63, 64, 65, (-1)] : List Int) ++ p0.N).take it21_12.toNat) _ _ h285.all l14 g0_13 h286) ?_
              rintro _ w51 ⟨A20, c_20, rfl, x36, h287⟩
              refine ⟨_, rfl, x36, ?_⟩
              have sx36 := x36.size
              have h288 : Ow kSeg 93 w51.heap (okL [(w49.heap.size, some w51.heap.size, some 93)]) (okL []) A20 c_20 y29.1 := h287.close
              refine RW.pure tabOk 5 rfl ?_
              refine RW.done ?_
              refine NW.next ?_
              refine CW.seq ?_
              refine CW.lex [.W] rfl ?_
              refine RW.pure tabOk 1 rfl ?_
              refine RW.done ?_
              refine NW.next ?_
              refine CW.seq ?_
              refine CW.lex [.X] rfl ?_
              refine RW.alloc tabOk (.inl rfl) ⟨rfl, rfl, rfl, rfl⟩ rfl rfl ?_
              intro b3 w52 x37 l15 h289
              have sx37 := x37.size
              have ltb3 := h289.lt
              refine RW.done ?_
              refine NW.next ?_
              refine CW.seq ?_
              refine CW.seq ?_
              refine CW.lex [.W] rfl ?_
              refine RW.pure tabOk 1 rfl ?_
              refine RW.done ?_
              refine NW.next ?_
              refine CW.block ?_
              refine CW.loop (fun n5 a w53 => ∃ (it24_15 : Int) (it26_15 : Int) (ab3_0_15 : Nat → Bool), Sat 277 [(3, .slice A3 (([0, 1, 63, 64, 65, (-1)] : List Int) ++ p0.N).length c_3), (21, .int .i64 it21_12), (22, .slice A20 y29.1.length c_20), (23, .int .i64 y29.2), (24, .int .i64 it24_15), (25, .pointer (some ⟨b3, 0, none⟩)), (26, .int .i64 it26_15)] a ∧ w52.heap.size ≤ w53.heap.size ∧ Ow (Kd.int .i64) 3 w53.heap (okL [(w2.heap.size, some w4.heap.size, some 3)]) (okL []) A3 c_3 (([0, 1, 63, 64, 65, (-1)] : List Int) ++ p0.N) ∧ Ow kSeg 93 w53.heap (okL [(w49.heap.size, some w51.heap.size, some 93)]) (okL []) A20 c_20 y29.1 ∧ Ext w w53 ∧ Box w53.heap b3 54 (arrB 64 ab3_0_15) ∧ Box w53.heap 0 gT (arrI .u8 64 tz) ∧ hermitagelaw1_SegTells.l4 p0 k it21_12 y29 (hermitagelaw1_SegTells.l3 p0 k n4) n5 it24_15 it26_15 ab3_0_15 = some r) k ?_ ?_
              have h290 := (gF4_13.ext x36).ext x37
              have h291 := h288.ext x37
              have h292 := Ext.trans (Ext.trans x0_13 x36) x37
              have h293 := (g0_13.ext x36).ext x37
              · exact fun a ha => ⟨0, 0, (fun _ => false), ha.sub ⟨rfl, rfl, rfl, rfl, rfl, rfl, rfl, trivial⟩, by omega, h290, h291, h292, h289, h293, H⟩
              intro n5 a w53 hI hp
              obtain ⟨it24_15, it26_15, ab3_0_15, hS, hle, gF4_15, gF23_15, x0_15, gb3_15, g0_15, H⟩ := hI
              cases n5 with
              | zero => cases H
              | succ n5 =>
                rw [hermitagelaw1_SegTells.l4] at H
                refine CW.go hp hS ?_
                refine CW.seq ?_
                refine CW.seq ?_
                refine CW.lex [.W, .W, .W] rfl ?_
                refine RW.pure tabOk 3 rfl ?_
                refine RW.done ?_
                refine NW.next ?_
                by_cases c29 : it26_15 < it21_12
                · rw [if_pos c29] at H
                  refine CW.cond_t rfl (decide_eq_true c29) ?_
                  refine CW.skip ?_
                  refine NW.next ?_
                  refine CW.seqJ (fun a w54 => ∃ (it24_16 : Int) (ab3_0_16 : Nat → Bool), Sat 277 [(3, .slice A3 (([0, 1, 63, 64, 65, (-1)] : List Int) ++ p0.N).length c_3), (21, .int .i64 it21_12), (22, .slice A20 y29.1.length c_20), (23, .int .i64 y29.2), (24, .int .i64 it24_16), (25, .pointer (some ⟨b3, 0, none⟩)), (26, .int .i64 it26_15)] a ∧ w53.heap.size ≤ w54.heap.size ∧ Ow (Kd.int .i64) 3 w54.heap (okL [(w2.heap.size, some w4.heap.size, some 3)]) (okL []) A3 c_3 (([0, 1, 63, 64, 65, (-1)] : List Int) ++ p0.N) ∧ Ow kSeg 93 w54.heap (okL [(w49.heap.size, some w51.heap.size, some 93)]) (okL []) A20 c_20 y29.1 ∧ Ext w w54 ∧ Box w54.heap b3 54 (arrB 64 ab3_0_16) ∧ Box w54.heap 0 gT (arrI .u8 64 tz) ∧ hermitagelaw1_SegTells.j11 it26_15 (hermitagelaw1_SegTells.l4 p0 k it21_12 y29 (hermitagelaw1_SegTells.l3 p0 k n4) n5) it24_16 ab3_0_16 = some r) ?_ ?_
                  ·
                    refine CW.block ?_
                    refine CW.seq ?_
                    refine CW.lex [.W, .W, .W, .L, .X] rfl ?_
                    refine RW.pure tabOk 2 rfl ?_
                    obtain ⟨g21, H⟩ := guard_some H
                    obtain ⟨ad19, e19, a19⟩ := at_i64 gF4_15.slL g21.1 g21.2
                    refine RW.index tabOk g21.1 g21.2 e19 ⟨rfl, rfl, rfl, rfl⟩ rfl rfl rfl rfl rfl rfl ?_
                    refine RW.load tabOk [.int .i64 (rd (([0, 1, 63, 64, 65, (-1)] : List Int) ++ p0.N) it26_15)] a19 ⟨rfl, rfl, rfl, rfl⟩ rfl rfl rfl rfl ?_
                    obtain ⟨y30, h294, H⟩ := bind_some H
                    refine RW.callF (.inl rfl) ent31 ⟨rfl, rfl, rfl, rfl⟩ rfl rfl (hermitageref0_Num.calls (rd (([0, 1, 63, 64, 65, (-1)] : List Int) ++ p0.N) it26_15) 63 _ _ h294) ?_
                    rintro _ w55 ⟨rfl, x38⟩
                    refine ⟨_, rfl, x38, ?_⟩
                    have sx38 := x38.size
                    refine RW.done ?_
                    refine NW.next ?_
                    by_cases c30 : y30 = true
                    · rw [if_pos c30] at H
                      refine CW.cond_t rfl (c30) ?_
                      refine CW.lex [.W, .W, .W, .L, .W, .M] rfl ?_
                      refine RW.pure tabOk 2 rfl ?_
                      obtain ⟨g22, H⟩ := guard_some H
                      have h295 := gF4_15.ext x38
                      obtain ⟨ad20, e20, a20⟩ := at_i64 h295.slL g22.1 g22.2
                      refine RW.index tabOk g22.1 g22.2 e20 ⟨rfl, rfl, rfl, rfl⟩ rfl rfl rfl rfl rfl rfl ?_
                      refine RW.load tabOk [.int .i64 (rd (([0, 1, 63, 64, 65, (-1)] : List Int) ++ p0.N) it26_15)] a20 ⟨rfl, rfl, rfl, rfl⟩ rfl rfl rfl rfl ?_
                      obtain ⟨g23, H⟩ := guard_some H
                      refine RW.indexBox tabOk g23.1 g23.2 ⟨rfl, rfl, rfl, rfl⟩ rfl rfl rfl rfl rfl rfl rfl ?_
                      have h296 := gb3_15.ext x38
                      refine RW.storeBox tabOk h296 [.bool true] ⟨rfl, rfl, rfl⟩ rfl rfl rfl rfl rfl rfl rfl (arrF_fit (by have := g23; omega)) ?_
                      intro w56 x39 h297
                      have h298 : Box w56.heap b3 54 (arrB 64 (updF ab3_0_15 (rd (([0, 1, 63, 64, 65, (-1)] : List Int) ++ p0.N) it26_15).toNat true)) := by rw [lay_arrF] at h297; exact h297
                      have sx39 := x39.size
                      refine RW.done ?_
                      refine NW.norm_block ?_
                      have h299 := h295.turnB x39 h296 ⟨.inl (show (3 : Nat) ≠ 54 by decide), trivial⟩ trivial
                      have h300 := (gF23_15.ext x38).turnB x39 h296 ⟨.inl (show (93 : Nat) ≠ 54 by decide), trivial⟩ trivial
                      have h301 := Ext.turnB (Ext.trans x0_15 x38) x39 (by omega)
                      have h302 := (g0_15.ext x38).turnB x39 (by omega)
                      exact NW.J fun a ha => ⟨it24_15, (updF ab3_0_15 (rd (([0, 1, 63, 64, 65, (-1)] : List Int) ++ p0.N) it26_15).toNat true), ha.sub ⟨rfl, rfl, rfl, rfl, rfl, rfl, rfl, trivial⟩, by omega, h299, h300, h301, h298, h302, H⟩
                    · rw [if_neg c30] at H
                      refine CW.cond_f rfl (bool_f c30) ?_
                      refine CW.lex [.W] rfl ?_
                      refine RW.pure tabOk 1 rfl ?_
                      refine RW.done ?_
                      refine NW.norm_block ?_
                      have h303 := gF4_15.ext x38
                      have h304 := gF23_15.ext x38
                      have h305 := Ext.trans x0_15 x38
                      have h306 := gb3_15.ext x38
                      have h307 := g0_15.ext x38
                      exact NW.J fun a ha => ⟨1, ab3_0_15, ha.sub ⟨rfl, rfl, rfl, rfl, rfl, rfl, rfl, trivial⟩, by omega, h303, h304, h305, h306, h307, H⟩
                  intro a w54 hJ hp
                  obtain ⟨it24_16, ab3_0_16, hS, hle, gF4_16, gF23_16, x0_16, gb3_16, g0_16, H⟩ := hJ
                  unfold hermitagelaw1_SegTells.j11 at H
                  refine CW.go hp hS ?_
                  refine CW.lex [.W, .W, .W] rfl ?_
                  refine RW.pure tabOk 3 rfl ?_
                  refine RW.done ?_
                  exact NW.J fun a ha => ⟨n5, Nat.lt_succ_self n5, it24_16, (w64 (it26_15 + 1)), ab3_0_16, ha.sub ⟨rfl, rfl, rfl, rfl, rfl, rfl, rfl, trivial⟩, by omega, gF4_16, gF23_16, x0_16, gb3_16, g0_16, H⟩
                · rw [if_neg c29] at H
                  refine CW.cond_f rfl (decide_eq_false c29) ?_
                  refine CW.exit ?_
                  refine NW.exit_then (NW.exit_then (NW.exit_hit ?_))
                  refine NW.next ?_
                  refine CW.seq ?_
                  refine CW.lex [.W] rfl ?_
                  refine RW.pure tabOk 1 rfl ?_
                  refine RW.done ?_
                  refine NW.next ?_
                  refine CW.seqJ (fun a w57 => ∃ (lt27_17 : List Seg) (At27_17 : Option Addr) (ct27_17 : Nat), Sat 277 [(3, .slice A3 (([0, 1, 63, 64, 65, (-1)] : List Int) ++ p0.N).length c_3), (21, .int .i64 it21_12), (22, .slice A20 y29.1.length c_20), (23, .int .i64 y29.2), (24, .int .i64 it24_15), (27, .slice At27_17 lt27_17.length ct27_17)] a ∧ w53.heap.size ≤ w57.heap.size ∧ Ow kSeg 93 w57.heap (okL [(w53.heap.size, none, some 93)]) (okL []) At27_17 ct27_17 lt27_17 ∧ Ow (Kd.int .i64) 3 w57.heap (okL [(w2.heap.size, some w4.heap.size, some 3)]) (okL []) A3 c_3 (([0, 1, 63, 64, 65, (-1)] : List Int) ++ p0.N) ∧ Ow kSeg 93 w57.heap (okL [(w49.heap.size, some w51.heap.size, some 93)]) (okL []) A20 c_20 y29.1 ∧ Ext w w57 ∧ Box w57.heap 0 gT (arrI .u8 64 tz) ∧ hermitagelaw1_SegTells.j12 k it21_12 y29 it24_15 (hermitagelaw1_SegTells.l3 p0 k n4) lt27_17 = some r) ?_ ?_
                  ·
                    refine CW.seq ?_
                    refine CW.lex [.W, .W] rfl ?_
                    refine RW.pure tabOk 2 rfl ?_
                    refine RW.done ?_
                    refine NW.next ?_
                    by_cases c31 : it24_15 = 0
                    · rw [if_pos c31] at H
                      refine CW.cond_t rfl (beq_t c31) ?_
                      refine CW.lex [.L, .X, .W] rfl ?_
                      refine RW.load tabOk (arrB 64 ab3_0_15) (gb3_15.at 0) ⟨rfl, rfl, rfl, rfl⟩ rfl rfl rfl arrF_len ?_
                      obtain ⟨y31, h308, H⟩ := bind_some H
                      refine RW.callF (.inl rfl) ent35 ⟨rfl, rfl, rfl, rfl⟩ rfl rfl (hermitageref1_Of.calls k ab3_0_15 _ _ h308) ?_
                      rintro _ w58 ⟨A21, c_21, rfl, x40, h309⟩
                      refine ⟨_, rfl, x40, ?_⟩
                      have sx40 := x40.size
                      have h310 : Ow kSeg 93 w58.heap (okL [(w53.heap.size, some w58.heap.size, some 93)]) (okL []) A21 c_21 y31 := h309.close
                      refine RW.pure tabOk 1 rfl ?_
                      refine RW.done ?_
                      have h311 := gF4_15.ext x40
                      have h312 := gF23_15.ext x40
                      have h313 := Ext.trans x0_15 x40
                      have h314 := g0_15.ext x40
                      exact NW.J fun a ha => ⟨y31, A21, c_21, ha.sub ⟨rfl, rfl, rfl, rfl, rfl, rfl, trivial⟩, by omega, (h310.sub ⟨(.inl ⟨by omega, trivial, rfl⟩), trivial⟩ trivial), h311, h312, h313, h314, H⟩
                    · rw [if_neg c31] at H
                      refine CW.cond_f rfl (beq_f c31) ?_
                      refine CW.skip ?_
                      exact NW.J fun a ha => ⟨([] : List Seg), none, 0, ha.sub ⟨rfl, rfl, rfl, rfl, rfl, rfl, trivial⟩, by omega, Ow.nil, gF4_15, gF23_15, x0_15, g0_15, H⟩
                  intro a w57 hJ hp
                  obtain ⟨lt27_17, At27_17, ct27_17, hS, hle, ft27_17, gF4_17, gF23_17, x0_17, g0_17, H⟩ := hJ
                  unfold hermitagelaw1_SegTells.j12 at H
                  refine CW.go hp hS ?_
                  have h315 : Ow kSeg 93 w57.heap (okL [(w53.heap.size, some w57.heap.size, some 93)]) (okL []) At27_17 ct27_17 lt27_17 := ft27_17.close
                  refine CW.seqJ (fun a w59 => ∃ (bt275_18 : Bool), Sat 277 [(3, .slice A3 (([0, 1, 63, 64, 65, (-1)] : List Int) ++ p0.N).length c_3), (21, .int .i64 it21_12), (275, .bool bt275_18)] a ∧ w57.heap.size ≤ w59.heap.size ∧ Ow (Kd.int .i64) 3 w59.heap (okL [(w2.heap.size, some w4.heap.size, some 3)]) (okL []) A3 c_3 (([0, 1, 63, 64, 65, (-1)] : List Int) ++ p0.N) ∧ Ext w w59 ∧ Box w59.heap 0 gT (arrI .u8 64 tz) ∧ hermitagelaw1_SegTells.j13 it21_12 (hermitagelaw1_SegTells.l3 p0 k n4) bt275_18 = some r) ?_ ?_
                  ·
                    refine CW.lex [.W, .X, .W, .W, .W, .W, .W, .X, .W, .W] rfl ?_
                    refine RW.pure tabOk 1 rfl ?_
                    obtain ⟨y32, h316, H⟩ := bind_some H
                    refine RW.callF (.inl rfl) ent14 ⟨rfl, rfl, rfl, rfl⟩ rfl rfl (hermitagelaw1_num.calls y29.2 _ _ h316) ?_
                    rintro _ w60 ⟨rfl, x41⟩
                    refine ⟨_, rfl, x41, ?_⟩
                    have sx41 := x41.size
                    refine RW.pure tabOk 3 rfl ?_
                    by_cases c32 : y32 = it24_15
                    · rw [if_pos c32] at H
                      refine RW.bool 270 (b' := false) (bne_f c32) rfl ?_
                      refine RW.pure tabOk 2 rfl ?_
                      have h317 := gF23_17.ext x41
                      have h318 := h315.ext x41
                      obtain ⟨y33, h319, H⟩ := bind_some H
                      refine RW.callF (.inl rfl) ent15 ⟨rfl, rfl, rfl, rfl⟩ rfl rfl (hermitageref0_EqSegs.calls k A20 c_20 y29.1 At27_17 ct27_17 lt27_17 _ _ h317.all h317.len h318.all h318.len h319) ?_
                      rintro _ w61 ⟨rfl, x42⟩
                      refine ⟨_, rfl, x42, ?_⟩
                      have sx42 := x42.size
                      refine RW.pure tabOk 2 rfl ?_
                      refine RW.done ?_
                      have h320 := (gF4_17.ext x41).ext x42
                      have h321 := Ext.trans (Ext.trans x0_17 x41) x42
                      have h322 := (g0_17.ext x41).ext x42
                      exact NW.J fun a ha => ⟨(!y33), ha.sub ⟨rfl, rfl, rfl, trivial⟩, by omega, h320, h321, h322, H⟩
                    · rw [if_neg c32] at H
                      refine RW.bool 270 (b' := true) (bne_t c32) rfl ?_
                      refine RW.pure tabOk 5 rfl ?_
                      refine RW.done ?_
                      have h323 := gF4_17.ext x41
                      have h324 := Ext.trans x0_17 x41
                      have h325 := g0_17.ext x41
                      exact NW.J fun a ha => ⟨true, ha.sub ⟨rfl, rfl, rfl, trivial⟩, by omega, h323, h324, h325, H⟩
                  intro a w59 hJ hp
                  obtain ⟨bt275_18, hS, hle, gF4_18, x0_18, g0_18, H⟩ := hJ
                  unfold hermitagelaw1_SegTells.j13 at H
                  refine CW.go hp hS ?_
                  by_cases c33 : bt275_18 = true
                  · rw [if_pos c33] at H
                    refine CW.cond_t rfl (c33) ?_
                    refine CW.seq ?_
                    refine CW.lex [.W] rfl ?_
                    refine RW.pure tabOk 1 rfl ?_
                    refine RW.done ?_
                    refine NW.next ?_
                    refine CW.ret ?_
                    refine NW.ret_block (NW.ret_then (NW.ret_then (NW.ret_block (NW.ret_then ?_))))
                    obtain rfl := Option.some.inj H
                    exact NW.ret1 rfl (by rfl) ⟨rfl, x0_18⟩
                  · rw [if_neg c33] at H
                    refine CW.cond_f rfl (bool_f c33) ?_
                    refine CW.skip ?_
                    refine NW.norm_block ?_
                    exact NW.J fun a ha => ⟨ha.sub ⟨rfl, rfl, trivial⟩, by omega, gF4_18, x0_18, g0_18, H⟩
            intro a w50 hJ hp
            obtain ⟨hS, hle, gF4_14, x0_14, g0_14, H⟩ := hJ
            unfold hermitagelaw1_SegTells.j10 at H
            refine CW.go hp hS ?_
            refine CW.lex [.W, .W, .W] rfl ?_
            refine RW.pure tabOk 3 rfl ?_
            refine RW.done ?_
            exact NW.J fun a ha => ⟨n4, Nat.lt_succ_self n4, (w64 (it21_12 + 1)), ha.sub ⟨rfl, rfl, trivial⟩, by omega, gF4_14, x0_14, g0_14, H⟩
          · rw [if_neg c28] at H
            refine CW.cond_f rfl (bool_f c28) ?_
            refine CW.exit ?_
            refine NW.exit_then (NW.exit_then (NW.exit_hit ?_))
            refine NW.next ?_
            refine CW.seq ?_
            refine CW.lex [.X, .W] rfl ?_
            obtain ⟨y34, h326, H⟩ := bind_some H
            refine RW.callF (.inl rfl) ent16 ⟨rfl, rfl, rfl, rfl⟩ rfl rfl (hermitagelaw1_wakes.calls k _ _ g0_13 h326) ?_
            rintro _ w62 ⟨rfl, x43⟩
            refine ⟨_, rfl, x43, ?_⟩
            have sx43 := x43.size
            refine RW.pure tabOk 1 rfl ?_
            refine RW.done ?_
            refine NW.next ?_
            refine CW.ret ?_
            obtain rfl := Option.some.inj H
            have h327 := Ext.trans x0_13 x43
            exact NW.ret1 rfl (by rfl) ⟨rfl, h327⟩

end Go.Proofs.YtnaajldlloglkaaDoor.W
