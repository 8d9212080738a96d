/- Walks; printed by a program of the claim. -/
import Derived.Test.YtnaajldlloglkaaTabW2
set_option linter.unusedVariables false
set_option linter.unusedSimpArgs false
namespace Go.Proofs.Ytnaajldlloglkaa.W
open Go.H Go.Proofs
set_option maxHeartbeats 4000000 in
set_option maxRecDepth 100000 in
theorem hermitagelaw8_TableExact.calls (k : Nat) (p0 : hermitagelaw8Script) (A1 : Option Addr) (c_1 : Nat) (A2 : Option Addr) (c_2 : Nat) (r : Bool) (w : World) (hs1 : Sl kEntry w.heap okAll A1 p0.T.List_) (hl1 : p0.T.List_.length ≤ c_1) (hs2 : Sl khermitagelaw8Act w.heap okAll A2 p0.A) (hl2 : p0.A.length ≤ c_2) (H : hermitagelaw8_TableExact.f k p0 = some r) :
    Calls Try.prog 4 #[.agg #[.int .i64 p0.T.Dev, .int .i64 p0.T.Size, .slice A1 p0.T.List_.length c_1, .slice A2 p0.A.length c_2]] w fun e w' => e = .returned (.bool r) ∧ Ext w w' := by
 have h1 : Sl kEntry w.heap (okL [(0, some w.heap.size, none)]) A1 p0.T.List_ := hs1.old _ rfl
 have h2 : Sl khermitagelaw8Act w.heap (okL [(0, some w.heap.size, none)]) A2 p0.A := hs2.old _ rfl
 have x0 : Ext w w := Upd.refl _ w
 unfold hermitagelaw8_TableExact.f at H
 refine calls_start Try.func4 rfl 37 rfl [.agg #[.int .i64 p0.T.Dev, .int .i64 p0.T.Size, .slice A1 p0.T.List_.length c_1, .slice A2 p0.A.length c_2]] rfl ?_
 refine CW.seq ?_
 refine CW.lex [.X, .W] rfl ?_
 refine RW.box (cs := [.int .i64 p0.T.Dev, .int .i64 p0.T.Size, .slice A1 p0.T.List_.length c_1, .slice A2 p0.A.length c_2]) (.inl rfl) ⟨rfl, rfl, rfl, rfl⟩ rfl rfl rfl ?_
 intro b1 w1 x1 l1 h3
 have sx1 := x1.size
 have ltb1 := h3.lt
 refine RW.pure tabOk 1 rfl ?_
 refine RW.done ?_
 refine NW.next ?_
 refine CW.seq ?_
 refine CW.seq ?_
 refine CW.lex [.L, .X] rfl ?_
 refine RW.load tabOk [.int .i64 p0.T.Dev, .int .i64 p0.T.Size, .slice A1 p0.T.List_.length c_1, .slice A2 p0.A.length c_2] (h3.at 0) ⟨rfl, rfl, rfl, rfl⟩ rfl rfl rfl rfl ?_
 have h4 := h1.ext x1
 have h5 := h2.ext x1
 obtain ⟨y1, h6, H⟩ := bind_some H
 refine RW.callF (.inl rfl) ent10 ⟨rfl, rfl, rfl, rfl⟩ rfl rfl (hermitagelaw8_Heavy.calls p0 A1 c_1 A2 c_2 _ _ h4.all hl1 h5.all hl2 h6) ?_
 rintro _ w2 ⟨rfl, x2⟩
 refine ⟨_, rfl, x2, ?_⟩
 have sx2 := x2.size
 refine RW.done ?_
 refine NW.next ?_
 by_cases c1 : y1 = true
 ·
  rw [if_pos c1] at H
  refine CW.cond_t rfl (c1) ?_
  refine CW.seq ?_
  refine CW.lex [.W] rfl ?_
  refine RW.pure tabOk 1 rfl ?_
  refine RW.done ?_
  refine NW.next ?_
  refine CW.ret ?_
  refine NW.ret_then ?_
  obtain rfl := Option.some.inj H
  have h7 := Ext.trans (Ext.trans x0 x1) x2
  exact NW.ret1 rfl (by rfl) ⟨rfl, h7⟩
 ·
  rw [if_neg c1] at H
  refine CW.cond_f rfl (bool_f c1) ?_
  refine CW.skip ?_
  refine NW.next ?_
  refine CW.seq ?_
  refine CW.lex [.W, .L, .X, .X, .M] rfl ?_
  refine RW.pure tabOk 1 rfl ?_
  have h8 := h3.ext x2
  refine RW.load tabOk [.int .i64 p0.T.Dev, .int .i64 p0.T.Size, .slice A1 p0.T.List_.length c_1] ((h8.at 0).take 3 rfl) ⟨rfl, rfl, rfl, rfl⟩ rfl rfl rfl rfl ?_
  have h9 := h4.ext x2
  obtain ⟨y2, h10, H⟩ := bind_some H
  refine RW.callF (.inl rfl) ent21 ⟨rfl, rfl, rfl, rfl⟩ rfl rfl (hermitageref0_CopyTable.calls k p0.T A1 c_1 _ _ h9.all hl1 h10) ?_
  rintro _ w3 ⟨A3, c_3, rfl, x3, h11⟩
  refine ⟨_, rfl, x3, ?_⟩
  have sx3 := x3.size
  have h12 : Ow kEntry 45 w3.heap (okL [(w2.heap.size, some w3.heap.size, some 45)]) (okL []) A3 c_3 y2.List_ := h11.close
  refine RW.alloc tabOk (.inl rfl) ⟨rfl, rfl, rfl, rfl⟩ rfl rfl ?_
  intro b2 w4 x4 l2 h13
  have sx4 := x4.size
  have ltb2 := h13.lt
  refine RW.storeBox tabOk h13 [.int .i64 y2.Dev, .int .i64 y2.Size, .slice A3 y2.List_.length c_3] ⟨rfl, rfl, rfl⟩ rfl rfl rfl rfl rfl rfl rfl rfl ?_
  intro w5 x5 h14
  have h15 : Box w5.heap b2 24 [.int .i64 y2.Dev, .int .i64 y2.Size, .slice A3 y2.List_.length c_3] := h14
  have sx5 := x5.size
  refine RW.done ?_
  refine NW.next ?_
  refine CW.seq ?_
  refine CW.seq ?_
  refine CW.lex [.W] rfl ?_
  refine RW.pure tabOk 1 rfl ?_
  refine RW.done ?_
  refine NW.next ?_
  refine CW.block ?_
  refine CW.loop (fun n1 a w6 => ∃ (it4_0 : Int) (ib2_0_0 : Int) (ib2_1_0 : Int) (lb2_2_0 : List Entry) (Ab2_2_0 : Option Addr) (cb2_2_0 : Nat), Sat 37 [(1, .pointer (some ⟨b1, 0, none⟩)), (3, .pointer (some ⟨b2, 0, none⟩)), (4, .int .i64 it4_0)] a ∧ w5.heap.size ≤ w6.heap.size ∧ Sl kEntry w6.heap (okL [(0, some w.heap.size, none)]) A1 p0.T.List_ ∧ Sl khermitagelaw8Act w6.heap (okL [(0, some w.heap.size, none)]) A2 p0.A ∧ Ow kEntry 45 w6.heap (okL [(w2.heap.size, none, some 45)]) (okL []) Ab2_2_0 cb2_2_0 lb2_2_0 ∧ Ext w w6 ∧ Box w6.heap b1 27 [.int .i64 p0.T.Dev, .int .i64 p0.T.Size, .slice A1 p0.T.List_.length c_1, .slice A2 p0.A.length c_2] ∧ Box w6.heap b2 24 [.int .i64 ib2_0_0, .int .i64 ib2_1_0, .slice Ab2_2_0 lb2_2_0.length cb2_2_0] ∧ hermitagelaw8_TableExact.l0 p0 k n1 it4_0 ib2_0_0 ib2_1_0 lb2_2_0 = some r) k ?_ ?_
  have h16 := ((h9.ext x3).ext x4).turnB x5 h13 ⟨.inr (by omega), trivial⟩
  have h17 := (((h5.ext x2).ext x3).ext x4).turnB x5 h13 ⟨.inr (by omega), trivial⟩
  have h18 := (h12.ext x4).turnB x5 h13 ⟨.inl (show (45 : Nat) ≠ 24 by decide), trivial⟩ trivial
  have h19 := Ext.turnB (Ext.trans (Ext.trans (Ext.trans (Ext.trans x0 x1) x2) x3) x4) x5 (by omega)
  have h20 := ((h8.ext x3).ext x4).turnB x5 (by omega)
  · exact fun a ha => ⟨0, y2.Dev, y2.Size, y2.List_, A3, c_3, ha.sub ⟨rfl, rfl, rfl, trivial⟩, by omega, h16, h17, (h18.sub ⟨(.inl ⟨by omega, trivial, rfl⟩), trivial⟩ trivial), h19, h20, h15, H⟩
  intro n1 a w6 hI hp
  obtain ⟨it4_0, ib2_0_0, ib2_1_0, lb2_2_0, Ab2_2_0, cb2_2_0, hS, hle, gF1_0, gF2_0, fb2_2_0, x0_0, gb1_0, gb2_0, H⟩ := hI
  cases n1 with
  | zero => cases H
  | succ n1 =>
   rw [hermitagelaw8_TableExact.l0] at H
   refine CW.go hp hS ?_
   have h21 : Ow kEntry 45 w6.heap (okL [(w2.heap.size, some w6.heap.size, some 45)]) (okL []) Ab2_2_0 cb2_2_0 lb2_2_0 := fb2_2_0.close
   refine CW.seq ?_
   refine CW.seqJ (fun a w7 => ∃ (bt20_1 : Bool), Sat 37 [(1, .pointer (some ⟨b1, 0, none⟩)), (3, .pointer (some ⟨b2, 0, none⟩)), (4, .int .i64 it4_0), (20, .bool bt20_1)] a ∧ w6.heap.size ≤ w7.heap.size ∧ Sl kEntry w7.heap (okL [(0, some w.heap.size, none)]) A1 p0.T.List_ ∧ Sl khermitagelaw8Act w7.heap (okL [(0, some w.heap.size, none)]) A2 p0.A ∧ Ow kEntry 45 w7.heap (okL [(w2.heap.size, some w6.heap.size, some 45)]) (okL []) Ab2_2_0 cb2_2_0 lb2_2_0 ∧ Ext w w7 ∧ Box w7.heap b1 27 [.int .i64 p0.T.Dev, .int .i64 p0.T.Size, .slice A1 p0.T.List_.length c_1, .slice A2 p0.A.length c_2] ∧ Box w7.heap b2 24 [.int .i64 ib2_0_0, .int .i64 ib2_1_0, .slice Ab2_2_0 lb2_2_0.length cb2_2_0] ∧ hermitagelaw8_TableExact.j0 p0 k it4_0 ib2_0_0 ib2_1_0 lb2_2_0 (hermitagelaw8_TableExact.l0 p0 k n1) bt20_1 = some r) ?_ ?_
   ·
    refine CW.lex [.W, .W, .L, .W, .W, .W, .W, .W, .W] rfl ?_
    refine RW.pure tabOk 2 rfl ?_
    refine RW.load tabOk [.slice A2 p0.A.length c_2] (gb1_0.at 3) ⟨rfl, rfl, rfl, rfl⟩ rfl rfl rfl rfl ?_
    refine RW.pure tabOk 3 rfl ?_
    by_cases c2 : it4_0 < (p0.A.length : Int)
    ·
     rw [if_pos c2] at H
     refine RW.bool 17 (b' := true) (decide_eq_true c2) rfl ?_
     refine RW.pure tabOk 3 rfl ?_
     refine RW.done ?_
     exact NW.J fun a ha => ⟨(decide (it4_0 < 14)), ha.sub ⟨rfl, rfl, rfl, rfl, trivial⟩, by omega, gF1_0, gF2_0, h21, x0_0, gb1_0, gb2_0, H⟩
    ·
     rw [if_neg c2] at H
     refine RW.bool 17 (b' := false) (decide_eq_false c2) rfl ?_
     refine RW.pure tabOk 3 rfl ?_
     refine RW.done ?_
     exact NW.J fun a ha => ⟨false, ha.sub ⟨rfl, rfl, rfl, rfl, trivial⟩, by omega, gF1_0, gF2_0, h21, x0_0, gb1_0, gb2_0, H⟩
   intro a w7 hJ hp
   obtain ⟨bt20_1, hS, hle, gF1_1, gF2_1, gL0_b2_2_1, x0_1, gb1_1, gb2_1, H⟩ := hJ
   unfold hermitagelaw8_TableExact.j0 at H
   refine CW.go hp hS ?_
   by_cases c3 : bt20_1 = true
   ·
    rw [if_pos c3] at H
    refine CW.cond_t rfl (c3) ?_
    refine CW.skip ?_
    refine NW.next ?_
    refine CW.seq ?_
    refine CW.block ?_
    refine CW.seqJ (fun a w8 => ∃ (bt6_2 : Bool) (bk5_2 : Nat) (ibk5_2_0_2 : Int) (ibk5_2_1_2 : Int) (lbk5_2_2_2 : List Entry) (Abk5_2_2_2 : Option Addr) (cbk5_2_2_2 : Nat), Sat 37 [(1, .pointer (some ⟨b1, 0, none⟩)), (3, .pointer (some ⟨b2, 0, none⟩)), (4, .int .i64 it4_0), (5, .pointer (some ⟨bk5_2, 0, none⟩)), (6, .bool bt6_2)] a ∧ w7.heap.size ≤ w8.heap.size ∧ Sl kEntry w8.heap (okL [(0, some w.heap.size, none)]) A1 p0.T.List_ ∧ Sl khermitagelaw8Act w8.heap (okL [(0, some w.heap.size, none)]) A2 p0.A ∧ Ow kEntry 45 w8.heap (okL [(w2.heap.size, some w6.heap.size, some 45)]) (okL []) Ab2_2_0 cb2_2_0 lb2_2_0 ∧ Ow kEntry 45 w8.heap (okL [(w2.heap.size, some w6.heap.size, some 45), (w7.heap.size, none, some 45)]) (okL []) Abk5_2_2_2 cbk5_2_2_2 lbk5_2_2_2 ∧ Ext w w8 ∧ Box w8.heap b1 27 [.int .i64 p0.T.Dev, .int .i64 p0.T.Size, .slice A1 p0.T.List_.length c_1, .slice A2 p0.A.length c_2] ∧ Box w8.heap b2 24 [.int .i64 ib2_0_0, .int .i64 ib2_1_0, .slice Ab2_2_0 lb2_2_0.length cb2_2_0] ∧ Box w8.heap bk5_2 24 [.int .i64 ibk5_2_0_2, .int .i64 ibk5_2_1_2, .slice Abk5_2_2_2 lbk5_2_2_2.length cbk5_2_2_2] ∧ w7.heap.size ≤ bk5_2 ∧ hermitagelaw8_TableExact.j1 it4_0 (hermitagelaw8_TableExact.l0 p0 k n1) bt6_2 ibk5_2_0_2 ibk5_2_1_2 lbk5_2_2_2 = some r) ?_ ?_
    ·
     refine CW.ord [0, 0, 2, 0, 14, 30, 63, 127, 255, 255, 0, 1535, 4095] (ofL [(1, .W), (3, .W), (0, .L), (2, .L), (4, .W), (5, .L)] (.two 6 .M (ofL [(7, .W), (8, .W), (9, .W), (10, .X), (11, .M), (12, .W)] .nil) 10 .X (ofL [(6, .M), (7, .W), (8, .W), (9, .W), (11, .M), (12, .W)] .nil))) mixed (by kernel_rfl) ?_
     intro w9 x6
     have sx6 := x6.size
     refine RW.pure tabOk 2 rfl ?_
     have h22 := gb2_1.ext x6
     refine RW.load tabOk [.int .i64 ib2_0_0, .int .i64 ib2_1_0, .slice Ab2_2_0 lb2_2_0.length cb2_2_0] (h22.at 0) ⟨rfl, rfl, rfl, rfl⟩ rfl rfl rfl rfl ?_
     have h23 := gb1_1.ext x6
     refine RW.load tabOk [.slice A2 p0.A.length c_2] (h23.at 3) ⟨rfl, rfl, rfl, rfl⟩ rfl rfl rfl rfl ?_
     obtain ⟨g1, H⟩ := guard_some H
     have h24 := gF2_1.ext x6
     obtain ⟨ad1, e1, a1⟩ := khermitagelaw8Act_at h24 g1.1 g1.2
     refine RW.index tabOk g1.1 g1.2 e1 ⟨rfl, rfl, rfl, rfl⟩ rfl rfl rfl rfl rfl rfl ?_
     refine RW.load tabOk [.int .i64 ((rd p0.A it4_0).Do), .int .i64 ((rd p0.A it4_0).N), .int .i64 ((rd p0.A it4_0).M), .int .i64 (((rd p0.A it4_0).P).Dev), .int .i64 (((rd p0.A it4_0).P).At)] a1 ⟨rfl, rfl, rfl, rfl⟩ rfl rfl rfl rfl ?_
     refine RW.two ?_ ?_
     ·
      refine RW.callFM (R := fun e w10 => ∃ (it30_0_3 : Int) (it30_1_3 : Int) (lt30_2_3 : List Entry) (At30_2_3 : Option Addr) (ct30_2_3 : Nat) (bt30_3_3 : Bool), e = .returned (.tuple #[.agg #[.int .i64 it30_0_3, .int .i64 it30_1_3, .slice At30_2_3 lt30_2_3.length ct30_2_3], .bool bt30_3_3]) ∧ w9.heap.size ≤ w10.heap.size ∧ Ow kEntry 45 w10.heap (okL [(w2.heap.size, some w6.heap.size, some 45), (w9.heap.size, none, some 45)]) (okL []) At30_2_3 ct30_2_3 lt30_2_3 ∧ Sl kEntry w10.heap (okL [(0, some w.heap.size, none)]) A1 p0.T.List_ ∧ Sl khermitagelaw8Act w10.heap (okL [(0, some w.heap.size, none)]) A2 p0.A ∧ Ow kEntry 45 w10.heap (okL [(w2.heap.size, some w6.heap.size, some 45)]) (okL []) Ab2_2_0 cb2_2_0 lb2_2_0 ∧ Ext w w10 ∧ Box w10.heap b1 27 [.int .i64 p0.T.Dev, .int .i64 p0.T.Size, .slice A1 p0.T.List_.length c_1, .slice A2 p0.A.length c_2] ∧ Box w10.heap b2 24 [.int .i64 ib2_0_0, .int .i64 ib2_1_0, .slice Ab2_2_0 lb2_2_0.length cb2_2_0] ∧ hermitagelaw8_TableExact.j2 it4_0 (hermitagelaw8_TableExact.l0 p0 k n1) it30_0_3 it30_1_3 lt30_2_3 bt30_3_3 = some r) ent22 ⟨rfl, rfl, rfl, rfl⟩ rfl rfl rfl ?_ ?_
      ·
       refine calls_start Try.func22 rfl 223 rfl [.agg #[.int .i64 ib2_0_0, .int .i64 ib2_1_0, .slice Ab2_2_0 lb2_2_0.length cb2_2_0], .agg #[.int .i64 ((rd p0.A it4_0).Do), .int .i64 ((rd p0.A it4_0).N), .int .i64 ((rd p0.A it4_0).M), .int .i64 (((rd p0.A it4_0).P).Dev), .int .i64 (((rd p0.A it4_0).P).At)]] rfl ?_
       refine CW.seq ?_
       refine CW.lex [.X, .X, .X, .W] rfl ?_
       refine RW.box (cs := [.int .i64 ib2_0_0, .int .i64 ib2_1_0, .slice Ab2_2_0 lb2_2_0.length cb2_2_0]) (.inl rfl) ⟨rfl, rfl, rfl, rfl⟩ rfl rfl rfl ?_
       intro b3 w11 x7 l3 h25
       have sx7 := x7.size
       have ltb3 := h25.lt
       refine RW.box (cs := [.int .i64 ((rd p0.A it4_0).Do), .int .i64 ((rd p0.A it4_0).N), .int .i64 ((rd p0.A it4_0).M), .int .i64 (((rd p0.A it4_0).P).Dev), .int .i64 (((rd p0.A it4_0).P).At)]) (.inl rfl) ⟨rfl, rfl, rfl, rfl⟩ rfl rfl rfl ?_
       intro b4 w12 x8 l4 h26
       have sx8 := x8.size
       have ltb4 := h26.lt
       refine RW.alloc tabOk (.inl rfl) ⟨rfl, rfl, rfl, rfl⟩ rfl rfl ?_
       intro b5 w13 x9 l5 h27
       have sx9 := x9.size
       have ltb5 := h27.lt
       refine RW.pure tabOk 1 rfl ?_
       refine RW.done ?_
       refine NW.next ?_
       refine CW.seq ?_
       refine CW.lex [.L, .X, .X, .M] rfl ?_
       have h28 := (h25.ext x8).ext x9
       refine RW.load tabOk [.int .i64 ib2_0_0, .int .i64 ib2_1_0, .slice Ab2_2_0 lb2_2_0.length cb2_2_0] (h28.at 0) ⟨rfl, rfl, rfl, rfl⟩ rfl rfl rfl rfl ?_
       have h29 := (((gL0_b2_2_1.ext x6).ext x7).ext x8).ext x9
       obtain ⟨y3, h30, H⟩ := bind_some H
       refine RW.callF (.inl rfl) ent21 ⟨rfl, rfl, rfl, rfl⟩ rfl rfl (hermitageref0_CopyTable.calls k (⟨ib2_0_0, ib2_1_0, lb2_2_0⟩ : Table) Ab2_2_0 cb2_2_0 _ _ h29.all h29.len h30) ?_
       rintro _ w14 ⟨A4, c_4, rfl, x10, h31⟩
       refine ⟨_, rfl, x10, ?_⟩
       have sx10 := x10.size
       have h32 : Ow kEntry 45 w14.heap (okL [(w13.heap.size, some w14.heap.size, some 45)]) (okL []) A4 c_4 y3.List_ := h31.close
       refine RW.alloc tabOk (.inl rfl) ⟨rfl, rfl, rfl, rfl⟩ rfl rfl ?_
       intro b6 w15 x11 l6 h33
       have sx11 := x11.size
       have ltb6 := h33.lt
       refine RW.storeBox tabOk h33 [.int .i64 y3.Dev, .int .i64 y3.Size, .slice A4 y3.List_.length c_4] ⟨rfl, rfl, rfl⟩ rfl rfl rfl rfl rfl rfl rfl rfl ?_
       intro w16 x12 h34
       have h35 : Box w16.heap b6 24 [.int .i64 y3.Dev, .int .i64 y3.Size, .slice A4 y3.List_.length c_4] := h34
       have sx12 := x12.size
       refine RW.done ?_
       refine NW.next ?_
       refine CW.seq ?_
       refine CW.lex [.L, .X, .W] rfl ?_
       have h36 := ((h28.ext x10).ext x11).turnB x12 (by omega)
       refine RW.load tabOk [.int .i64 ib2_0_0, .int .i64 ib2_1_0, .slice Ab2_2_0 lb2_2_0.length cb2_2_0] (h36.at 0) ⟨rfl, rfl, rfl, rfl⟩ rfl rfl rfl rfl ?_
       have h37 := ((h29.ext x10).ext x11).turnB x12 h33 ⟨.inl (show (45 : Nat) ≠ 24 by decide), trivial⟩ trivial
       obtain ⟨y4, h38, H⟩ := bind_some H
       refine RW.callF (.inl rfl) ent19 ⟨rfl, rfl, rfl, rfl⟩ rfl rfl (hermitageref7_Table.calls k (⟨ib2_0_0, ib2_1_0, lb2_2_0⟩ : Table) Ab2_2_0 cb2_2_0 _ _ h37.all h37.len h38) ?_
       rintro _ w17 ⟨rfl, x13⟩
       refine ⟨_, rfl, x13, ?_⟩
       have sx13 := x13.size
       refine RW.pure tabOk 1 rfl ?_
       refine RW.done ?_
       refine NW.next ?_
       refine CW.seq ?_
       refine CW.lex [.W] rfl ?_
       refine RW.pure tabOk 1 rfl ?_
       refine RW.done ?_
       refine NW.next ?_
       refine CW.seq ?_
       refine CW.lex [.X, .X] rfl ?_
       refine RW.alloc tabOk (.inl rfl) ⟨rfl, rfl, rfl, rfl⟩ rfl rfl ?_
       intro b7 w18 x14 l7 h39
       have sx14 := x14.size
       have ltb7 := h39.lt
       refine RW.alloc tabOk (.inl rfl) ⟨rfl, rfl, rfl, rfl⟩ rfl rfl ?_
       intro b8 w19 x15 l8 h40
       have sx15 := x15.size
       have ltb8 := h40.lt
       refine RW.done ?_
       refine NW.next ?_
       refine CW.seq ?_
       refine CW.lex [.W] rfl ?_
       refine RW.pure tabOk 1 rfl ?_
       refine RW.done ?_
       refine NW.next ?_
       refine CW.seqJ (fun a w20 => ∃ (it8_4 : Int) (it11_4 : Int) (ib7_0_4 : Int) (ib7_1_4 : Int) (lb7_2_4 : List Entry) (Ab7_2_4 : Option Addr) (cb7_2_4 : Nat) (ib8_0_4 : Int) (ib8_1_4 : Int) (lb8_2_4 : List Entry) (Ab8_2_4 : Option Addr) (cb8_2_4 : Nat) (mid0_4 : Nat), Sat 223 [(2, .pointer (some ⟨b3, 0, none⟩)), (4, .pointer (some ⟨b5, 0, none⟩)), (6, .pointer (some ⟨b6, 0, none⟩)), (7, .bool y4), (8, .int .i64 it8_4), (9, .pointer (some ⟨b7, 0, none⟩)), (10, .pointer (some ⟨b8, 0, none⟩)), (11, .int .i64 it11_4)] a ∧ w19.heap.size ≤ w20.heap.size ∧ Ow kEntry 45 w20.heap (okL [(w2.heap.size, some w6.heap.size, some 45)]) (okL []) Ab2_2_0 cb2_2_0 lb2_2_0 ∧ Ow kEntry 45 w20.heap (okL [(w13.heap.size, some w14.heap.size, some 45)]) (okL []) A4 c_4 y3.List_ ∧ Ow kEntry 45 w20.heap (okL [(w19.heap.size, some mid0_4, some 45)]) (okL []) Ab7_2_4 cb7_2_4 lb7_2_4 ∧ Ow kEntry 45 w20.heap (okL [(mid0_4, none, some 45)]) (okL []) Ab8_2_4 cb8_2_4 lb8_2_4 ∧ Sl kEntry w20.heap (okL [(0, some w.heap.size, none)]) A1 p0.T.List_ ∧ Sl khermitagelaw8Act w20.heap (okL [(0, some w.heap.size, none)]) A2 p0.A ∧ Ext w w20 ∧ Box w20.heap b3 24 [.int .i64 ib2_0_0, .int .i64 ib2_1_0, .slice Ab2_2_0 lb2_2_0.length cb2_2_0] ∧ Box w20.heap b5 24 [.int .i64 0, .int .i64 0, .slice none 0 0] ∧ Box w20.heap b6 24 [.int .i64 y3.Dev, .int .i64 y3.Size, .slice A4 y3.List_.length c_4] ∧ Box w20.heap b7 24 [.int .i64 ib7_0_4, .int .i64 ib7_1_4, .slice Ab7_2_4 lb7_2_4.length cb7_2_4] ∧ Box w20.heap b8 24 [.int .i64 ib8_0_4, .int .i64 ib8_1_4, .slice Ab8_2_4 lb8_2_4.length cb8_2_4] ∧ Box w20.heap b1 27 [.int .i64 p0.T.Dev, .int .i64 p0.T.Size, .slice A1 p0.T.List_.length c_1, .slice A2 p0.A.length c_2] ∧ Box w20.heap b2 24 [.int .i64 ib2_0_0, .int .i64 ib2_1_0, .slice Ab2_2_0 lb2_2_0.length cb2_2_0] ∧ w19.heap.size ≤ mid0_4 ∧ mid0_4 ≤ w20.heap.size ∧ hermitagelaw8_TableExact.j3 k it4_0 ib2_0_0 ib2_1_0 lb2_2_0 y3 y4 (hermitagelaw8_TableExact.l0 p0 k n1) it8_4 it11_4 ib7_0_4 ib7_1_4 lb7_2_4 ib8_0_4 ib8_1_4 lb8_2_4 = some r) ?_ ?_
       ·
        refine CW.seq ?_
        refine CW.lex [.W, .L, .X] rfl ?_
        refine RW.pure tabOk 1 rfl ?_
        have h41 := ((((((h26.ext x9).ext x10).ext x11).turnB x12 (by omega)).ext x13).ext x14).ext x15
        refine RW.load tabOk [.int .i64 ((rd p0.A it4_0).Do)] ((h41.at 0).take 1 rfl) ⟨rfl, rfl, rfl, rfl⟩ rfl rfl rfl rfl ?_
        obtain ⟨y5, h42, H⟩ := bind_some H
        refine RW.callF (.inl rfl) ent11 ⟨rfl, rfl, rfl, rfl⟩ rfl rfl (hermitagelaw0_Within.calls ((rd p0.A it4_0).Do) 10 _ _ h42) ?_
        rintro _ w21 ⟨rfl, x16⟩
        refine ⟨_, rfl, x16, ?_⟩
        have sx16 := x16.size
        refine RW.done ?_
        refine NW.next ?_
        refine CW.block ?_
        refine CW.seqJ (fun a w22 => ∃ (bt67_5 : Bool), Sat 223 [(2, .pointer (some ⟨b3, 0, none⟩)), (3, .pointer (some ⟨b4, 0, none⟩)), (4, .pointer (some ⟨b5, 0, none⟩)), (6, .pointer (some ⟨b6, 0, none⟩)), (7, .bool y4), (8, .int .i64 1), (9, .pointer (some ⟨b7, 0, none⟩)), (10, .pointer (some ⟨b8, 0, none⟩)), (30, .int .i64 y5), (67, .bool bt67_5)] a ∧ w21.heap.size ≤ w22.heap.size ∧ Ow kEntry 45 w22.heap (okL [(w2.heap.size, some w6.heap.size, some 45)]) (okL []) Ab2_2_0 cb2_2_0 lb2_2_0 ∧ Ow kEntry 45 w22.heap (okL [(w13.heap.size, some w14.heap.size, some 45)]) (okL []) A4 c_4 y3.List_ ∧ Sl kEntry w22.heap (okL [(0, some w.heap.size, none)]) A1 p0.T.List_ ∧ Sl khermitagelaw8Act w22.heap (okL [(0, some w.heap.size, none)]) A2 p0.A ∧ Ext w w22 ∧ Box w22.heap b3 24 [.int .i64 ib2_0_0, .int .i64 ib2_1_0, .slice Ab2_2_0 lb2_2_0.length cb2_2_0] ∧ Box w22.heap b4 35 [.int .i64 ((rd p0.A it4_0).Do), .int .i64 ((rd p0.A it4_0).N), .int .i64 ((rd p0.A it4_0).M), .int .i64 (((rd p0.A it4_0).P).Dev), .int .i64 (((rd p0.A it4_0).P).At)] ∧ Box w22.heap b5 24 [.int .i64 0, .int .i64 0, .slice none 0 0] ∧ Box w22.heap b6 24 [.int .i64 y3.Dev, .int .i64 y3.Size, .slice A4 y3.List_.length c_4] ∧ Box w22.heap b7 24 [.int .i64 0, .int .i64 0, .slice none 0 0] ∧ Box w22.heap b8 24 [.int .i64 0, .int .i64 0, .slice none 0 0] ∧ Box w22.heap b1 27 [.int .i64 p0.T.Dev, .int .i64 p0.T.Size, .slice A1 p0.T.List_.length c_1, .slice A2 p0.A.length c_2] ∧ Box w22.heap b2 24 [.int .i64 ib2_0_0, .int .i64 ib2_1_0, .slice Ab2_2_0 lb2_2_0.length cb2_2_0] ∧ hermitagelaw8_TableExact.j4 p0 k it4_0 ib2_0_0 ib2_1_0 lb2_2_0 y3 y4 y5 (hermitagelaw8_TableExact.l0 p0 k n1) bt67_5 = some r) ?_ ?_
        ·
         refine CW.seq ?_
         refine CW.lex [.W, .W] rfl ?_
         refine RW.pure tabOk 2 rfl ?_
         refine RW.done ?_
         refine NW.next ?_
         by_cases c4 : y5 = 0
         ·
          rw [if_pos c4] at H
          refine CW.cond_t rfl (beq_t c4) ?_
          refine CW.skip ?_
          have h43 := (((h37.ext x13).ext x14).ext x15).ext x16
          have h44 := (((((h32.ext x11).turnB x12 h33 ⟨.inl (show (45 : Nat) ≠ 24 by decide), trivial⟩ trivial).ext x13).ext x14).ext x15).ext x16
          have h45 := ((((((((((gF1_1.ext x6).ext x7).ext x8).ext x9).ext x10).ext x11).turnB x12 h33 ⟨.inr (by omega), trivial⟩).ext x13).ext x14).ext x15).ext x16
          have h46 := (((((((((h24.ext x7).ext x8).ext x9).ext x10).ext x11).turnB x12 h33 ⟨.inr (by omega), trivial⟩).ext x13).ext x14).ext x15).ext x16
          have h47 := Ext.trans (Ext.trans (Ext.trans (Ext.trans (Ext.turnB (Ext.trans (Ext.trans (Ext.trans (Ext.trans (Ext.trans (Ext.trans x0_1 x6) x7) x8) x9) x10) x11) x12 (by omega)) x13) x14) x15) x16
          have h48 := (((h36.ext x13).ext x14).ext x15).ext x16
          have h49 := h41.ext x16
          have h50 := ((((((h27.ext x10).ext x11).turnB x12 (by omega)).ext x13).ext x14).ext x15).ext x16
          have h51 := (((h35.ext x13).ext x14).ext x15).ext x16
          have h52 := (h39.ext x15).ext x16
          have h53 := h40.ext x16
          have h54 := (((((((((h23.ext x7).ext x8).ext x9).ext x10).ext x11).turnB x12 (by omega)).ext x13).ext x14).ext x15).ext x16
          have h55 := (((((((((h22.ext x7).ext x8).ext x9).ext x10).ext x11).turnB x12 (by omega)).ext x13).ext x14).ext x15).ext x16
          exact NW.J fun a ha => ⟨(y5 == 0), ha.sub ⟨rfl, rfl, rfl, rfl, rfl, rfl, rfl, rfl, rfl, rfl, trivial⟩, by omega, h43, h44, h45, h46, h47, h48, h49, h50, h51, h52, h53, h54, h55, H⟩
         ·
          rw [if_neg c4] at H
          refine CW.cond_f rfl (beq_f c4) ?_
          refine CW.seq ?_
          refine CW.lex [.W, .W] rfl ?_
          refine RW.pure tabOk 2 rfl ?_
          refine RW.done ?_
          refine NW.next ?_
          by_cases c5 : y5 = 1
          ·
           rw [if_pos c5] at H
           refine CW.cond_t rfl (beq_t c5) ?_
           refine CW.skip ?_
           have h56 := (((h37.ext x13).ext x14).ext x15).ext x16
           have h57 := (((((h32.ext x11).turnB x12 h33 ⟨.inl (show (45 : Nat) ≠ 24 by decide), trivial⟩ trivial).ext x13).ext x14).ext x15).ext x16
           have h58 := ((((((((((gF1_1.ext x6).ext x7).ext x8).ext x9).ext x10).ext x11).turnB x12 h33 ⟨.inr (by omega), trivial⟩).ext x13).ext x14).ext x15).ext x16
           have h59 := (((((((((h24.ext x7).ext x8).ext x9).ext x10).ext x11).turnB x12 h33 ⟨.inr (by omega), trivial⟩).ext x13).ext x14).ext x15).ext x16
           have h60 := Ext.trans (Ext.trans (Ext.trans (Ext.trans (Ext.turnB (Ext.trans (Ext.trans (Ext.trans (Ext.trans (Ext.trans (Ext.trans x0_1 x6) x7) x8) x9) x10) x11) x12 (by omega)) x13) x14) x15) x16
           have h61 := (((h36.ext x13).ext x14).ext x15).ext x16
           have h62 := h41.ext x16
           have h63 := ((((((h27.ext x10).ext x11).turnB x12 (by omega)).ext x13).ext x14).ext x15).ext x16
           have h64 := (((h35.ext x13).ext x14).ext x15).ext x16
           have h65 := (h39.ext x15).ext x16
           have h66 := h40.ext x16
           have h67 := (((((((((h23.ext x7).ext x8).ext x9).ext x10).ext x11).turnB x12 (by omega)).ext x13).ext x14).ext x15).ext x16
           have h68 := (((((((((h22.ext x7).ext x8).ext x9).ext x10).ext x11).turnB x12 (by omega)).ext x13).ext x14).ext x15).ext x16
           exact NW.J fun a ha => ⟨(y5 == 1), ha.sub ⟨rfl, rfl, rfl, rfl, rfl, rfl, rfl, rfl, rfl, rfl, trivial⟩, by omega, h56, h57, h58, h59, h60, h61, h62, h63, h64, h65, h66, h67, h68, H⟩
          ·
           rw [if_neg c5] at H
           refine CW.cond_f rfl (beq_f c5) ?_
           refine CW.seq ?_
           refine CW.lex [.W, .W] rfl ?_
           refine RW.pure tabOk 2 rfl ?_
           refine RW.done ?_
           refine NW.next ?_
           by_cases c6 : y5 = 2
           ·
            rw [if_pos c6] at H
            refine CW.cond_t rfl (beq_t c6) ?_
            refine CW.skip ?_
            have h69 := (((h37.ext x13).ext x14).ext x15).ext x16
            have h70 := (((((h32.ext x11).turnB x12 h33 ⟨.inl (show (45 : Nat) ≠ 24 by decide), trivial⟩ trivial).ext x13).ext x14).ext x15).ext x16
            have h71 := ((((((((((gF1_1.ext x6).ext x7).ext x8).ext x9).ext x10).ext x11).turnB x12 h33 ⟨.inr (by omega), trivial⟩).ext x13).ext x14).ext x15).ext x16
            have h72 := (((((((((h24.ext x7).ext x8).ext x9).ext x10).ext x11).turnB x12 h33 ⟨.inr (by omega), trivial⟩).ext x13).ext x14).ext x15).ext x16
            have h73 := Ext.trans (Ext.trans (Ext.trans (Ext.trans (Ext.turnB (Ext.trans (Ext.trans (Ext.trans (Ext.trans (Ext.trans (Ext.trans x0_1 x6) x7) x8) x9) x10) x11) x12 (by omega)) x13) x14) x15) x16
            have h74 := (((h36.ext x13).ext x14).ext x15).ext x16
            have h75 := h41.ext x16
            have h76 := ((((((h27.ext x10).ext x11).turnB x12 (by omega)).ext x13).ext x14).ext x15).ext x16
            have h77 := (((h35.ext x13).ext x14).ext x15).ext x16
            have h78 := (h39.ext x15).ext x16
            have h79 := h40.ext x16
            have h80 := (((((((((h23.ext x7).ext x8).ext x9).ext x10).ext x11).turnB x12 (by omega)).ext x13).ext x14).ext x15).ext x16
            have h81 := (((((((((h22.ext x7).ext x8).ext x9).ext x10).ext x11).turnB x12 (by omega)).ext x13).ext x14).ext x15).ext x16
            exact NW.J fun a ha => ⟨(y5 == 2), ha.sub ⟨rfl, rfl, rfl, rfl, rfl, rfl, rfl, rfl, rfl, rfl, trivial⟩, by omega, h69, h70, h71, h72, h73, h74, h75, h76, h77, h78, h79, h80, h81, H⟩
           ·
            rw [if_neg c6] at H
            refine CW.cond_f rfl (beq_f c6) ?_
            refine CW.lex [.W, .W] rfl ?_
            refine RW.pure tabOk 2 rfl ?_
            refine RW.done ?_
            have h82 := (((h37.ext x13).ext x14).ext x15).ext x16
            have h83 := (((((h32.ext x11).turnB x12 h33 ⟨.inl (show (45 : Nat) ≠ 24 by decide), trivial⟩ trivial).ext x13).ext x14).ext x15).ext x16
            have h84 := ((((((((((gF1_1.ext x6).ext x7).ext x8).ext x9).ext x10).ext x11).turnB x12 h33 ⟨.inr (by omega), trivial⟩).ext x13).ext x14).ext x15).ext x16
            have h85 := (((((((((h24.ext x7).ext x8).ext x9).ext x10).ext x11).turnB x12 h33 ⟨.inr (by omega), trivial⟩).ext x13).ext x14).ext x15).ext x16
            have h86 := Ext.trans (Ext.trans (Ext.trans (Ext.trans (Ext.turnB (Ext.trans (Ext.trans (Ext.trans (Ext.trans (Ext.trans (Ext.trans x0_1 x6) x7) x8) x9) x10) x11) x12 (by omega)) x13) x14) x15) x16
            have h87 := (((h36.ext x13).ext x14).ext x15).ext x16
            have h88 := h41.ext x16
            have h89 := ((((((h27.ext x10).ext x11).turnB x12 (by omega)).ext x13).ext x14).ext x15).ext x16
            have h90 := (((h35.ext x13).ext x14).ext x15).ext x16
            have h91 := (h39.ext x15).ext x16
            have h92 := h40.ext x16
            have h93 := (((((((((h23.ext x7).ext x8).ext x9).ext x10).ext x11).turnB x12 (by omega)).ext x13).ext x14).ext x15).ext x16
            have h94 := (((((((((h22.ext x7).ext x8).ext x9).ext x10).ext x11).turnB x12 (by omega)).ext x13).ext x14).ext x15).ext x16
            exact NW.J fun a ha => ⟨(y5 == 3), ha.sub ⟨rfl, rfl, rfl, rfl, rfl, rfl, rfl, rfl, rfl, rfl, trivial⟩, by omega, h82, h83, h84, h85, h86, h87, h88, h89, h90, h91, h92, h93, h94, H⟩
        intro a w22 hJ hp
        obtain ⟨bt67_5, hS, hle, gL0_b2_2_5, gF4_5, gF1_5, gF2_5, x0_5, gb3_5, gb4_5, gb5_5, gb6_5, gb7_5, gb8_5, gb1_5, gb2_5, H⟩ := hJ
        unfold hermitagelaw8_TableExact.j4 at H
        refine CW.go hp hS ?_
        by_cases c7 : bt67_5 = true
        ·
         rw [if_pos c7] at H
         refine CW.cond_t rfl (c7) ?_
         refine CW.seq ?_
         refine CW.lex [.L, .W, .L, .W, .L, .X, .W, .W, .W, .M, .W] rfl ?_
         refine RW.load tabOk [.int .i64 y3.Dev, .int .i64 y3.Size, .slice A4 y3.List_.length c_4] (gb6_5.at 0) ⟨rfl, rfl, rfl, rfl⟩ rfl rfl rfl rfl ?_
         refine RW.pure tabOk 1 rfl ?_
         refine RW.load tabOk [.int .i64 ((rd p0.A it4_0).N)] ((gb4_5.at 1).take 1 rfl) ⟨rfl, rfl, rfl, rfl⟩ rfl rfl rfl rfl ?_
         refine RW.pure tabOk 1 rfl ?_
         refine RW.load tabOk [.int .i64 (((rd p0.A it4_0).P).Dev), .int .i64 (((rd p0.A it4_0).P).At)] (gb4_5.at 3) ⟨rfl, rfl, rfl, rfl⟩ rfl rfl rfl rfl ?_
         obtain ⟨y6, h95, H⟩ := bind_some H
         refine RW.callF (.inl rfl) ent12 ⟨rfl, rfl, rfl, rfl⟩ rfl rfl (table_Add.calls k y3 A4 c_4 ((rd p0.A it4_0).N) ((rd p0.A it4_0).P) _ _ gF4_5.all gF4_5.len h95) ?_
         rintro _ w23 ⟨A5, c_5, rfl, x17, h96⟩
         refine ⟨_, rfl, x17, ?_⟩
         have sx17 := x17.size
         have h97 : Ow kEntry 45 w23.heap (okL [(w22.heap.size, some w23.heap.size, some 45)]) (okL []) A5 c_5 y6.1.List_ := h96.close
         refine RW.pure tabOk 3 rfl ?_
         have h98 := gb7_5.ext x17
         refine RW.storeBox tabOk h98 [.int .i64 y6.1.Dev, .int .i64 y6.1.Size, .slice A5 y6.1.List_.length c_5] ⟨rfl, rfl, rfl⟩ rfl rfl rfl rfl rfl rfl rfl rfl ?_
         intro w24 x18 h99
         have h100 : Box w24.heap b7 24 [.int .i64 y6.1.Dev, .int .i64 y6.1.Size, .slice A5 y6.1.List_.length c_5] := h99
         have sx18 := x18.size
         refine RW.pure tabOk 1 rfl ?_
         refine RW.done ?_
         refine NW.next ?_
         refine CW.seqJ (fun a w25 => ∃ (bt98_6 : Bool), Sat 223 [(2, .pointer (some ⟨b3, 0, none⟩)), (3, .pointer (some ⟨b4, 0, none⟩)), (4, .pointer (some ⟨b5, 0, none⟩)), (6, .pointer (some ⟨b6, 0, none⟩)), (7, .bool y4), (8, .int .i64 1), (9, .pointer (some ⟨b7, 0, none⟩)), (10, .pointer (some ⟨b8, 0, none⟩)), (11, .int .i64 y6.2), (98, .bool bt98_6)] a ∧ w24.heap.size ≤ w25.heap.size ∧ Ow kEntry 45 w25.heap (okL [(w2.heap.size, some w6.heap.size, some 45)]) (okL []) Ab2_2_0 cb2_2_0 lb2_2_0 ∧ Ow kEntry 45 w25.heap (okL [(w13.heap.size, some w14.heap.size, some 45)]) (okL []) A4 c_4 y3.List_ ∧ Ow kEntry 45 w25.heap (okL [(w22.heap.size, some w23.heap.size, some 45)]) (okL []) A5 c_5 y6.1.List_ ∧ Sl kEntry w25.heap (okL [(0, some w.heap.size, none)]) A1 p0.T.List_ ∧ Sl khermitagelaw8Act w25.heap (okL [(0, some w.heap.size, none)]) A2 p0.A ∧ Ext w w25 ∧ Box w25.heap b3 24 [.int .i64 ib2_0_0, .int .i64 ib2_1_0, .slice Ab2_2_0 lb2_2_0.length cb2_2_0] ∧ Box w25.heap b4 35 [.int .i64 ((rd p0.A it4_0).Do), .int .i64 ((rd p0.A it4_0).N), .int .i64 ((rd p0.A it4_0).M), .int .i64 (((rd p0.A it4_0).P).Dev), .int .i64 (((rd p0.A it4_0).P).At)] ∧ Box w25.heap b5 24 [.int .i64 0, .int .i64 0, .slice none 0 0] ∧ Box w25.heap b6 24 [.int .i64 y3.Dev, .int .i64 y3.Size, .slice A4 y3.List_.length c_4] ∧ Box w25.heap b7 24 [.int .i64 y6.1.Dev, .int .i64 y6.1.Size, .slice A5 y6.1.List_.length c_5] ∧ Box w25.heap b8 24 [.int .i64 0, .int .i64 0, .slice none 0 0] ∧ Box w25.heap b1 27 [.int .i64 p0.T.Dev, .int .i64 p0.T.Size, .slice A1 p0.T.List_.length c_1, .slice A2 p0.A.length c_2] ∧ Box w25.heap b2 24 [.int .i64 ib2_0_0, .int .i64 ib2_1_0, .slice Ab2_2_0 lb2_2_0.length cb2_2_0] ∧ hermitagelaw8_TableExact.j5 p0 k it4_0 ib2_0_0 ib2_1_0 lb2_2_0 y3 y4 y6 (hermitagelaw8_TableExact.l0 p0 k n1) bt98_6 = some r) ?_ ?_
         ·
          refine CW.ord [0, 1, 3, 7, 3, 19, 3, 67, 195, 511, 1023, 2047, 4095, 8191, 4095, 20479, 65535, 131071] (ofL [(0, .W), (1, .W), (2, .W), (6, .W), (3, .L), (4, .L), (7, .L), (8, .W), (5, .X), (9, .X), (10, .W), (11, .W), (12, .W), (14, .W), (13, .L), (15, .L), (16, .X), (17, .W)] .nil) mixed (by kernel_rfl) ?_
          intro w26 x19
          have sx19 := x19.size
          refine RW.pure tabOk 2 rfl ?_
          by_cases c8 : y4 = true
          ·
           rw [if_pos c8] at H
           refine RW.bool 82 (b' := true) (c8) rfl ?_
           refine RW.pure tabOk 2 rfl ?_
           have h101 := ((gb4_5.ext x17).turnB x18 (by omega)).ext x19
           refine RW.load tabOk [.int .i64 ((rd p0.A it4_0).N)] ((h101.at 1).take 1 rfl) ⟨rfl, rfl, rfl, rfl⟩ rfl rfl rfl rfl ?_
           have h102 := ((gb3_5.ext x17).turnB x18 (by omega)).ext x19
           refine RW.load tabOk [.int .i64 ib2_0_0, .int .i64 ib2_1_0, .slice Ab2_2_0 lb2_2_0.length cb2_2_0] (h102.at 0) ⟨rfl, rfl, rfl, rfl⟩ rfl rfl rfl rfl ?_
           refine RW.load tabOk [.int .i64 ib2_1_0] ((h102.at 1).take 1 rfl) ⟨rfl, rfl, rfl, rfl⟩ rfl rfl rfl rfl ?_
           refine RW.pure tabOk 1 rfl ?_
           have h103 := ((gL0_b2_2_5.ext x17).turnB x18 h98 ⟨.inl (show (45 : Nat) ≠ 24 by decide), trivial⟩ trivial).ext x19
           obtain ⟨y7, h104, H⟩ := bind_some H
           refine RW.callF (.inl rfl) ent52 ⟨rfl, rfl, rfl, rfl⟩ rfl rfl (hermitageref7_End.calls (⟨ib2_0_0, ib2_1_0, lb2_2_0⟩ : Table) Ab2_2_0 cb2_2_0 _ _ h103.all h103.len h104) ?_
           rintro _ w27 ⟨rfl, x20⟩
           refine ⟨_, rfl, x20, ?_⟩
           have sx20 := x20.size
           obtain ⟨y8, h105, H⟩ := bind_some H
           refine RW.callF (.inl rfl) ent37 ⟨rfl, rfl, rfl, rfl⟩ rfl rfl (hermitageref0_Between.calls ((rd p0.A it4_0).N) y7 (w64 (ib2_1_0 - 1)) _ _ h105) ?_
           rintro _ w28 ⟨rfl, x21⟩
           refine ⟨_, rfl, x21, ?_⟩
           have sx21 := x21.size
           refine RW.pure tabOk 2 rfl ?_
           by_cases c9 : y8 = true
           ·
            rw [if_pos c9] at H
            refine RW.bool 92 (b' := true) (c9) rfl ?_
            refine RW.pure tabOk 2 rfl ?_
            have h106 := (h102.ext x20).ext x21
            refine RW.load tabOk [.int .i64 ib2_0_0] ((h106.at 0).take 1 rfl) ⟨rfl, rfl, rfl, rfl⟩ rfl rfl rfl rfl ?_
            have h107 := (h101.ext x20).ext x21
            refine RW.load tabOk [.int .i64 (((rd p0.A it4_0).P).Dev), .int .i64 (((rd p0.A it4_0).P).At)] (h107.at 3) ⟨rfl, rfl, rfl, rfl⟩ rfl rfl rfl rfl ?_
            obtain ⟨y9, h108, H⟩ := bind_some H
            refine RW.callF (.inl rfl) ent49 ⟨rfl, rfl, rfl, rfl⟩ rfl rfl (hermitageref7_Place.calls ib2_0_0 ((rd p0.A it4_0).P) 1 _ _ h108) ?_
            rintro _ w29 ⟨rfl, x22⟩
            refine ⟨_, rfl, x22, ?_⟩
            have sx22 := x22.size
            refine RW.pure tabOk 1 rfl ?_
            refine RW.done ?_
            have h109 := ((h103.ext x20).ext x21).ext x22
            have h110 := (((((gF4_5.ext x17).turnB x18 h98 ⟨.inl (show (45 : Nat) ≠ 24 by decide), trivial⟩ trivial).ext x19).ext x20).ext x21).ext x22
            have h111 := ((((h97.turnB x18 h98 ⟨.inl (show (45 : Nat) ≠ 24 by decide), trivial⟩ trivial).ext x19).ext x20).ext x21).ext x22
            have h112 := (((((gF1_5.ext x17).turnB x18 h98 ⟨.inr (by omega), trivial⟩).ext x19).ext x20).ext x21).ext x22
            have h113 := (((((gF2_5.ext x17).turnB x18 h98 ⟨.inr (by omega), trivial⟩).ext x19).ext x20).ext x21).ext x22
            have h114 := Ext.trans (Ext.trans (Ext.trans (Ext.trans (Ext.turnB (Ext.trans x0_5 x17) x18 (by omega)) x19) x20) x21) x22
            have h115 := h106.ext x22
            have h116 := h107.ext x22
            have h117 := (((((gb5_5.ext x17).turnB x18 (by omega)).ext x19).ext x20).ext x21).ext x22
            have h118 := (((((gb6_5.ext x17).turnB x18 (by omega)).ext x19).ext x20).ext x21).ext x22
            have h119 := (((h100.ext x19).ext x20).ext x21).ext x22
            have h120 := (((((gb8_5.ext x17).turnB x18 (by omega)).ext x19).ext x20).ext x21).ext x22
            have h121 := (((((gb1_5.ext x17).turnB x18 (by omega)).ext x19).ext x20).ext x21).ext x22
            have h122 := (((((gb2_5.ext x17).turnB x18 (by omega)).ext x19).ext x20).ext x21).ext x22
            exact NW.J fun a ha => ⟨y9, ha.sub ⟨rfl, rfl, rfl, rfl, rfl, rfl, rfl, rfl, rfl, rfl, trivial⟩, by omega, h109, h110, h111, h112, h113, h114, h115, h116, h117, h118, h119, h120, h121, h122, H⟩
           ·
            rw [if_neg c9] at H
            refine RW.bool 92 (b' := false) (bool_f c9) rfl ?_
            refine RW.pure tabOk 6 rfl ?_
            refine RW.done ?_
            have h123 := (h103.ext x20).ext x21
            have h124 := ((((gF4_5.ext x17).turnB x18 h98 ⟨.inl (show (45 : Nat) ≠ 24 by decide), trivial⟩ trivial).ext x19).ext x20).ext x21
            have h125 := (((h97.turnB x18 h98 ⟨.inl (show (45 : Nat) ≠ 24 by decide), trivial⟩ trivial).ext x19).ext x20).ext x21
            have h126 := ((((gF1_5.ext x17).turnB x18 h98 ⟨.inr (by omega), trivial⟩).ext x19).ext x20).ext x21
            have h127 := ((((gF2_5.ext x17).turnB x18 h98 ⟨.inr (by omega), trivial⟩).ext x19).ext x20).ext x21
            have h128 := Ext.trans (Ext.trans (Ext.trans (Ext.turnB (Ext.trans x0_5 x17) x18 (by omega)) x19) x20) x21
            have h129 := (h102.ext x20).ext x21
            have h130 := (h101.ext x20).ext x21
            have h131 := ((((gb5_5.ext x17).turnB x18 (by omega)).ext x19).ext x20).ext x21
            have h132 := ((((gb6_5.ext x17).turnB x18 (by omega)).ext x19).ext x20).ext x21
            have h133 := ((h100.ext x19).ext x20).ext x21
            have h134 := ((((gb8_5.ext x17).turnB x18 (by omega)).ext x19).ext x20).ext x21
            have h135 := ((((gb1_5.ext x17).turnB x18 (by omega)).ext x19).ext x20).ext x21
            have h136 := ((((gb2_5.ext x17).turnB x18 (by omega)).ext x19).ext x20).ext x21
            exact NW.J fun a ha => ⟨false, ha.sub ⟨rfl, rfl, rfl, rfl, rfl, rfl, rfl, rfl, rfl, rfl, trivial⟩, by omega, h123, h124, h125, h126, h127, h128, h129, h130, h131, h132, h133, h134, h135, h136, H⟩
          ·
           rw [if_neg c8] at H
           refine RW.bool 82 (b' := false) (bool_f c8) rfl ?_
           refine RW.pure tabOk 16 rfl ?_
           refine RW.done ?_
           have h137 := ((gL0_b2_2_5.ext x17).turnB x18 h98 ⟨.inl (show (45 : Nat) ≠ 24 by decide), trivial⟩ trivial).ext x19
           have h138 := ((gF4_5.ext x17).turnB x18 h98 ⟨.inl (show (45 : Nat) ≠ 24 by decide), trivial⟩ trivial).ext x19
           have h139 := (h97.turnB x18 h98 ⟨.inl (show (45 : Nat) ≠ 24 by decide), trivial⟩ trivial).ext x19
           have h140 := ((gF1_5.ext x17).turnB x18 h98 ⟨.inr (by omega), trivial⟩).ext x19
           have h141 := ((gF2_5.ext x17).turnB x18 h98 ⟨.inr (by omega), trivial⟩).ext x19
           have h142 := Ext.trans (Ext.turnB (Ext.trans x0_5 x17) x18 (by omega)) x19
           have h143 := ((gb3_5.ext x17).turnB x18 (by omega)).ext x19
           have h144 := ((gb4_5.ext x17).turnB x18 (by omega)).ext x19
           have h145 := ((gb5_5.ext x17).turnB x18 (by omega)).ext x19
           have h146 := ((gb6_5.ext x17).turnB x18 (by omega)).ext x19
           have h147 := h100.ext x19
           have h148 := ((gb8_5.ext x17).turnB x18 (by omega)).ext x19
           have h149 := ((gb1_5.ext x17).turnB x18 (by omega)).ext x19
           have h150 := ((gb2_5.ext x17).turnB x18 (by omega)).ext x19
           exact NW.J fun a ha => ⟨false, ha.sub ⟨rfl, rfl, rfl, rfl, rfl, rfl, rfl, rfl, rfl, rfl, trivial⟩, by omega, h137, h138, h139, h140, h141, h142, h143, h144, h145, h146, h147, h148, h149, h150, H⟩
         intro a w25 hJ hp
         obtain ⟨bt98_6, hS, hle, gL0_b2_2_6, gF4_6, gF5_6, gF1_6, gF2_6, x0_6, gb3_6, gb4_6, gb5_6, gb6_6, gb7_6, gb8_6, gb1_6, gb2_6, H⟩ := hJ
         unfold hermitagelaw8_TableExact.j5 at H
         refine CW.go hp hS ?_
         by_cases c10 : bt98_6 = true
         ·
          rw [if_pos c10] at H
          refine CW.cond_t rfl (c10) ?_
          refine CW.lex [.L, .W, .L, .W, .L, .X, .W, .M] rfl ?_
          refine RW.load tabOk [.int .i64 ib2_0_0, .int .i64 ib2_1_0, .slice Ab2_2_0 lb2_2_0.length cb2_2_0] (gb3_6.at 0) ⟨rfl, rfl, rfl, rfl⟩ rfl rfl rfl rfl ?_
          refine RW.pure tabOk 1 rfl ?_
          refine RW.load tabOk [.int .i64 ((rd p0.A it4_0).N)] ((gb4_6.at 1).take 1 rfl) ⟨rfl, rfl, rfl, rfl⟩ rfl rfl rfl rfl ?_
          refine RW.pure tabOk 1 rfl ?_
          refine RW.load tabOk [.int .i64 (((rd p0.A it4_0).P).Dev), .int .i64 (((rd p0.A it4_0).P).At)] (gb4_6.at 3) ⟨rfl, rfl, rfl, rfl⟩ rfl rfl rfl rfl ?_
          obtain ⟨y10, h151, H⟩ := bind_some H
          refine RW.callF (.inl rfl) ent53 ⟨rfl, rfl, rfl, rfl⟩ rfl rfl (hermitageref7_Add.calls k (⟨ib2_0_0, ib2_1_0, lb2_2_0⟩ : Table) Ab2_2_0 cb2_2_0 ((rd p0.A it4_0).N) ((rd p0.A it4_0).P) _ _ gL0_b2_2_6.all gL0_b2_2_6.len h151) ?_
          rintro _ w30 ⟨A6, c_6, rfl, x23, h152⟩
          refine ⟨_, rfl, x23, ?_⟩
          have sx23 := x23.size
          have h153 : Ow kEntry 45 w30.heap (okL [(w25.heap.size, some w30.heap.size, some 45)]) (okL []) A6 c_6 y10.List_ := h152.close
          refine RW.pure tabOk 1 rfl ?_
          have h154 := gb8_6.ext x23
          refine RW.storeBox tabOk h154 [.int .i64 y10.Dev, .int .i64 y10.Size, .slice A6 y10.List_.length c_6] ⟨rfl, rfl, rfl⟩ rfl rfl rfl rfl rfl rfl rfl rfl ?_
          intro w31 x24 h155
          have h156 : Box w31.heap b8 24 [.int .i64 y10.Dev, .int .i64 y10.Size, .slice A6 y10.List_.length c_6] := h155
          have sx24 := x24.size
          refine RW.done ?_
          refine NW.norm_block ?_
          have h157 := (gL0_b2_2_6.ext x23).turnB x24 h154 ⟨.inl (show (45 : Nat) ≠ 24 by decide), trivial⟩ trivial
          have h158 := (gF4_6.ext x23).turnB x24 h154 ⟨.inl (show (45 : Nat) ≠ 24 by decide), trivial⟩ trivial
          have h159 := (gF5_6.ext x23).turnB x24 h154 ⟨.inl (show (45 : Nat) ≠ 24 by decide), trivial⟩ trivial
          have h160 := h153.turnB x24 h154 ⟨.inl (show (45 : Nat) ≠ 24 by decide), trivial⟩ trivial
          have h161 := (gF1_6.ext x23).turnB x24 h154 ⟨.inr (by omega), trivial⟩
          have h162 := (gF2_6.ext x23).turnB x24 h154 ⟨.inr (by omega), trivial⟩
          have h163 := Ext.turnB (Ext.trans x0_6 x23) x24 (by omega)
          have h164 := (gb3_6.ext x23).turnB x24 (by omega)
          have h165 := (gb5_6.ext x23).turnB x24 (by omega)
          have h166 := (gb6_6.ext x23).turnB x24 (by omega)
          have h167 := (gb7_6.ext x23).turnB x24 (by omega)
          have h168 := (gb1_6.ext x23).turnB x24 (by omega)
          have h169 := (gb2_6.ext x23).turnB x24 (by omega)
          exact NW.J fun a ha => ⟨0, y6.2, y6.1.Dev, y6.1.Size, y6.1.List_, A5, c_5, y10.Dev, y10.Size, y10.List_, A6, c_6, w23.heap.size, ha.sub ⟨rfl, rfl, rfl, rfl, rfl, rfl, rfl, rfl, trivial⟩, by omega, h157, h158, (h159.sub ⟨(.inl ⟨by omega, by omega, rfl⟩), trivial⟩ trivial), (h160.sub ⟨(.inl ⟨by omega, trivial, rfl⟩), trivial⟩ trivial), h161, h162, h163, h164, h165, h166, h167, h156, h168, h169, by omega, by omega, H⟩
         ·
          rw [if_neg c10] at H
          refine CW.cond_f rfl (bool_f c10) ?_
          refine CW.skip ?_
          refine NW.norm_block ?_
          exact NW.J fun a ha => ⟨1, y6.2, y6.1.Dev, y6.1.Size, y6.1.List_, A5, c_5, 0, 0, ([] : List Entry), none, 0, w23.heap.size, ha.sub ⟨rfl, rfl, rfl, rfl, rfl, rfl, rfl, rfl, trivial⟩, by omega, gL0_b2_2_6, gF4_6, (gF5_6.sub ⟨(.inl ⟨by omega, by omega, rfl⟩), trivial⟩ trivial), Ow.nil, gF1_6, gF2_6, x0_6, gb3_6, gb5_6, gb6_6, gb7_6, gb8_6, gb1_6, gb2_6, by omega, by omega, H⟩
        ·
         rw [if_neg c7] at H
         refine CW.cond_f rfl (bool_f c7) ?_
         refine CW.seqJ (fun a w32 => ∃ (bt105_7 : Bool), Sat 223 [(2, .pointer (some ⟨b3, 0, none⟩)), (3, .pointer (some ⟨b4, 0, none⟩)), (4, .pointer (some ⟨b5, 0, none⟩)), (6, .pointer (some ⟨b6, 0, none⟩)), (7, .bool y4), (8, .int .i64 1), (9, .pointer (some ⟨b7, 0, none⟩)), (10, .pointer (some ⟨b8, 0, none⟩)), (30, .int .i64 y5), (105, .bool bt105_7)] a ∧ w22.heap.size ≤ w32.heap.size ∧ Ow kEntry 45 w32.heap (okL [(w2.heap.size, some w6.heap.size, some 45)]) (okL []) Ab2_2_0 cb2_2_0 lb2_2_0 ∧ Ow kEntry 45 w32.heap (okL [(w13.heap.size, some w14.heap.size, some 45)]) (okL []) A4 c_4 y3.List_ ∧ Sl kEntry w32.heap (okL [(0, some w.heap.size, none)]) A1 p0.T.List_ ∧ Sl khermitagelaw8Act w32.heap (okL [(0, some w.heap.size, none)]) A2 p0.A ∧ Ext w w32 ∧ Box w32.heap b3 24 [.int .i64 ib2_0_0, .int .i64 ib2_1_0, .slice Ab2_2_0 lb2_2_0.length cb2_2_0] ∧ Box w32.heap b4 35 [.int .i64 ((rd p0.A it4_0).Do), .int .i64 ((rd p0.A it4_0).N), .int .i64 ((rd p0.A it4_0).M), .int .i64 (((rd p0.A it4_0).P).Dev), .int .i64 (((rd p0.A it4_0).P).At)] ∧ Box w32.heap b5 24 [.int .i64 0, .int .i64 0, .slice none 0 0] ∧ Box w32.heap b6 24 [.int .i64 y3.Dev, .int .i64 y3.Size, .slice A4 y3.List_.length c_4] ∧ Box w32.heap b7 24 [.int .i64 0, .int .i64 0, .slice none 0 0] ∧ Box w32.heap b8 24 [.int .i64 0, .int .i64 0, .slice none 0 0] ∧ Box w32.heap b1 27 [.int .i64 p0.T.Dev, .int .i64 p0.T.Size, .slice A1 p0.T.List_.length c_1, .slice A2 p0.A.length c_2] ∧ Box w32.heap b2 24 [.int .i64 ib2_0_0, .int .i64 ib2_1_0, .slice Ab2_2_0 lb2_2_0.length cb2_2_0] ∧ hermitagelaw8_TableExact.j6 p0 k it4_0 ib2_0_0 ib2_1_0 lb2_2_0 y3 y4 y5 (hermitagelaw8_TableExact.l0 p0 k n1) bt105_7 = some r) ?_ ?_
         ·
          refine CW.seq ?_
          refine CW.lex [.W, .W] rfl ?_
          refine RW.pure tabOk 2 rfl ?_
          refine RW.done ?_
          refine NW.next ?_
          by_cases c11 : y5 = 4
          ·
           rw [if_pos c11] at H
           refine CW.cond_t rfl (beq_t c11) ?_
           refine CW.skip ?_
           exact NW.J fun a ha => ⟨(y5 == 4), ha.sub ⟨rfl, rfl, rfl, rfl, rfl, rfl, rfl, rfl, rfl, rfl, trivial⟩, by omega, gL0_b2_2_5, gF4_5, gF1_5, gF2_5, x0_5, gb3_5, gb4_5, gb5_5, gb6_5, gb7_5, gb8_5, gb1_5, gb2_5, H⟩
          ·
           rw [if_neg c11] at H
           refine CW.cond_f rfl (beq_f c11) ?_
           refine CW.lex [.W, .W] rfl ?_
           refine RW.pure tabOk 2 rfl ?_
           refine RW.done ?_
           exact NW.J fun a ha => ⟨(y5 == 5), ha.sub ⟨rfl, rfl, rfl, rfl, rfl, rfl, rfl, rfl, rfl, rfl, trivial⟩, by omega, gL0_b2_2_5, gF4_5, gF1_5, gF2_5, x0_5, gb3_5, gb4_5, gb5_5, gb6_5, gb7_5, gb8_5, gb1_5, gb2_5, H⟩
         intro a w32 hJ hp
         obtain ⟨bt105_7, hS, hle, gL0_b2_2_7, gF4_7, gF1_7, gF2_7, x0_7, gb3_7, gb4_7, gb5_7, gb6_7, gb7_7, gb8_7, gb1_7, gb2_7, H⟩ := hJ
         unfold hermitagelaw8_TableExact.j6 at H
         refine CW.go hp hS ?_
         by_cases c12 : bt105_7 = true
         ·
          rw [if_pos c12] at H
          refine CW.cond_t rfl (c12) ?_
          refine CW.seq ?_
          refine CW.lex [.L, .W, .L, .X, .W, .W, .W, .M, .W] rfl ?_
          refine RW.load tabOk [.int .i64 y3.Dev, .int .i64 y3.Size, .slice A4 y3.List_.length c_4] (gb6_7.at 0) ⟨rfl, rfl, rfl, rfl⟩ rfl rfl rfl rfl ?_
          refine RW.pure tabOk 1 rfl ?_
          refine RW.load tabOk [.int .i64 ((rd p0.A it4_0).N)] ((gb4_7.at 1).take 1 rfl) ⟨rfl, rfl, rfl, rfl⟩ rfl rfl rfl rfl ?_
          obtain ⟨y11, h170, H⟩ := bind_some H
          refine RW.callF (.inl rfl) ent16 ⟨rfl, rfl, rfl, rfl⟩ rfl rfl (table_Lose.calls k y3 A4 c_4 ((rd p0.A it4_0).N) _ _ gF4_7.all gF4_7.len h170) ?_
          rintro _ w33 ⟨A7, c_7, rfl, x25, h171⟩
          refine ⟨_, rfl, x25, ?_⟩
          have sx25 := x25.size
          have h172 : Ow kEntry 45 w33.heap (okL [(w32.heap.size, some w33.heap.size, some 45)]) (okL []) A7 c_7 y11.1.List_ := h171.close
          refine RW.pure tabOk 3 rfl ?_
          have h173 := gb7_7.ext x25
          refine RW.storeBox tabOk h173 [.int .i64 y11.1.Dev, .int .i64 y11.1.Size, .slice A7 y11.1.List_.length c_7] ⟨rfl, rfl, rfl⟩ rfl rfl rfl rfl rfl rfl rfl rfl ?_
          intro w34 x26 h174
          have h175 : Box w34.heap b7 24 [.int .i64 y11.1.Dev, .int .i64 y11.1.Size, .slice A7 y11.1.List_.length c_7] := h174
          have sx26 := x26.size
          refine RW.pure tabOk 1 rfl ?_
          refine RW.done ?_
          refine NW.next ?_
          refine CW.seq ?_
          refine CW.lex [.W] rfl ?_
          refine RW.pure tabOk 1 rfl ?_
          refine RW.done ?_
          refine NW.next ?_
          by_cases c13 : y4 = true
          ·
           rw [if_pos c13] at H
           refine CW.cond_t rfl (c13) ?_
           refine CW.lex [.L, .W, .L, .X, .W, .W, .W, .M, .W] rfl ?_
           have h176 := (gb3_7.ext x25).turnB x26 (by omega)
           refine RW.load tabOk [.int .i64 ib2_0_0, .int .i64 ib2_1_0, .slice Ab2_2_0 lb2_2_0.length cb2_2_0] (h176.at 0) ⟨rfl, rfl, rfl, rfl⟩ rfl rfl rfl rfl ?_
           refine RW.pure tabOk 1 rfl ?_
           have h177 := (gb4_7.ext x25).turnB x26 (by omega)
           refine RW.load tabOk [.int .i64 ((rd p0.A it4_0).N)] ((h177.at 1).take 1 rfl) ⟨rfl, rfl, rfl, rfl⟩ rfl rfl rfl rfl ?_
           have h178 := (gL0_b2_2_7.ext x25).turnB x26 h173 ⟨.inl (show (45 : Nat) ≠ 24 by decide), trivial⟩ trivial
           obtain ⟨y12, h179, H⟩ := bind_some H
           refine RW.callF (.inl rfl) ent54 ⟨rfl, rfl, rfl, rfl⟩ rfl rfl (hermitageref7_Lose.calls k (⟨ib2_0_0, ib2_1_0, lb2_2_0⟩ : Table) Ab2_2_0 cb2_2_0 ((rd p0.A it4_0).N) _ _ h178.all h178.len h179) ?_
           rintro _ w35 ⟨A8, c_8, rfl, x27, h180⟩
           refine ⟨_, rfl, x27, ?_⟩
           have sx27 := x27.size
           have h181 : Ow kEntry 45 w35.heap (okL [(w34.heap.size, some w35.heap.size, some 45)]) (okL []) A8 c_8 y12.1.List_ := h180.close
           refine RW.pure tabOk 3 rfl ?_
           have h182 := ((gb8_7.ext x25).turnB x26 (by omega)).ext x27
           refine RW.storeBox tabOk h182 [.int .i64 y12.1.Dev, .int .i64 y12.1.Size, .slice A8 y12.1.List_.length c_8] ⟨rfl, rfl, rfl⟩ rfl rfl rfl rfl rfl rfl rfl rfl ?_
           intro w36 x28 h183
           have h184 : Box w36.heap b8 24 [.int .i64 y12.1.Dev, .int .i64 y12.1.Size, .slice A8 y12.1.List_.length c_8] := h183
           have sx28 := x28.size
           refine RW.pure tabOk 1 rfl ?_
           refine RW.done ?_
           refine NW.norm_block ?_
           have h185 := (h178.ext x27).turnB x28 h182 ⟨.inl (show (45 : Nat) ≠ 24 by decide), trivial⟩ trivial
           have h186 := (((gF4_7.ext x25).turnB x26 h173 ⟨.inl (show (45 : Nat) ≠ 24 by decide), trivial⟩ trivial).ext x27).turnB x28 h182 ⟨.inl (show (45 : Nat) ≠ 24 by decide), trivial⟩ trivial
           have h187 := ((h172.turnB x26 h173 ⟨.inl (show (45 : Nat) ≠ 24 by decide), trivial⟩ trivial).ext x27).turnB x28 h182 ⟨.inl (show (45 : Nat) ≠ 24 by decide), trivial⟩ trivial
           have h188 := h181.turnB x28 h182 ⟨.inl (show (45 : Nat) ≠ 24 by decide), trivial⟩ trivial
           have h189 := (((gF1_7.ext x25).turnB x26 h173 ⟨.inr (by omega), trivial⟩).ext x27).turnB x28 h182 ⟨.inr (by omega), trivial⟩
           have h190 := (((gF2_7.ext x25).turnB x26 h173 ⟨.inr (by omega), trivial⟩).ext x27).turnB x28 h182 ⟨.inr (by omega), trivial⟩
           have h191 := Ext.turnB (Ext.trans (Ext.turnB (Ext.trans x0_7 x25) x26 (by omega)) x27) x28 (by omega)
           have h192 := (h176.ext x27).turnB x28 (by omega)
           have h193 := (((gb5_7.ext x25).turnB x26 (by omega)).ext x27).turnB x28 (by omega)
           have h194 := (((gb6_7.ext x25).turnB x26 (by omega)).ext x27).turnB x28 (by omega)
           have h195 := (h175.ext x27).turnB x28 (by omega)
           have h196 := (((gb1_7.ext x25).turnB x26 (by omega)).ext x27).turnB x28 (by omega)
           have h197 := (((gb2_7.ext x25).turnB x26 (by omega)).ext x27).turnB x28 (by omega)
           exact NW.J fun a ha => ⟨y12.2, y11.2, y11.1.Dev, y11.1.Size, y11.1.List_, A7, c_7, y12.1.Dev, y12.1.Size, y12.1.List_, A8, c_8, w33.heap.size, ha.sub ⟨rfl, rfl, rfl, rfl, rfl, rfl, rfl, rfl, trivial⟩, by omega, h185, h186, (h187.sub ⟨(.inl ⟨by omega, by omega, rfl⟩), trivial⟩ trivial), (h188.sub ⟨(.inl ⟨by omega, trivial, rfl⟩), trivial⟩ trivial), h189, h190, h191, h192, h193, h194, h195, h184, h196, h197, by omega, by omega, H⟩
          ·
           rw [if_neg c13] at H
           refine CW.cond_f rfl (bool_f c13) ?_
           refine CW.skip ?_
           refine NW.norm_block ?_
           have h198 := (gL0_b2_2_7.ext x25).turnB x26 h173 ⟨.inl (show (45 : Nat) ≠ 24 by decide), trivial⟩ trivial
           have h199 := (gF4_7.ext x25).turnB x26 h173 ⟨.inl (show (45 : Nat) ≠ 24 by decide), trivial⟩ trivial
           have h200 := h172.turnB x26 h173 ⟨.inl (show (45 : Nat) ≠ 24 by decide), trivial⟩ trivial
           have h201 := (gF1_7.ext x25).turnB x26 h173 ⟨.inr (by omega), trivial⟩
           have h202 := (gF2_7.ext x25).turnB x26 h173 ⟨.inr (by omega), trivial⟩
           have h203 := Ext.turnB (Ext.trans x0_7 x25) x26 (by omega)
           have h204 := (gb3_7.ext x25).turnB x26 (by omega)
           have h205 := (gb5_7.ext x25).turnB x26 (by omega)
           have h206 := (gb6_7.ext x25).turnB x26 (by omega)
           have h207 := (gb8_7.ext x25).turnB x26 (by omega)
           have h208 := (gb1_7.ext x25).turnB x26 (by omega)
           have h209 := (gb2_7.ext x25).turnB x26 (by omega)
           exact NW.J fun a ha => ⟨1, y11.2, y11.1.Dev, y11.1.Size, y11.1.List_, A7, c_7, 0, 0, ([] : List Entry), none, 0, w33.heap.size, ha.sub ⟨rfl, rfl, rfl, rfl, rfl, rfl, rfl, rfl, trivial⟩, by omega, h198, h199, (h200.sub ⟨(.inl ⟨by omega, by omega, rfl⟩), trivial⟩ trivial), Ow.nil, h201, h202, h203, h204, h205, h206, h175, h207, h208, h209, by omega, by omega, H⟩
         ·
          rw [if_neg c12] at H
          refine CW.cond_f rfl (bool_f c12) ?_
          refine CW.seq ?_
          refine CW.lex [.W, .W] rfl ?_
          refine RW.pure tabOk 2 rfl ?_
          refine RW.done ?_
          refine NW.next ?_
          by_cases c14 : y5 = 6
          ·
           rw [if_pos c14] at H
           refine CW.cond_t rfl (beq_t c14) ?_
           refine CW.seq ?_
           refine CW.lex [.L, .X, .W, .W, .W, .M, .W] rfl ?_
           refine RW.load tabOk [.int .i64 y3.Dev, .int .i64 y3.Size, .slice A4 y3.List_.length c_4] (gb6_7.at 0) ⟨rfl, rfl, rfl, rfl⟩ rfl rfl rfl rfl ?_
           obtain ⟨y13, h210, H⟩ := bind_some H
           refine RW.callF (.inl rfl) ent17 ⟨rfl, rfl, rfl, rfl⟩ rfl rfl (table_Tidy.calls k y3 A4 c_4 _ _ gF4_7.all gF4_7.len h210) ?_
           rintro _ w37 ⟨A9, c_9, rfl, x29, h211⟩
           refine ⟨_, rfl, x29, ?_⟩
           have sx29 := x29.size
           have h212 : Ow kEntry 45 w37.heap (okL [(w32.heap.size, some w37.heap.size, some 45)]) (okL []) A9 c_9 y13.1.List_ := h211.close
           refine RW.pure tabOk 3 rfl ?_
           have h213 := gb7_7.ext x29
           refine RW.storeBox tabOk h213 [.int .i64 y13.1.Dev, .int .i64 y13.1.Size, .slice A9 y13.1.List_.length c_9] ⟨rfl, rfl, rfl⟩ rfl rfl rfl rfl rfl rfl rfl rfl ?_
           intro w38 x30 h214
           have h215 : Box w38.heap b7 24 [.int .i64 y13.1.Dev, .int .i64 y13.1.Size, .slice A9 y13.1.List_.length c_9] := h214
           have sx30 := x30.size
           refine RW.pure tabOk 1 rfl ?_
           refine RW.done ?_
           refine NW.next ?_
           refine CW.seq ?_
           refine CW.lex [.W] rfl ?_
           refine RW.pure tabOk 1 rfl ?_
           refine RW.done ?_
           refine NW.next ?_
           by_cases c15 : y4 = true
           ·
            rw [if_pos c15] at H
            refine CW.cond_t rfl (c15) ?_
            refine CW.lex [.L, .X, .W, .M] rfl ?_
            have h216 := (gb3_7.ext x29).turnB x30 (by omega)
            refine RW.load tabOk [.int .i64 ib2_0_0, .int .i64 ib2_1_0, .slice Ab2_2_0 lb2_2_0.length cb2_2_0] (h216.at 0) ⟨rfl, rfl, rfl, rfl⟩ rfl rfl rfl rfl ?_
            have h217 := (gL0_b2_2_7.ext x29).turnB x30 h213 ⟨.inl (show (45 : Nat) ≠ 24 by decide), trivial⟩ trivial
            obtain ⟨y14, h218, H⟩ := bind_some H
            refine RW.callF (.inl rfl) ent55 ⟨rfl, rfl, rfl, rfl⟩ rfl rfl (hermitageref7_Tidy.calls k (⟨ib2_0_0, ib2_1_0, lb2_2_0⟩ : Table) Ab2_2_0 cb2_2_0 _ _ h217.all h217.len h218) ?_
            rintro _ w39 ⟨A10, c_10, rfl, x31, h219⟩
            refine ⟨_, rfl, x31, ?_⟩
            have sx31 := x31.size
            have h220 : Ow kEntry 45 w39.heap (okL [(w38.heap.size, some w39.heap.size, some 45)]) (okL []) A10 c_10 y14.List_ := h219.close
            refine RW.pure tabOk 1 rfl ?_
            have h221 := ((gb8_7.ext x29).turnB x30 (by omega)).ext x31
            refine RW.storeBox tabOk h221 [.int .i64 y14.Dev, .int .i64 y14.Size, .slice A10 y14.List_.length c_10] ⟨rfl, rfl, rfl⟩ rfl rfl rfl rfl rfl rfl rfl rfl ?_
            intro w40 x32 h222
            have h223 : Box w40.heap b8 24 [.int .i64 y14.Dev, .int .i64 y14.Size, .slice A10 y14.List_.length c_10] := h222
            have sx32 := x32.size
            refine RW.done ?_
            refine NW.norm_block ?_
            have h224 := (h217.ext x31).turnB x32 h221 ⟨.inl (show (45 : Nat) ≠ 24 by decide), trivial⟩ trivial
            have h225 := (((gF4_7.ext x29).turnB x30 h213 ⟨.inl (show (45 : Nat) ≠ 24 by decide), trivial⟩ trivial).ext x31).turnB x32 h221 ⟨.inl (show (45 : Nat) ≠ 24 by decide), trivial⟩ trivial
            have h226 := ((h212.turnB x30 h213 ⟨.inl (show (45 : Nat) ≠ 24 by decide), trivial⟩ trivial).ext x31).turnB x32 h221 ⟨.inl (show (45 : Nat) ≠ 24 by decide), trivial⟩ trivial
            have h227 := h220.turnB x32 h221 ⟨.inl (show (45 : Nat) ≠ 24 by decide), trivial⟩ trivial
            have h228 := (((gF1_7.ext x29).turnB x30 h213 ⟨.inr (by omega), trivial⟩).ext x31).turnB x32 h221 ⟨.inr (by omega), trivial⟩
            have h229 := (((gF2_7.ext x29).turnB x30 h213 ⟨.inr (by omega), trivial⟩).ext x31).turnB x32 h221 ⟨.inr (by omega), trivial⟩
            have h230 := Ext.turnB (Ext.trans (Ext.turnB (Ext.trans x0_7 x29) x30 (by omega)) x31) x32 (by omega)
            have h231 := (h216.ext x31).turnB x32 (by omega)
            have h232 := (((gb5_7.ext x29).turnB x30 (by omega)).ext x31).turnB x32 (by omega)
            have h233 := (((gb6_7.ext x29).turnB x30 (by omega)).ext x31).turnB x32 (by omega)
            have h234 := (h215.ext x31).turnB x32 (by omega)
            have h235 := (((gb1_7.ext x29).turnB x30 (by omega)).ext x31).turnB x32 (by omega)
            have h236 := (((gb2_7.ext x29).turnB x30 (by omega)).ext x31).turnB x32 (by omega)
            exact NW.J fun a ha => ⟨0, y13.2, y13.1.Dev, y13.1.Size, y13.1.List_, A9, c_9, y14.Dev, y14.Size, y14.List_, A10, c_10, w37.heap.size, ha.sub ⟨rfl, rfl, rfl, rfl, rfl, rfl, rfl, rfl, trivial⟩, by omega, h224, h225, (h226.sub ⟨(.inl ⟨by omega, by omega, rfl⟩), trivial⟩ trivial), (h227.sub ⟨(.inl ⟨by omega, trivial, rfl⟩), trivial⟩ trivial), h228, h229, h230, h231, h232, h233, h234, h223, h235, h236, by omega, by omega, H⟩
           ·
            rw [if_neg c15] at H
            refine CW.cond_f rfl (bool_f c15) ?_
            refine CW.skip ?_
            refine NW.norm_block ?_
            have h237 := (gL0_b2_2_7.ext x29).turnB x30 h213 ⟨.inl (show (45 : Nat) ≠ 24 by decide), trivial⟩ trivial
            have h238 := (gF4_7.ext x29).turnB x30 h213 ⟨.inl (show (45 : Nat) ≠ 24 by decide), trivial⟩ trivial
            have h239 := h212.turnB x30 h213 ⟨.inl (show (45 : Nat) ≠ 24 by decide), trivial⟩ trivial
            have h240 := (gF1_7.ext x29).turnB x30 h213 ⟨.inr (by omega), trivial⟩
            have h241 := (gF2_7.ext x29).turnB x30 h213 ⟨.inr (by omega), trivial⟩
            have h242 := Ext.turnB (Ext.trans x0_7 x29) x30 (by omega)
            have h243 := (gb3_7.ext x29).turnB x30 (by omega)
            have h244 := (gb5_7.ext x29).turnB x30 (by omega)
            have h245 := (gb6_7.ext x29).turnB x30 (by omega)
            have h246 := (gb8_7.ext x29).turnB x30 (by omega)
            have h247 := (gb1_7.ext x29).turnB x30 (by omega)
            have h248 := (gb2_7.ext x29).turnB x30 (by omega)
            exact NW.J fun a ha => ⟨1, y13.2, y13.1.Dev, y13.1.Size, y13.1.List_, A9, c_9, 0, 0, ([] : List Entry), none, 0, w37.heap.size, ha.sub ⟨rfl, rfl, rfl, rfl, rfl, rfl, rfl, rfl, trivial⟩, by omega, h237, h238, (h239.sub ⟨(.inl ⟨by omega, by omega, rfl⟩), trivial⟩ trivial), Ow.nil, h240, h241, h242, h243, h244, h245, h215, h246, h247, h248, by omega, by omega, H⟩
          ·
           rw [if_neg c14] at H
           refine CW.cond_f rfl (beq_f c14) ?_
           refine CW.seqJ (fun a w41 => ∃ (bt133_8 : Bool), Sat 223 [(2, .pointer (some ⟨b3, 0, none⟩)), (3, .pointer (some ⟨b4, 0, none⟩)), (4, .pointer (some ⟨b5, 0, none⟩)), (6, .pointer (some ⟨b6, 0, none⟩)), (7, .bool y4), (8, .int .i64 1), (133, .bool bt133_8)] a ∧ w32.heap.size ≤ w41.heap.size ∧ Ow kEntry 45 w41.heap (okL [(w2.heap.size, some w6.heap.size, some 45)]) (okL []) Ab2_2_0 cb2_2_0 lb2_2_0 ∧ Ow kEntry 45 w41.heap (okL [(w13.heap.size, some w14.heap.size, some 45)]) (okL []) A4 c_4 y3.List_ ∧ Sl kEntry w41.heap (okL [(0, some w.heap.size, none)]) A1 p0.T.List_ ∧ Sl khermitagelaw8Act w41.heap (okL [(0, some w.heap.size, none)]) A2 p0.A ∧ Ext w w41 ∧ Box w41.heap b3 24 [.int .i64 ib2_0_0, .int .i64 ib2_1_0, .slice Ab2_2_0 lb2_2_0.length cb2_2_0] ∧ Box w41.heap b4 35 [.int .i64 ((rd p0.A it4_0).Do), .int .i64 ((rd p0.A it4_0).N), .int .i64 ((rd p0.A it4_0).M), .int .i64 (((rd p0.A it4_0).P).Dev), .int .i64 (((rd p0.A it4_0).P).At)] ∧ Box w41.heap b5 24 [.int .i64 0, .int .i64 0, .slice none 0 0] ∧ Box w41.heap b6 24 [.int .i64 y3.Dev, .int .i64 y3.Size, .slice A4 y3.List_.length c_4] ∧ Box w41.heap b1 27 [.int .i64 p0.T.Dev, .int .i64 p0.T.Size, .slice A1 p0.T.List_.length c_1, .slice A2 p0.A.length c_2] ∧ Box w41.heap b2 24 [.int .i64 ib2_0_0, .int .i64 ib2_1_0, .slice Ab2_2_0 lb2_2_0.length cb2_2_0] ∧ hermitagelaw8_TableExact.j7 p0 k it4_0 ib2_0_0 ib2_1_0 lb2_2_0 y3 y4 (hermitagelaw8_TableExact.l0 p0 k n1) bt133_8 = some r) ?_ ?_
           ·
            refine CW.seq ?_
            refine CW.lex [.W, .W] rfl ?_
            refine RW.pure tabOk 2 rfl ?_
            refine RW.done ?_
            refine NW.next ?_
            by_cases c16 : y5 = 7
            ·
             rw [if_pos c16] at H
             refine CW.cond_t rfl (beq_t c16) ?_
             refine CW.skip ?_
             exact NW.J fun a ha => ⟨(y5 == 7), ha.sub ⟨rfl, rfl, rfl, rfl, rfl, rfl, rfl, trivial⟩, by omega, gL0_b2_2_7, gF4_7, gF1_7, gF2_7, x0_7, gb3_7, gb4_7, gb5_7, gb6_7, gb1_7, gb2_7, H⟩
            ·
             rw [if_neg c16] at H
             refine CW.cond_f rfl (beq_f c16) ?_
             refine CW.lex [.W, .W] rfl ?_
             refine RW.pure tabOk 2 rfl ?_
             refine RW.done ?_
             exact NW.J fun a ha => ⟨(y5 == 8), ha.sub ⟨rfl, rfl, rfl, rfl, rfl, rfl, rfl, trivial⟩, by omega, gL0_b2_2_7, gF4_7, gF1_7, gF2_7, x0_7, gb3_7, gb4_7, gb5_7, gb6_7, gb1_7, gb2_7, H⟩
           intro a w41 hJ hp
           obtain ⟨bt133_8, hS, hle, gL0_b2_2_8, gF4_8, gF1_8, gF2_8, x0_8, gb3_8, gb4_8, gb5_8, gb6_8, gb1_8, gb2_8, H⟩ := hJ
           unfold hermitagelaw8_TableExact.j7 at H
           refine CW.go hp hS ?_
           by_cases c17 : bt133_8 = true
           ·
            rw [if_pos c17] at H
            refine CW.cond_t rfl (c17) ?_
            refine CW.seq ?_
            refine CW.lex [.L, .W, .L, .X, .W, .W, .W, .X, .M, .W] rfl ?_
            refine RW.load tabOk [.int .i64 y3.Dev, .int .i64 y3.Size, .slice A4 y3.List_.length c_4] (gb6_8.at 0) ⟨rfl, rfl, rfl, rfl⟩ rfl rfl rfl rfl ?_
            refine RW.pure tabOk 1 rfl ?_
            refine RW.load tabOk [.int .i64 ((rd p0.A it4_0).N)] ((gb4_8.at 1).take 1 rfl) ⟨rfl, rfl, rfl, rfl⟩ rfl rfl rfl rfl ?_
            obtain ⟨y15, h249, H⟩ := bind_some H
            refine RW.callF (.inl rfl) ent15 ⟨rfl, rfl, rfl, rfl⟩ rfl rfl (table_Look.calls k y3 A4 c_4 ((rd p0.A it4_0).N) _ _ gF4_8.all gF4_8.len h249) ?_
            rintro _ w42 ⟨rfl, x33⟩
            refine ⟨_, rfl, x33, ?_⟩
            have sx33 := x33.size
            refine RW.pure tabOk 3 rfl ?_
            refine RW.alloc tabOk (.inl rfl) ⟨rfl, rfl, rfl, rfl⟩ rfl rfl ?_
            intro b9 w43 x34 l9 h250
            have sx34 := x34.size
            have ltb9 := h250.lt
            refine RW.storeBox tabOk h250 [.int .i64 y15.1.Dev, .int .i64 y15.1.At] ⟨rfl, rfl, rfl⟩ rfl rfl rfl rfl rfl rfl rfl rfl ?_
            intro w44 x35 h251
            have h252 : Box w44.heap b9 33 [.int .i64 y15.1.Dev, .int .i64 y15.1.At] := h251
            have sx35 := x35.size
            refine RW.pure tabOk 1 rfl ?_
            refine RW.done ?_
            refine NW.next ?_
            refine CW.seq ?_
            refine CW.lex [.L, .X, .W, .W, .W, .W, .W] rfl ?_
            have h253 := ((gb6_8.ext x33).ext x34).turnB x35 (by omega)
            refine RW.load tabOk [.int .i64 y3.Dev, .int .i64 y3.Size, .slice A4 y3.List_.length c_4] (h253.at 0) ⟨rfl, rfl, rfl, rfl⟩ rfl rfl rfl rfl ?_
            have h254 := ((gF4_8.ext x33).ext x34).turnB x35 h250 ⟨.inl (show (45 : Nat) ≠ 33 by decide), trivial⟩ trivial
            obtain ⟨y16, h255, H⟩ := bind_some H
            refine RW.callF (.inl rfl) ent18 ⟨rfl, rfl, rfl, rfl⟩ rfl rfl (table_Live.calls k y3 A4 c_4 _ _ h254.all h254.len h255) ?_
            rintro _ w45 ⟨rfl, x36⟩
            refine ⟨_, rfl, x36, ?_⟩
            have sx36 := x36.size
            refine RW.pure tabOk 5 rfl ?_
            refine RW.done ?_
            refine NW.next ?_
            refine CW.seq ?_
            refine CW.lex [.W, .W] rfl ?_
            refine RW.pure tabOk 2 rfl ?_
            refine RW.done ?_
            refine NW.next ?_
            refine CW.seq ?_
            refine CW.lex [.X] rfl ?_
            refine RW.alloc tabOk (.inl rfl) ⟨rfl, rfl, rfl, rfl⟩ rfl rfl ?_
            intro b10 w46 x37 l10 h256
            have sx37 := x37.size
            have ltb10 := h256.lt
            refine RW.done ?_
            refine NW.next ?_
            refine CW.seqJ (fun a w47 => ∃ (it8_9 : Int) (it16_9 : Int) (it17_9 : Int) (ib10_0_9 : Int) (ib10_1_9 : Int), Sat 223 [(2, .pointer (some ⟨b3, 0, none⟩)), (4, .pointer (some ⟨b5, 0, none⟩)), (6, .pointer (some ⟨b6, 0, none⟩)), (8, .int .i64 it8_9), (12, .pointer (some ⟨b9, 0, none⟩)), (13, .int .i64 y15.2), (14, .int .i64 y16.1), (15, .int .i64 y16.2), (16, .int .i64 it16_9), (17, .int .i64 it17_9), (18, .pointer (some ⟨b10, 0, none⟩))] a ∧ w46.heap.size ≤ w47.heap.size ∧ Ow kEntry 45 w47.heap (okL [(w2.heap.size, some w6.heap.size, some 45)]) (okL []) Ab2_2_0 cb2_2_0 lb2_2_0 ∧ Ow kEntry 45 w47.heap (okL [(w13.heap.size, some w14.heap.size, some 45)]) (okL []) A4 c_4 y3.List_ ∧ Sl kEntry w47.heap (okL [(0, some w.heap.size, none)]) A1 p0.T.List_ ∧ Sl khermitagelaw8Act w47.heap (okL [(0, some w.heap.size, none)]) A2 p0.A ∧ Ext w w47 ∧ Box w47.heap b3 24 [.int .i64 ib2_0_0, .int .i64 ib2_1_0, .slice Ab2_2_0 lb2_2_0.length cb2_2_0] ∧ Box w47.heap b5 24 [.int .i64 0, .int .i64 0, .slice none 0 0] ∧ Box w47.heap b6 24 [.int .i64 y3.Dev, .int .i64 y3.Size, .slice A4 y3.List_.length c_4] ∧ Box w47.heap b9 33 [.int .i64 y15.1.Dev, .int .i64 y15.1.At] ∧ Box w47.heap b10 33 [.int .i64 ib10_0_9, .int .i64 ib10_1_9] ∧ Box w47.heap b1 27 [.int .i64 p0.T.Dev, .int .i64 p0.T.Size, .slice A1 p0.T.List_.length c_1, .slice A2 p0.A.length c_2] ∧ Box w47.heap b2 24 [.int .i64 ib2_0_0, .int .i64 ib2_1_0, .slice Ab2_2_0 lb2_2_0.length cb2_2_0] ∧ hermitagelaw8_TableExact.j8 k it4_0 ib2_0_0 ib2_1_0 lb2_2_0 y3 y15 y16 (hermitagelaw8_TableExact.l0 p0 k n1) it8_9 it16_9 it17_9 ib10_0_9 ib10_1_9 = some r) ?_ ?_
            ·
             refine CW.seq ?_
             refine CW.lex [.W] rfl ?_
             refine RW.pure tabOk 1 rfl ?_
             refine RW.done ?_
             refine NW.next ?_
             by_cases c18 : y4 = true
             ·
              rw [if_pos c18] at H
              refine CW.cond_t rfl (c18) ?_
              refine CW.seq ?_
              refine CW.lex [.L, .X, .W, .W, .W] rfl ?_
              have h257 := ((((gb3_8.ext x33).ext x34).turnB x35 (by omega)).ext x36).ext x37
              refine RW.load tabOk [.int .i64 ib2_0_0, .int .i64 ib2_1_0, .slice Ab2_2_0 lb2_2_0.length cb2_2_0] (h257.at 0) ⟨rfl, rfl, rfl, rfl⟩ rfl rfl rfl rfl ?_
              have h258 := ((((gL0_b2_2_8.ext x33).ext x34).turnB x35 h250 ⟨.inl (show (45 : Nat) ≠ 33 by decide), trivial⟩ trivial).ext x36).ext x37
              obtain ⟨y17, h259, H⟩ := bind_some H
              refine RW.callF (.inl rfl) ent56 ⟨rfl, rfl, rfl, rfl⟩ rfl rfl (hermitageref7_Live.calls k (⟨ib2_0_0, ib2_1_0, lb2_2_0⟩ : Table) Ab2_2_0 cb2_2_0 _ _ h258.all h258.len h259) ?_
              rintro _ w48 ⟨rfl, x38⟩
              refine ⟨_, rfl, x38, ?_⟩
              have sx38 := x38.size
              refine RW.pure tabOk 3 rfl ?_
              refine RW.done ?_
              refine NW.next ?_
              refine CW.seq ?_
              refine CW.lex [.L, .W, .L, .X, .W, .W, .W, .X, .M, .W] rfl ?_
              have h260 := h257.ext x38
              refine RW.load tabOk [.int .i64 ib2_0_0, .int .i64 ib2_1_0, .slice Ab2_2_0 lb2_2_0.length cb2_2_0] (h260.at 0) ⟨rfl, rfl, rfl, rfl⟩ rfl rfl rfl rfl ?_
              refine RW.pure tabOk 1 rfl ?_
              have h261 := (((((gb4_8.ext x33).ext x34).turnB x35 (by omega)).ext x36).ext x37).ext x38
              refine RW.load tabOk [.int .i64 ((rd p0.A it4_0).N)] ((h261.at 1).take 1 rfl) ⟨rfl, rfl, rfl, rfl⟩ rfl rfl rfl rfl ?_
              have h262 := h258.ext x38
              obtain ⟨y18, h263, H⟩ := bind_some H
              refine RW.callF (.inl rfl) ent57 ⟨rfl, rfl, rfl, rfl⟩ rfl rfl (hermitageref7_Look.calls k (⟨ib2_0_0, ib2_1_0, lb2_2_0⟩ : Table) Ab2_2_0 cb2_2_0 ((rd p0.A it4_0).N) _ _ h262.all h262.len h263) ?_
              rintro _ w49 ⟨rfl, x39⟩
              refine ⟨_, rfl, x39, ?_⟩
              have sx39 := x39.size
              refine RW.pure tabOk 3 rfl ?_
              refine RW.alloc tabOk (.inl rfl) ⟨rfl, rfl, rfl, rfl⟩ rfl rfl ?_
              intro b11 w50 x40 l11 h264
              have sx40 := x40.size
              have ltb11 := h264.lt
              refine RW.storeBox tabOk h264 [.int .i64 y18.1.Dev, .int .i64 y18.1.At] ⟨rfl, rfl, rfl⟩ rfl rfl rfl rfl rfl rfl rfl rfl ?_
              intro w51 x41 h265
              have h266 : Box w51.heap b11 33 [.int .i64 y18.1.Dev, .int .i64 y18.1.At] := h265
              have sx41 := x41.size
              refine RW.pure tabOk 1 rfl ?_
              refine RW.done ?_
              refine NW.next ?_
              refine CW.seq ?_
              refine CW.lex [.W] rfl ?_
              refine RW.pure tabOk 1 rfl ?_
              refine RW.done ?_
              refine NW.next ?_
              by_cases c19 : y18.2 = true
              ·
               rw [if_pos c19] at H
               refine CW.cond_t rfl (c19) ?_
               refine CW.ord [0, 0, 3] (ofL [(1, .W), (0, .L), (2, .M)] .nil) mixed (by kernel_rfl) ?_
               intro w52 x42
               have sx42 := x42.size
               refine RW.pure tabOk 1 rfl ?_
               have h267 := h266.ext x42
               refine RW.load tabOk [.int .i64 y18.1.Dev, .int .i64 y18.1.At] (h267.at 0) ⟨rfl, rfl, rfl, rfl⟩ rfl rfl rfl rfl ?_
               have h268 := ((((h256.ext x38).ext x39).ext x40).turnB x41 (by omega)).ext x42
               refine RW.storeBox tabOk h268 [.int .i64 y18.1.Dev, .int .i64 y18.1.At] ⟨rfl, rfl, rfl⟩ rfl rfl rfl rfl rfl rfl rfl rfl ?_
               intro w53 x43 h269
               have h270 : Box w53.heap b10 33 [.int .i64 y18.1.Dev, .int .i64 y18.1.At] := h269
               have sx43 := x43.size
               refine RW.done ?_
               have h271 := ((((h262.ext x39).ext x40).turnB x41 h264 ⟨.inl (show (45 : Nat) ≠ 33 by decide), trivial⟩ trivial).ext x42).turnB x43 h268 ⟨.inl (show (45 : Nat) ≠ 33 by decide), trivial⟩ trivial
               have h272 := (((((((h254.ext x36).ext x37).ext x38).ext x39).ext x40).turnB x41 h264 ⟨.inl (show (45 : Nat) ≠ 33 by decide), trivial⟩ trivial).ext x42).turnB x43 h268 ⟨.inl (show (45 : Nat) ≠ 33 by decide), trivial⟩ trivial
               have h273 := ((((((((((gF1_8.ext x33).ext x34).turnB x35 h250 ⟨.inr (by omega), trivial⟩).ext x36).ext x37).ext x38).ext x39).ext x40).turnB x41 h264 ⟨.inr (by omega), trivial⟩).ext x42).turnB x43 h268 ⟨.inr (by omega), trivial⟩
               have h274 := ((((((((((gF2_8.ext x33).ext x34).turnB x35 h250 ⟨.inr (by omega), trivial⟩).ext x36).ext x37).ext x38).ext x39).ext x40).turnB x41 h264 ⟨.inr (by omega), trivial⟩).ext x42).turnB x43 h268 ⟨.inr (by omega), trivial⟩
               have h275 := Ext.turnB (Ext.trans (Ext.turnB (Ext.trans (Ext.trans (Ext.trans (Ext.trans (Ext.trans (Ext.turnB (Ext.trans (Ext.trans x0_8 x33) x34) x35 (by omega)) x36) x37) x38) x39) x40) x41 (by omega)) x42) x43 (by omega)
               have h276 := ((((h260.ext x39).ext x40).turnB x41 (by omega)).ext x42).turnB x43 (by omega)
               have h277 := ((((((((((gb5_8.ext x33).ext x34).turnB x35 (by omega)).ext x36).ext x37).ext x38).ext x39).ext x40).turnB x41 (by omega)).ext x42).turnB x43 (by omega)
               have h278 := (((((((h253.ext x36).ext x37).ext x38).ext x39).ext x40).turnB x41 (by omega)).ext x42).turnB x43 (by omega)
               have h279 := (((((((h252.ext x36).ext x37).ext x38).ext x39).ext x40).turnB x41 (by omega)).ext x42).turnB x43 (by omega)
               have h280 := ((((((((((gb1_8.ext x33).ext x34).turnB x35 (by omega)).ext x36).ext x37).ext x38).ext x39).ext x40).turnB x41 (by omega)).ext x42).turnB x43 (by omega)
               have h281 := ((((((((((gb2_8.ext x33).ext x34).turnB x35 (by omega)).ext x36).ext x37).ext x38).ext x39).ext x40).turnB x41 (by omega)).ext x42).turnB x43 (by omega)
               exact NW.J fun a ha => ⟨0, 0, y17, y18.1.Dev, y18.1.At, ha.sub ⟨rfl, rfl, rfl, rfl, rfl, rfl, rfl, rfl, rfl, rfl, rfl, trivial⟩, by omega, h271, h272, h273, h274, h275, h276, h277, h278, h279, h270, h280, h281, H⟩
              ·
               rw [if_neg c19] at H
               refine CW.cond_f rfl (bool_f c19) ?_
               refine CW.skip ?_
               have h282 := ((h262.ext x39).ext x40).turnB x41 h264 ⟨.inl (show (45 : Nat) ≠ 33 by decide), trivial⟩ trivial
               have h283 := (((((h254.ext x36).ext x37).ext x38).ext x39).ext x40).turnB x41 h264 ⟨.inl (show (45 : Nat) ≠ 33 by decide), trivial⟩ trivial
               have h284 := ((((((((gF1_8.ext x33).ext x34).turnB x35 h250 ⟨.inr (by omega), trivial⟩).ext x36).ext x37).ext x38).ext x39).ext x40).turnB x41 h264 ⟨.inr (by omega), trivial⟩
               have h285 := ((((((((gF2_8.ext x33).ext x34).turnB x35 h250 ⟨.inr (by omega), trivial⟩).ext x36).ext x37).ext x38).ext x39).ext x40).turnB x41 h264 ⟨.inr (by omega), trivial⟩
               have h286 := Ext.turnB (Ext.trans (Ext.trans (Ext.trans (Ext.trans (Ext.trans (Ext.turnB (Ext.trans (Ext.trans x0_8 x33) x34) x35 (by omega)) x36) x37) x38) x39) x40) x41 (by omega)
               have h287 := ((h260.ext x39).ext x40).turnB x41 (by omega)
               have h288 := ((((((((gb5_8.ext x33).ext x34).turnB x35 (by omega)).ext x36).ext x37).ext x38).ext x39).ext x40).turnB x41 (by omega)
               have h289 := (((((h253.ext x36).ext x37).ext x38).ext x39).ext x40).turnB x41 (by omega)
               have h290 := (((((h252.ext x36).ext x37).ext x38).ext x39).ext x40).turnB x41 (by omega)
               have h291 := (((h256.ext x38).ext x39).ext x40).turnB x41 (by omega)
               have h292 := ((((((((gb1_8.ext x33).ext x34).turnB x35 (by omega)).ext x36).ext x37).ext x38).ext x39).ext x40).turnB x41 (by omega)
               have h293 := ((((((((gb2_8.ext x33).ext x34).turnB x35 (by omega)).ext x36).ext x37).ext x38).ext x39).ext x40).turnB x41 (by omega)
               exact NW.J fun a ha => ⟨3, 0, y17, 0, 0, ha.sub ⟨rfl, rfl, rfl, rfl, rfl, rfl, rfl, rfl, rfl, rfl, rfl, trivial⟩, by omega, h282, h283, h284, h285, h286, h287, h288, h289, h290, h291, h292, h293, H⟩
             ·
              rw [if_neg c18] at H
              refine CW.cond_f rfl (bool_f c18) ?_
              refine CW.skip ?_
              have h294 := ((((gL0_b2_2_8.ext x33).ext x34).turnB x35 h250 ⟨.inl (show (45 : Nat) ≠ 33 by decide), trivial⟩ trivial).ext x36).ext x37
              have h295 := (h254.ext x36).ext x37
              have h296 := ((((gF1_8.ext x33).ext x34).turnB x35 h250 ⟨.inr (by omega), trivial⟩).ext x36).ext x37
              have h297 := ((((gF2_8.ext x33).ext x34).turnB x35 h250 ⟨.inr (by omega), trivial⟩).ext x36).ext x37
              have h298 := Ext.trans (Ext.trans (Ext.turnB (Ext.trans (Ext.trans x0_8 x33) x34) x35 (by omega)) x36) x37
              have h299 := ((((gb3_8.ext x33).ext x34).turnB x35 (by omega)).ext x36).ext x37
              have h300 := ((((gb5_8.ext x33).ext x34).turnB x35 (by omega)).ext x36).ext x37
              have h301 := (h253.ext x36).ext x37
              have h302 := (h252.ext x36).ext x37
              have h303 := ((((gb1_8.ext x33).ext x34).turnB x35 (by omega)).ext x36).ext x37
              have h304 := ((((gb2_8.ext x33).ext x34).turnB x35 (by omega)).ext x36).ext x37
              exact NW.J fun a ha => ⟨1, 1, 0, 0, 0, ha.sub ⟨rfl, rfl, rfl, rfl, rfl, rfl, rfl, rfl, rfl, rfl, rfl, trivial⟩, by omega, h294, h295, h296, h297, h298, h299, h300, h301, h302, h256, h303, h304, H⟩
            intro a w47 hJ hp
            obtain ⟨it8_9, it16_9, it17_9, ib10_0_9, ib10_1_9, hS, hle, gL0_b2_2_9, gF4_9, gF1_9, gF2_9, x0_9, gb3_9, gb5_9, gb6_9, gb9_9, gb10_9, gb1_9, gb2_9, H⟩ := hJ
            unfold hermitagelaw8_TableExact.j8 at H
            refine CW.go hp hS ?_
            refine CW.seq ?_
            refine CW.ord [0, 0, 2, 0, 14, 30, 62, 62, 254, 510, 1022, 2046, 4094, 2046, 16382, 32766, 65534, 131070, 131070, 524286, 1048574, 2097150, 4194302, 4194302, 16777214, 33554430, 33554431, 134217727] (ofL [(1, .W), (3, .W), (0, .L), (2, .X), (4, .W), (5, .W), (6, .L), (7, .L), (8, .W), (9, .W), (10, .W), (11, .W), (13, .W), (12, .X), (14, .W), (15, .W), (16, .W), (17, .W), (18, .W), (19, .W), (20, .W), (21, .W), (22, .L), (23, .L), (24, .X), (25, .W), (26, .M), (27, .W)] .nil) mixed (by kernel_rfl) ?_
            intro w54 x44
            have sx44 := x44.size
            refine RW.pure tabOk 2 rfl ?_
            have h305 := gb3_9.ext x44
            refine RW.load tabOk [.int .i64 ib2_0_0, .int .i64 ib2_1_0, .slice Ab2_2_0 lb2_2_0.length cb2_2_0] (h305.at 0) ⟨rfl, rfl, rfl, rfl⟩ rfl rfl rfl rfl ?_
            obtain ⟨y19, h306, H⟩ := bind_some H
            refine RW.callF (.inl rfl) ent13 ⟨rfl, rfl, rfl, rfl⟩ rfl rfl (hermitagelaw8_num.calls y15.2 _ _ h306) ?_
            rintro _ w55 ⟨rfl, x45⟩
            refine ⟨_, rfl, x45, ?_⟩
            have sx45 := x45.size
            refine RW.pure tabOk 2 rfl ?_
            by_cases c20 : y19 = it8_9
            ·
             rw [if_pos c20] at H
             refine RW.bool 165 (b' := true) (beq_t c20) rfl ?_
             have h307 := (gb9_9.ext x44).ext x45
             refine RW.load tabOk [.int .i64 y15.1.Dev, .int .i64 y15.1.At] (h307.at 0) ⟨rfl, rfl, rfl, rfl⟩ rfl rfl rfl rfl ?_
             have h308 := (gb10_9.ext x44).ext x45
             refine RW.load tabOk [.int .i64 ib10_0_9, .int .i64 ib10_1_9] (h308.at 0) ⟨rfl, rfl, rfl, rfl⟩ rfl rfl rfl rfl ?_
             refine RW.eqAgg eqgPtr (eqPtr y15.1 (⟨ib10_0_9, ib10_1_9⟩ : Ptr)) ⟨rfl, rfl, rfl, rfl⟩ rfl rfl rfl rfl ?_
             refine RW.pure tabOk 2 rfl ?_
             by_cases c21 : y15.1 = (⟨ib10_0_9, ib10_1_9⟩ : Ptr)
             ·
              rw [if_pos c21] at H
              refine RW.bool 170 (b' := true) (decide_eq_true c21) rfl ?_
              refine RW.pure tabOk 2 rfl ?_
              obtain ⟨y20, h309, H⟩ := bind_some H
              refine RW.callF (.inl rfl) ent13 ⟨rfl, rfl, rfl, rfl⟩ rfl rfl (hermitagelaw8_num.calls y16.2 _ _ h309) ?_
              rintro _ w56 ⟨rfl, x46⟩
              refine ⟨_, rfl, x46, ?_⟩
              have sx46 := x46.size
              refine RW.pure tabOk 3 rfl ?_
              by_cases c22 : y20 = it16_9
              ·
               rw [if_pos c22] at H
               refine RW.bool 176 (b' := true) (beq_t c22) rfl ?_
               refine RW.pure tabOk 5 rfl ?_
               by_cases c23 : y16.1 = it17_9
               ·
                rw [if_pos c23] at H
                refine RW.bool 181 (b' := true) (beq_t c23) rfl ?_
                have h310 := ((gb6_9.ext x44).ext x45).ext x46
                refine RW.load tabOk [.int .i64 y3.Dev, .int .i64 y3.Size, .slice A4 y3.List_.length c_4] (h310.at 0) ⟨rfl, rfl, rfl, rfl⟩ rfl rfl rfl rfl ?_
                have h311 := (h305.ext x45).ext x46
                refine RW.load tabOk [.int .i64 ib2_0_0, .int .i64 ib2_1_0, .slice Ab2_2_0 lb2_2_0.length cb2_2_0] (h311.at 0) ⟨rfl, rfl, rfl, rfl⟩ rfl rfl rfl rfl ?_
                have h312 := ((gF4_9.ext x44).ext x45).ext x46
                have h313 := ((gL0_b2_2_9.ext x44).ext x45).ext x46
                obtain ⟨y21, h314, H⟩ := bind_some H
                refine RW.callF (.inl rfl) ent58 ⟨rfl, rfl, rfl, rfl⟩ rfl rfl (hermitageref0_EqTable.calls k y3 A4 c_4 (⟨ib2_0_0, ib2_1_0, lb2_2_0⟩ : Table) Ab2_2_0 cb2_2_0 _ _ h312.all h312.len h313.all h313.len h314) ?_
                rintro _ w57 ⟨rfl, x47⟩
                refine ⟨_, rfl, x47, ?_⟩
                have sx47 := x47.size
                refine RW.pure tabOk 1 rfl ?_
                have h315 := (((gb5_9.ext x44).ext x45).ext x46).ext x47
                refine RW.storeBox tabOk h315 [.int .i64 ib2_0_0, .int .i64 ib2_1_0, .slice Ab2_2_0 lb2_2_0.length cb2_2_0] ⟨rfl, rfl, rfl⟩ rfl rfl rfl rfl rfl rfl rfl rfl ?_
                intro w58 x48 h316
                have h317 : Box w58.heap b5 24 [.int .i64 ib2_0_0, .int .i64 ib2_1_0, .slice Ab2_2_0 lb2_2_0.length cb2_2_0] := h316
                have sx48 := x48.size
                refine RW.pure tabOk 1 rfl ?_
                refine RW.done ?_
                refine NW.next ?_
                refine CW.ret ?_
                refine NW.ret_block (NW.ret_then ?_)
                have h318 := (h313.ext x47).turnB x48 h315 ⟨.inl (show (45 : Nat) ≠ 24 by decide), trivial⟩ trivial
                have h319 := ((((gF1_9.ext x44).ext x45).ext x46).ext x47).turnB x48 h315 ⟨.inr (by omega), trivial⟩
                have h320 := ((((gF2_9.ext x44).ext x45).ext x46).ext x47).turnB x48 h315 ⟨.inr (by omega), trivial⟩
                have h321 := Ext.turnB (Ext.trans (Ext.trans (Ext.trans (Ext.trans x0_9 x44) x45) x46) x47) x48 (by omega)
                have h322 := ((((gb1_9.ext x44).ext x45).ext x46).ext x47).turnB x48 (by omega)
                have h323 := ((((gb2_9.ext x44).ext x45).ext x46).ext x47).turnB x48 (by omega)
                exact NW.ret2 rfl (resOne_cell tabOk (h317.at 0) rfl rfl rfl) (by rfl) ⟨ib2_0_0, ib2_1_0, lb2_2_0, Ab2_2_0, cb2_2_0, y21, rfl, by omega, (h318.sub ⟨(.inl ⟨by omega, by omega, rfl⟩), trivial⟩ trivial), h319, h320, h318, h321, h322, h323, H⟩
               ·
                rw [if_neg c23] at H
                refine RW.bool 181 (b' := false) (beq_f c23) rfl ?_
                refine RW.pure tabOk 4 rfl ?_
                have h324 := ((gb5_9.ext x44).ext x45).ext x46
                refine RW.storeBox tabOk h324 [.int .i64 ib2_0_0, .int .i64 ib2_1_0, .slice Ab2_2_0 lb2_2_0.length cb2_2_0] ⟨rfl, rfl, rfl⟩ rfl rfl rfl rfl rfl rfl rfl rfl ?_
                intro w59 x49 h325
                have h326 : Box w59.heap b5 24 [.int .i64 ib2_0_0, .int .i64 ib2_1_0, .slice Ab2_2_0 lb2_2_0.length cb2_2_0] := h325
                have sx49 := x49.size
                refine RW.pure tabOk 1 rfl ?_
                refine RW.done ?_
                refine NW.next ?_
                refine CW.ret ?_
                refine NW.ret_block (NW.ret_then ?_)
                have h327 := (((gL0_b2_2_9.ext x44).ext x45).ext x46).turnB x49 h324 ⟨.inl (show (45 : Nat) ≠ 24 by decide), trivial⟩ trivial
                have h328 := (((gF1_9.ext x44).ext x45).ext x46).turnB x49 h324 ⟨.inr (by omega), trivial⟩
                have h329 := (((gF2_9.ext x44).ext x45).ext x46).turnB x49 h324 ⟨.inr (by omega), trivial⟩
                have h330 := Ext.turnB (Ext.trans (Ext.trans (Ext.trans x0_9 x44) x45) x46) x49 (by omega)
                have h331 := (((gb1_9.ext x44).ext x45).ext x46).turnB x49 (by omega)
                have h332 := (((gb2_9.ext x44).ext x45).ext x46).turnB x49 (by omega)
                exact NW.ret2 rfl (resOne_cell tabOk (h326.at 0) rfl rfl rfl) (by rfl) ⟨ib2_0_0, ib2_1_0, lb2_2_0, Ab2_2_0, cb2_2_0, false, rfl, by omega, (h327.sub ⟨(.inl ⟨by omega, by omega, rfl⟩), trivial⟩ trivial), h328, h329, h327, h330, h331, h332, H⟩
              ·
               rw [if_neg c22] at H
               refine RW.bool 176 (b' := false) (beq_f c22) rfl ?_
               refine RW.pure tabOk 9 rfl ?_
               have h333 := ((gb5_9.ext x44).ext x45).ext x46
               refine RW.storeBox tabOk h333 [.int .i64 ib2_0_0, .int .i64 ib2_1_0, .slice Ab2_2_0 lb2_2_0.length cb2_2_0] ⟨rfl, rfl, rfl⟩ rfl rfl rfl rfl rfl rfl rfl rfl ?_
               intro w60 x50 h334
               have h335 : Box w60.heap b5 24 [.int .i64 ib2_0_0, .int .i64 ib2_1_0, .slice Ab2_2_0 lb2_2_0.length cb2_2_0] := h334
               have sx50 := x50.size
               refine RW.pure tabOk 1 rfl ?_
               refine RW.done ?_
               refine NW.next ?_
               refine CW.ret ?_
               refine NW.ret_block (NW.ret_then ?_)
               have h336 := (((gL0_b2_2_9.ext x44).ext x45).ext x46).turnB x50 h333 ⟨.inl (show (45 : Nat) ≠ 24 by decide), trivial⟩ trivial
               have h337 := (((gF1_9.ext x44).ext x45).ext x46).turnB x50 h333 ⟨.inr (by omega), trivial⟩
               have h338 := (((gF2_9.ext x44).ext x45).ext x46).turnB x50 h333 ⟨.inr (by omega), trivial⟩
               have h339 := Ext.turnB (Ext.trans (Ext.trans (Ext.trans x0_9 x44) x45) x46) x50 (by omega)
               have h340 := (((gb1_9.ext x44).ext x45).ext x46).turnB x50 (by omega)
               have h341 := (((gb2_9.ext x44).ext x45).ext x46).turnB x50 (by omega)
               exact NW.ret2 rfl (resOne_cell tabOk (h335.at 0) rfl rfl rfl) (by rfl) ⟨ib2_0_0, ib2_1_0, lb2_2_0, Ab2_2_0, cb2_2_0, false, rfl, by omega, (h336.sub ⟨(.inl ⟨by omega, by omega, rfl⟩), trivial⟩ trivial), h337, h338, h336, h339, h340, h341, H⟩
             ·
              rw [if_neg c21] at H
              refine RW.bool 170 (b' := false) (decide_eq_false c21) rfl ?_
              refine RW.pure tabOk 15 rfl ?_
              have h342 := (gb5_9.ext x44).ext x45
              refine RW.storeBox tabOk h342 [.int .i64 ib2_0_0, .int .i64 ib2_1_0, .slice Ab2_2_0 lb2_2_0.length cb2_2_0] ⟨rfl, rfl, rfl⟩ rfl rfl rfl rfl rfl rfl rfl rfl ?_
              intro w61 x51 h343
              have h344 : Box w61.heap b5 24 [.int .i64 ib2_0_0, .int .i64 ib2_1_0, .slice Ab2_2_0 lb2_2_0.length cb2_2_0] := h343
              have sx51 := x51.size
              refine RW.pure tabOk 1 rfl ?_
              refine RW.done ?_
              refine NW.next ?_
              refine CW.ret ?_
              refine NW.ret_block (NW.ret_then ?_)
              have h345 := ((gL0_b2_2_9.ext x44).ext x45).turnB x51 h342 ⟨.inl (show (45 : Nat) ≠ 24 by decide), trivial⟩ trivial
              have h346 := ((gF1_9.ext x44).ext x45).turnB x51 h342 ⟨.inr (by omega), trivial⟩
              have h347 := ((gF2_9.ext x44).ext x45).turnB x51 h342 ⟨.inr (by omega), trivial⟩
              have h348 := Ext.turnB (Ext.trans (Ext.trans x0_9 x44) x45) x51 (by omega)
              have h349 := ((gb1_9.ext x44).ext x45).turnB x51 (by omega)
              have h350 := ((gb2_9.ext x44).ext x45).turnB x51 (by omega)
              exact NW.ret2 rfl (resOne_cell tabOk (h344.at 0) rfl rfl rfl) (by rfl) ⟨ib2_0_0, ib2_1_0, lb2_2_0, Ab2_2_0, cb2_2_0, false, rfl, by omega, (h345.sub ⟨(.inl ⟨by omega, by omega, rfl⟩), trivial⟩ trivial), h346, h347, h345, h348, h349, h350, H⟩
            ·
             rw [if_neg c20] at H
             refine RW.bool 165 (b' := false) (beq_f c20) rfl ?_
             refine RW.pure tabOk 20 rfl ?_
             have h351 := (gb5_9.ext x44).ext x45
             refine RW.storeBox tabOk h351 [.int .i64 ib2_0_0, .int .i64 ib2_1_0, .slice Ab2_2_0 lb2_2_0.length cb2_2_0] ⟨rfl, rfl, rfl⟩ rfl rfl rfl rfl rfl rfl rfl rfl ?_
             intro w62 x52 h352
             have h353 : Box w62.heap b5 24 [.int .i64 ib2_0_0, .int .i64 ib2_1_0, .slice Ab2_2_0 lb2_2_0.length cb2_2_0] := h352
             have sx52 := x52.size
             refine RW.pure tabOk 1 rfl ?_
             refine RW.done ?_
             refine NW.next ?_
             refine CW.ret ?_
             refine NW.ret_block (NW.ret_then ?_)
             have h354 := ((gL0_b2_2_9.ext x44).ext x45).turnB x52 h351 ⟨.inl (show (45 : Nat) ≠ 24 by decide), trivial⟩ trivial
             have h355 := ((gF1_9.ext x44).ext x45).turnB x52 h351 ⟨.inr (by omega), trivial⟩
             have h356 := ((gF2_9.ext x44).ext x45).turnB x52 h351 ⟨.inr (by omega), trivial⟩
             have h357 := Ext.turnB (Ext.trans (Ext.trans x0_9 x44) x45) x52 (by omega)
             have h358 := ((gb1_9.ext x44).ext x45).turnB x52 (by omega)
             have h359 := ((gb2_9.ext x44).ext x45).turnB x52 (by omega)
             exact NW.ret2 rfl (resOne_cell tabOk (h353.at 0) rfl rfl rfl) (by rfl) ⟨ib2_0_0, ib2_1_0, lb2_2_0, Ab2_2_0, cb2_2_0, false, rfl, by omega, (h354.sub ⟨(.inl ⟨by omega, by omega, rfl⟩), trivial⟩ trivial), h355, h356, h354, h357, h358, h359, H⟩
           ·
            rw [if_neg c17] at H
            refine CW.cond_f rfl (bool_f c17) ?_
            refine CW.seq ?_
            refine CW.lex [.L, .W, .L, .W, .L, .X, .W, .W, .W, .W, .W] rfl ?_
            refine RW.load tabOk [.int .i64 y3.Dev, .int .i64 y3.Size, .slice A4 y3.List_.length c_4] (gb6_8.at 0) ⟨rfl, rfl, rfl, rfl⟩ rfl rfl rfl rfl ?_
            refine RW.pure tabOk 1 rfl ?_
            refine RW.load tabOk [.int .i64 ((rd p0.A it4_0).N)] ((gb4_8.at 1).take 1 rfl) ⟨rfl, rfl, rfl, rfl⟩ rfl rfl rfl rfl ?_
            refine RW.pure tabOk 1 rfl ?_
            refine RW.load tabOk [.int .i64 ((rd p0.A it4_0).M)] ((gb4_8.at 2).take 1 rfl) ⟨rfl, rfl, rfl, rfl⟩ rfl rfl rfl rfl ?_
            obtain ⟨y22, h360, H⟩ := bind_some H
            refine RW.callF (.inl rfl) ent14 ⟨rfl, rfl, rfl, rfl⟩ rfl rfl (table_Range.calls k y3 A4 c_4 ((rd p0.A it4_0).N) ((rd p0.A it4_0).M) _ _ gF4_8.all gF4_8.len h360) ?_
            rintro _ w63 ⟨A11, c_11, rfl, x53, h361⟩
            refine ⟨_, rfl, x53, ?_⟩
            have sx53 := x53.size
            have h362 : Ow kEntry 45 w63.heap (okL [(w41.heap.size, some w63.heap.size, some 45)]) (okL []) A11 c_11 y22.1 := h361.close
            refine RW.pure tabOk 5 rfl ?_
            refine RW.done ?_
            refine NW.next ?_
            refine CW.seq ?_
            refine CW.lex [.W] rfl ?_
            refine RW.pure tabOk 1 rfl ?_
            refine RW.done ?_
            refine NW.next ?_
            refine CW.seqJ (fun a w65 => ∃ (it8_10 : Int) (lt23_10 : List Entry) (At23_10 : Option Addr) (ct23_10 : Nat), Sat 223 [(2, .pointer (some ⟨b3, 0, none⟩)), (4, .pointer (some ⟨b5, 0, none⟩)), (6, .pointer (some ⟨b6, 0, none⟩)), (8, .int .i64 it8_10), (21, .slice A11 y22.1.length c_11), (22, .int .i64 y22.2), (23, .slice At23_10 lt23_10.length ct23_10)] a ∧ w63.heap.size ≤ w65.heap.size ∧ Ow kEntry 45 w65.heap (okL [(w63.heap.size, none, some 45)]) (okL []) At23_10 ct23_10 lt23_10 ∧ Ow kEntry 45 w65.heap (okL [(w2.heap.size, some w6.heap.size, some 45)]) (okL []) Ab2_2_0 cb2_2_0 lb2_2_0 ∧ Ow kEntry 45 w65.heap (okL [(w13.heap.size, some w14.heap.size, some 45)]) (okL []) A4 c_4 y3.List_ ∧ Ow kEntry 45 w65.heap (okL [(w41.heap.size, some w63.heap.size, some 45)]) (okL []) A11 c_11 y22.1 ∧ Sl kEntry w65.heap (okL [(0, some w.heap.size, none)]) A1 p0.T.List_ ∧ Sl khermitagelaw8Act w65.heap (okL [(0, some w.heap.size, none)]) A2 p0.A ∧ Ext w w65 ∧ Box w65.heap b3 24 [.int .i64 ib2_0_0, .int .i64 ib2_1_0, .slice Ab2_2_0 lb2_2_0.length cb2_2_0] ∧ Box w65.heap b5 24 [.int .i64 0, .int .i64 0, .slice none 0 0] ∧ Box w65.heap b6 24 [.int .i64 y3.Dev, .int .i64 y3.Size, .slice A4 y3.List_.length c_4] ∧ Box w65.heap b1 27 [.int .i64 p0.T.Dev, .int .i64 p0.T.Size, .slice A1 p0.T.List_.length c_1, .slice A2 p0.A.length c_2] ∧ Box w65.heap b2 24 [.int .i64 ib2_0_0, .int .i64 ib2_1_0, .slice Ab2_2_0 lb2_2_0.length cb2_2_0] ∧ hermitagelaw8_TableExact.j9 k it4_0 ib2_0_0 ib2_1_0 lb2_2_0 y3 y22 (hermitagelaw8_TableExact.l0 p0 k n1) it8_10 lt23_10 = some r) ?_ ?_
            ·
             refine CW.seqJ (fun a w66 => ∃ (bt45_11 : Bool), Sat 223 [(2, .pointer (some ⟨b3, 0, none⟩)), (3, .pointer (some ⟨b4, 0, none⟩)), (4, .pointer (some ⟨b5, 0, none⟩)), (6, .pointer (some ⟨b6, 0, none⟩)), (8, .int .i64 1), (21, .slice A11 y22.1.length c_11), (22, .int .i64 y22.2), (23, .slice none 0 0), (45, .bool bt45_11)] a ∧ w63.heap.size ≤ w66.heap.size ∧ Ow kEntry 45 w66.heap (okL [(w2.heap.size, some w6.heap.size, some 45)]) (okL []) Ab2_2_0 cb2_2_0 lb2_2_0 ∧ Ow kEntry 45 w66.heap (okL [(w13.heap.size, some w14.heap.size, some 45)]) (okL []) A4 c_4 y3.List_ ∧ Ow kEntry 45 w66.heap (okL [(w41.heap.size, some w63.heap.size, some 45)]) (okL []) A11 c_11 y22.1 ∧ Sl kEntry w66.heap (okL [(0, some w.heap.size, none)]) A1 p0.T.List_ ∧ Sl khermitagelaw8Act w66.heap (okL [(0, some w.heap.size, none)]) A2 p0.A ∧ Ext w w66 ∧ Box w66.heap b3 24 [.int .i64 ib2_0_0, .int .i64 ib2_1_0, .slice Ab2_2_0 lb2_2_0.length cb2_2_0] ∧ Box w66.heap b4 35 [.int .i64 ((rd p0.A it4_0).Do), .int .i64 ((rd p0.A it4_0).N), .int .i64 ((rd p0.A it4_0).M), .int .i64 (((rd p0.A it4_0).P).Dev), .int .i64 (((rd p0.A it4_0).P).At)] ∧ Box w66.heap b5 24 [.int .i64 0, .int .i64 0, .slice none 0 0] ∧ Box w66.heap b6 24 [.int .i64 y3.Dev, .int .i64 y3.Size, .slice A4 y3.List_.length c_4] ∧ Box w66.heap b1 27 [.int .i64 p0.T.Dev, .int .i64 p0.T.Size, .slice A1 p0.T.List_.length c_1, .slice A2 p0.A.length c_2] ∧ Box w66.heap b2 24 [.int .i64 ib2_0_0, .int .i64 ib2_1_0, .slice Ab2_2_0 lb2_2_0.length cb2_2_0] ∧ hermitagelaw8_TableExact.j10 p0 k it4_0 ib2_0_0 ib2_1_0 lb2_2_0 y3 y22 (hermitagelaw8_TableExact.l0 p0 k n1) bt45_11 = some r) ?_ ?_
             ·
              refine CW.lex [.W, .W, .W, .L, .X, .W] rfl ?_
              refine RW.pure tabOk 2 rfl ?_
              by_cases c24 : y4 = true
              ·
               rw [if_pos c24] at H
               refine RW.bool 41 (b' := true) (c24) rfl ?_
               refine RW.pure tabOk 1 rfl ?_
               have h363 := gb4_8.ext x53
               refine RW.load tabOk [.int .i64 ((rd p0.A it4_0).M)] ((h363.at 2).take 1 rfl) ⟨rfl, rfl, rfl, rfl⟩ rfl rfl rfl rfl ?_
               obtain ⟨y23, h364, H⟩ := bind_some H
               refine RW.callF (.inl rfl) ent50 ⟨rfl, rfl, rfl, rfl⟩ rfl rfl (hermitageref0_Num.calls ((rd p0.A it4_0).M) 64 _ _ h364) ?_
               rintro _ w67 ⟨rfl, x54⟩
               refine ⟨_, rfl, x54, ?_⟩
               have sx54 := x54.size
               refine RW.pure tabOk 1 rfl ?_
               refine RW.done ?_
               have h365 := (gL0_b2_2_8.ext x53).ext x54
               have h366 := (gF4_8.ext x53).ext x54
               have h367 := h362.ext x54
               have h368 := (gF1_8.ext x53).ext x54
               have h369 := (gF2_8.ext x53).ext x54
               have h370 := Ext.trans (Ext.trans x0_8 x53) x54
               have h371 := (gb3_8.ext x53).ext x54
               have h372 := h363.ext x54
               have h373 := (gb5_8.ext x53).ext x54
               have h374 := (gb6_8.ext x53).ext x54
               have h375 := (gb1_8.ext x53).ext x54
               have h376 := (gb2_8.ext x53).ext x54
               exact NW.J fun a ha => ⟨y23, ha.sub ⟨rfl, rfl, rfl, rfl, rfl, rfl, rfl, rfl, rfl, trivial⟩, by omega, h365, h366, h367, h368, h369, h370, h371, h372, h373, h374, h375, h376, H⟩
              ·
               rw [if_neg c24] at H
               refine RW.bool 41 (b' := false) (bool_f c24) rfl ?_
               refine RW.pure tabOk 4 rfl ?_
               refine RW.done ?_
               have h377 := gL0_b2_2_8.ext x53
               have h378 := gF4_8.ext x53
               have h379 := gF1_8.ext x53
               have h380 := gF2_8.ext x53
               have h381 := Ext.trans x0_8 x53
               have h382 := gb3_8.ext x53
               have h383 := gb4_8.ext x53
               have h384 := gb5_8.ext x53
               have h385 := gb6_8.ext x53
               have h386 := gb1_8.ext x53
               have h387 := gb2_8.ext x53
               exact NW.J fun a ha => ⟨false, ha.sub ⟨rfl, rfl, rfl, rfl, rfl, rfl, rfl, rfl, rfl, trivial⟩, by omega, h377, h378, h362, h379, h380, h381, h382, h383, h384, h385, h386, h387, H⟩
             intro a w66 hJ hp
             obtain ⟨bt45_11, hS, hle, gL0_b2_2_11, gF4_11, gF11_11, gF1_11, gF2_11, x0_11, gb3_11, gb4_11, gb5_11, gb6_11, gb1_11, gb2_11, H⟩ := hJ
             unfold hermitagelaw8_TableExact.j10 at H
             refine CW.go hp hS ?_
             by_cases c25 : bt45_11 = true
             ·
              rw [if_pos c25] at H
              refine CW.cond_t rfl (c25) ?_
              refine CW.lex [.L, .W, .L, .W, .L, .X, .W, .W] rfl ?_
              refine RW.load tabOk [.int .i64 ib2_0_0, .int .i64 ib2_1_0, .slice Ab2_2_0 lb2_2_0.length cb2_2_0] (gb3_11.at 0) ⟨rfl, rfl, rfl, rfl⟩ rfl rfl rfl rfl ?_
              refine RW.pure tabOk 1 rfl ?_
              refine RW.load tabOk [.int .i64 ((rd p0.A it4_0).N)] ((gb4_11.at 1).take 1 rfl) ⟨rfl, rfl, rfl, rfl⟩ rfl rfl rfl rfl ?_
              refine RW.pure tabOk 1 rfl ?_
              refine RW.load tabOk [.int .i64 ((rd p0.A it4_0).M)] ((gb4_11.at 2).take 1 rfl) ⟨rfl, rfl, rfl, rfl⟩ rfl rfl rfl rfl ?_
              obtain ⟨y24, h388, H⟩ := bind_some H
              refine RW.callF (.inl rfl) ent59 ⟨rfl, rfl, rfl, rfl⟩ rfl rfl (hermitageref7_Range.calls k (⟨ib2_0_0, ib2_1_0, lb2_2_0⟩ : Table) Ab2_2_0 cb2_2_0 ((rd p0.A it4_0).N) ((rd p0.A it4_0).M) _ _ gL0_b2_2_11.all gL0_b2_2_11.len h388) ?_
              rintro _ w68 ⟨A12, c_12, rfl, x55, h389⟩
              refine ⟨_, rfl, x55, ?_⟩
              have sx55 := x55.size
              have h390 : Ow kEntry 45 w68.heap (okL [(w66.heap.size, some w68.heap.size, some 45)]) (okL []) A12 c_12 y24 := h389.close
              refine RW.pure tabOk 2 rfl ?_
              refine RW.done ?_
              have h391 := gL0_b2_2_11.ext x55
              have h392 := gF4_11.ext x55
              have h393 := gF11_11.ext x55
              have h394 := gF1_11.ext x55
              have h395 := gF2_11.ext x55
              have h396 := Ext.trans x0_11 x55
              have h397 := gb3_11.ext x55
              have h398 := gb5_11.ext x55
              have h399 := gb6_11.ext x55
              have h400 := gb1_11.ext x55
              have h401 := gb2_11.ext x55
              exact NW.J fun a ha => ⟨0, y24, A12, c_12, ha.sub ⟨rfl, rfl, rfl, rfl, rfl, rfl, rfl, trivial⟩, by omega, (h390.sub ⟨(.inl ⟨by omega, trivial, rfl⟩), trivial⟩ trivial), h391, h392, h393, h394, h395, h396, h397, h398, h399, h400, h401, H⟩
             ·
              rw [if_neg c25] at H
              refine CW.cond_f rfl (bool_f c25) ?_
              refine CW.skip ?_
              exact NW.J fun a ha => ⟨1, ([] : List Entry), none, 0, ha.sub ⟨rfl, rfl, rfl, rfl, rfl, rfl, rfl, trivial⟩, by omega, Ow.nil, gL0_b2_2_11, gF4_11, gF11_11, gF1_11, gF2_11, x0_11, gb3_11, gb5_11, gb6_11, gb1_11, gb2_11, H⟩
            intro a w65 hJ hp
            obtain ⟨it8_10, lt23_10, At23_10, ct23_10, hS, hle, ft23_10, gL0_b2_2_10, gF4_10, gF11_10, gF1_10, gF2_10, x0_10, gb3_10, gb5_10, gb6_10, gb1_10, gb2_10, H⟩ := hJ
            unfold hermitagelaw8_TableExact.j9 at H
            refine CW.go hp hS ?_
            have h402 : Ow kEntry 45 w65.heap (okL [(w63.heap.size, some w65.heap.size, some 45)]) (okL []) At23_10 ct23_10 lt23_10 := ft23_10.close
            refine CW.seq ?_
            refine CW.ord [0, 0, 2, 0, 14, 30, 62, 62, 254, 510, 1022, 2046, 2046, 8190, 16382, 16383, 65535] (ofL [(1, .W), (3, .W), (0, .L), (2, .X), (4, .W), (5, .W), (6, .W), (7, .W), (8, .X), (9, .W), (10, .W), (11, .L), (12, .L), (13, .X), (14, .W), (15, .M), (16, .W)] .nil) mixed (by kernel_rfl) ?_
            intro w69 x56
            have sx56 := x56.size
            refine RW.pure tabOk 2 rfl ?_
            have h403 := gb3_10.ext x56
            refine RW.load tabOk [.int .i64 ib2_0_0, .int .i64 ib2_1_0, .slice Ab2_2_0 lb2_2_0.length cb2_2_0] (h403.at 0) ⟨rfl, rfl, rfl, rfl⟩ rfl rfl rfl rfl ?_
            obtain ⟨y25, h404, H⟩ := bind_some H
            refine RW.callF (.inl rfl) ent13 ⟨rfl, rfl, rfl, rfl⟩ rfl rfl (hermitagelaw8_num.calls y22.2 _ _ h404) ?_
            rintro _ w70 ⟨rfl, x57⟩
            refine ⟨_, rfl, x57, ?_⟩
            have sx57 := x57.size
            refine RW.pure tabOk 2 rfl ?_
            by_cases c26 : y25 = it8_10
            ·
             rw [if_pos c26] at H
             refine RW.bool 57 (b' := true) (beq_t c26) rfl ?_
             refine RW.pure tabOk 2 rfl ?_
             have h405 := (gF11_10.ext x56).ext x57
             have h406 := (h402.ext x56).ext x57
             obtain ⟨y26, h407, H⟩ := bind_some H
             refine RW.callF (.inl rfl) ent60 ⟨rfl, rfl, rfl, rfl⟩ rfl rfl (hermitageref0_EqEntries.calls k A11 c_11 y22.1 At23_10 ct23_10 lt23_10 _ _ h405.all h405.len h406.all h406.len h407) ?_
             rintro _ w71 ⟨rfl, x58⟩
             refine ⟨_, rfl, x58, ?_⟩
             have sx58 := x58.size
             refine RW.pure tabOk 2 rfl ?_
             by_cases c27 : y26 = true
             ·
              rw [if_pos c27] at H
              refine RW.bool 62 (b' := true) (c27) rfl ?_
              have h408 := ((gb6_10.ext x56).ext x57).ext x58
              refine RW.load tabOk [.int .i64 y3.Dev, .int .i64 y3.Size, .slice A4 y3.List_.length c_4] (h408.at 0) ⟨rfl, rfl, rfl, rfl⟩ rfl rfl rfl rfl ?_
              have h409 := (h403.ext x57).ext x58
              refine RW.load tabOk [.int .i64 ib2_0_0, .int .i64 ib2_1_0, .slice Ab2_2_0 lb2_2_0.length cb2_2_0] (h409.at 0) ⟨rfl, rfl, rfl, rfl⟩ rfl rfl rfl rfl ?_
              have h410 := ((gF4_10.ext x56).ext x57).ext x58
              have h411 := ((gL0_b2_2_10.ext x56).ext x57).ext x58
              obtain ⟨y27, h412, H⟩ := bind_some H
              refine RW.callF (.inl rfl) ent58 ⟨rfl, rfl, rfl, rfl⟩ rfl rfl (hermitageref0_EqTable.calls k y3 A4 c_4 (⟨ib2_0_0, ib2_1_0, lb2_2_0⟩ : Table) Ab2_2_0 cb2_2_0 _ _ h410.all h410.len h411.all h411.len h412) ?_
              rintro _ w72 ⟨rfl, x59⟩
              refine ⟨_, rfl, x59, ?_⟩
              have sx59 := x59.size
              refine RW.pure tabOk 1 rfl ?_
              have h413 := (((gb5_10.ext x56).ext x57).ext x58).ext x59
              refine RW.storeBox tabOk h413 [.int .i64 ib2_0_0, .int .i64 ib2_1_0, .slice Ab2_2_0 lb2_2_0.length cb2_2_0] ⟨rfl, rfl, rfl⟩ rfl rfl rfl rfl rfl rfl rfl rfl ?_
              intro w73 x60 h414
              have h415 : Box w73.heap b5 24 [.int .i64 ib2_0_0, .int .i64 ib2_1_0, .slice Ab2_2_0 lb2_2_0.length cb2_2_0] := h414
              have sx60 := x60.size
              refine RW.pure tabOk 1 rfl ?_
              refine RW.done ?_
              refine NW.next ?_
              refine CW.ret ?_
              refine NW.ret_block (NW.ret_then ?_)
              have h416 := (h411.ext x59).turnB x60 h413 ⟨.inl (show (45 : Nat) ≠ 24 by decide), trivial⟩ trivial
              have h417 := ((((gF1_10.ext x56).ext x57).ext x58).ext x59).turnB x60 h413 ⟨.inr (by omega), trivial⟩
              have h418 := ((((gF2_10.ext x56).ext x57).ext x58).ext x59).turnB x60 h413 ⟨.inr (by omega), trivial⟩
              have h419 := Ext.turnB (Ext.trans (Ext.trans (Ext.trans (Ext.trans x0_10 x56) x57) x58) x59) x60 (by omega)
              have h420 := ((((gb1_10.ext x56).ext x57).ext x58).ext x59).turnB x60 (by omega)
              have h421 := ((((gb2_10.ext x56).ext x57).ext x58).ext x59).turnB x60 (by omega)
              exact NW.ret2 rfl (resOne_cell tabOk (h415.at 0) rfl rfl rfl) (by rfl) ⟨ib2_0_0, ib2_1_0, lb2_2_0, Ab2_2_0, cb2_2_0, y27, rfl, by omega, (h416.sub ⟨(.inl ⟨by omega, by omega, rfl⟩), trivial⟩ trivial), h417, h418, h416, h419, h420, h421, H⟩
             ·
              rw [if_neg c27] at H
              refine RW.bool 62 (b' := false) (bool_f c27) rfl ?_
              refine RW.pure tabOk 4 rfl ?_
              have h422 := ((gb5_10.ext x56).ext x57).ext x58
              refine RW.storeBox tabOk h422 [.int .i64 ib2_0_0, .int .i64 ib2_1_0, .slice Ab2_2_0 lb2_2_0.length cb2_2_0] ⟨rfl, rfl, rfl⟩ rfl rfl rfl rfl rfl rfl rfl rfl ?_
              intro w74 x61 h423
              have h424 : Box w74.heap b5 24 [.int .i64 ib2_0_0, .int .i64 ib2_1_0, .slice Ab2_2_0 lb2_2_0.length cb2_2_0] := h423
              have sx61 := x61.size
              refine RW.pure tabOk 1 rfl ?_
              refine RW.done ?_
              refine NW.next ?_
              refine CW.ret ?_
              refine NW.ret_block (NW.ret_then ?_)
              have h425 := (((gL0_b2_2_10.ext x56).ext x57).ext x58).turnB x61 h422 ⟨.inl (show (45 : Nat) ≠ 24 by decide), trivial⟩ trivial
              have h426 := (((gF1_10.ext x56).ext x57).ext x58).turnB x61 h422 ⟨.inr (by omega), trivial⟩
              have h427 := (((gF2_10.ext x56).ext x57).ext x58).turnB x61 h422 ⟨.inr (by omega), trivial⟩
              have h428 := Ext.turnB (Ext.trans (Ext.trans (Ext.trans x0_10 x56) x57) x58) x61 (by omega)
              have h429 := (((gb1_10.ext x56).ext x57).ext x58).turnB x61 (by omega)
              have h430 := (((gb2_10.ext x56).ext x57).ext x58).turnB x61 (by omega)
              exact NW.ret2 rfl (resOne_cell tabOk (h424.at 0) rfl rfl rfl) (by rfl) ⟨ib2_0_0, ib2_1_0, lb2_2_0, Ab2_2_0, cb2_2_0, false, rfl, by omega, (h425.sub ⟨(.inl ⟨by omega, by omega, rfl⟩), trivial⟩ trivial), h426, h427, h425, h428, h429, h430, H⟩
            ·
             rw [if_neg c26] at H
             refine RW.bool 57 (b' := false) (beq_f c26) rfl ?_
             refine RW.pure tabOk 9 rfl ?_
             have h431 := (gb5_10.ext x56).ext x57
             refine RW.storeBox tabOk h431 [.int .i64 ib2_0_0, .int .i64 ib2_1_0, .slice Ab2_2_0 lb2_2_0.length cb2_2_0] ⟨rfl, rfl, rfl⟩ rfl rfl rfl rfl rfl rfl rfl rfl ?_
             intro w75 x62 h432
             have h433 : Box w75.heap b5 24 [.int .i64 ib2_0_0, .int .i64 ib2_1_0, .slice Ab2_2_0 lb2_2_0.length cb2_2_0] := h432
             have sx62 := x62.size
             refine RW.pure tabOk 1 rfl ?_
             refine RW.done ?_
             refine NW.next ?_
             refine CW.ret ?_
             refine NW.ret_block (NW.ret_then ?_)
             have h434 := ((gL0_b2_2_10.ext x56).ext x57).turnB x62 h431 ⟨.inl (show (45 : Nat) ≠ 24 by decide), trivial⟩ trivial
             have h435 := ((gF1_10.ext x56).ext x57).turnB x62 h431 ⟨.inr (by omega), trivial⟩
             have h436 := ((gF2_10.ext x56).ext x57).turnB x62 h431 ⟨.inr (by omega), trivial⟩
             have h437 := Ext.turnB (Ext.trans (Ext.trans x0_10 x56) x57) x62 (by omega)
             have h438 := ((gb1_10.ext x56).ext x57).turnB x62 (by omega)
             have h439 := ((gb2_10.ext x56).ext x57).turnB x62 (by omega)
             exact NW.ret2 rfl (resOne_cell tabOk (h433.at 0) rfl rfl rfl) (by rfl) ⟨ib2_0_0, ib2_1_0, lb2_2_0, Ab2_2_0, cb2_2_0, false, rfl, by omega, (h434.sub ⟨(.inl ⟨by omega, by omega, rfl⟩), trivial⟩ trivial), h435, h436, h434, h437, h438, h439, H⟩
       intro a w20 hJ hp
       obtain ⟨it8_4, it11_4, ib7_0_4, ib7_1_4, lb7_2_4, Ab7_2_4, cb7_2_4, ib8_0_4, ib8_1_4, lb8_2_4, Ab8_2_4, cb8_2_4, mid0_4, hS, hle, gL0_b2_2_4, gF4_4, fb7_2_4, fb8_2_4, gF1_4, gF2_4, x0_4, gb3_4, gb5_4, gb6_4, gb7_4, gb8_4, gb1_4, gb2_4, lomid0_4, lom, H⟩ := hJ
       unfold hermitagelaw8_TableExact.j3 at H
       refine CW.go hp hS ?_
       have h440 : Ow kEntry 45 w20.heap (okL [(mid0_4, some w20.heap.size, some 45)]) (okL []) Ab8_2_4 cb8_2_4 lb8_2_4 := fb8_2_4.close
       refine CW.seq ?_
       refine CW.seqJ (fun a w76 => ∃ (bt209_12 : Bool), Sat 223 [(2, .pointer (some ⟨b3, 0, none⟩)), (4, .pointer (some ⟨b5, 0, none⟩)), (6, .pointer (some ⟨b6, 0, none⟩)), (8, .int .i64 it8_4), (9, .pointer (some ⟨b7, 0, none⟩)), (10, .pointer (some ⟨b8, 0, none⟩)), (209, .bool bt209_12)] a ∧ w20.heap.size ≤ w76.heap.size ∧ Ow kEntry 45 w76.heap (okL [(w2.heap.size, some w6.heap.size, some 45)]) (okL []) Ab2_2_0 cb2_2_0 lb2_2_0 ∧ Ow kEntry 45 w76.heap (okL [(w13.heap.size, some w14.heap.size, some 45)]) (okL []) A4 c_4 y3.List_ ∧ Ow kEntry 45 w76.heap (okL [(w19.heap.size, some mid0_4, some 45)]) (okL []) Ab7_2_4 cb7_2_4 lb7_2_4 ∧ Ow kEntry 45 w76.heap (okL [(mid0_4, some w20.heap.size, some 45)]) (okL []) Ab8_2_4 cb8_2_4 lb8_2_4 ∧ Sl kEntry w76.heap (okL [(0, some w.heap.size, none)]) A1 p0.T.List_ ∧ Sl khermitagelaw8Act w76.heap (okL [(0, some w.heap.size, none)]) A2 p0.A ∧ Ext w w76 ∧ Box w76.heap b3 24 [.int .i64 ib2_0_0, .int .i64 ib2_1_0, .slice Ab2_2_0 lb2_2_0.length cb2_2_0] ∧ Box w76.heap b5 24 [.int .i64 0, .int .i64 0, .slice none 0 0] ∧ Box w76.heap b6 24 [.int .i64 y3.Dev, .int .i64 y3.Size, .slice A4 y3.List_.length c_4] ∧ Box w76.heap b7 24 [.int .i64 ib7_0_4, .int .i64 ib7_1_4, .slice Ab7_2_4 lb7_2_4.length cb7_2_4] ∧ Box w76.heap b8 24 [.int .i64 ib8_0_4, .int .i64 ib8_1_4, .slice Ab8_2_4 lb8_2_4.length cb8_2_4] ∧ Box w76.heap b1 27 [.int .i64 p0.T.Dev, .int .i64 p0.T.Size, .slice A1 p0.T.List_.length c_1, .slice A2 p0.A.length c_2] ∧ Box w76.heap b2 24 [.int .i64 ib2_0_0, .int .i64 ib2_1_0, .slice Ab2_2_0 lb2_2_0.length cb2_2_0] ∧ hermitagelaw8_TableExact.j11 k it4_0 ib2_0_0 ib2_1_0 lb2_2_0 y3 it8_4 lb7_2_4 ib8_0_4 ib8_1_4 lb8_2_4 (hermitagelaw8_TableExact.l0 p0 k n1) bt209_12 = some r) ?_ ?_
       ·
        refine CW.lex [.W, .X, .W, .W, .W, .L, .L, .X, .W, .W, .W, .L, .L, .X, .W, .W, .W, .L, .X, .X, .W, .W, .W, .W] rfl ?_
        refine RW.pure tabOk 1 rfl ?_
        obtain ⟨y28, h441, H⟩ := bind_some H
        refine RW.callF (.inl rfl) ent13 ⟨rfl, rfl, rfl, rfl⟩ rfl rfl (hermitagelaw8_num.calls it11_4 _ _ h441) ?_
        rintro _ w77 ⟨rfl, x63⟩
        refine ⟨_, rfl, x63, ?_⟩
        have sx63 := x63.size
        refine RW.pure tabOk 3 rfl ?_
        by_cases c28 : y28 = it8_4
        ·
         rw [if_pos c28] at H
         refine RW.bool 190 (b' := false) (bne_f c28) rfl ?_
         have h442 := gb7_4.ext x63
         refine RW.load tabOk [.int .i64 ib7_0_4, .int .i64 ib7_1_4, .slice Ab7_2_4 lb7_2_4.length cb7_2_4] (h442.at 0) ⟨rfl, rfl, rfl, rfl⟩ rfl rfl rfl rfl ?_
         have h443 := gb8_4.ext x63
         refine RW.load tabOk [.int .i64 ib8_0_4, .int .i64 ib8_1_4, .slice Ab8_2_4 lb8_2_4.length cb8_2_4] (h443.at 0) ⟨rfl, rfl, rfl, rfl⟩ rfl rfl rfl rfl ?_
         have h444 := fb7_2_4.ext x63
         have h445 := h440.ext x63
         obtain ⟨y29, h446, H⟩ := bind_some H
         refine RW.callF (.inl rfl) ent58 ⟨rfl, rfl, rfl, rfl⟩ rfl rfl (hermitageref0_EqTable.calls k (⟨ib7_0_4, ib7_1_4, lb7_2_4⟩ : Table) Ab7_2_4 cb7_2_4 (⟨ib8_0_4, ib8_1_4, lb8_2_4⟩ : Table) Ab8_2_4 cb8_2_4 _ _ h444.all h444.len h445.all h445.len h446) ?_
         rintro _ w78 ⟨rfl, x64⟩
         refine ⟨_, rfl, x64, ?_⟩
         have sx64 := x64.size
         refine RW.pure tabOk 3 rfl ?_
         by_cases c29 : y29 = true
         ·
          rw [if_pos c29] at H
          refine RW.bool 196 (b' := false) (not_f (c29)) rfl ?_
          have h447 := (gb6_4.ext x63).ext x64
          refine RW.load tabOk [.int .i64 y3.Dev, .int .i64 y3.Size, .slice A4 y3.List_.length c_4] (h447.at 0) ⟨rfl, rfl, rfl, rfl⟩ rfl rfl rfl rfl ?_
          have h448 := (gb3_4.ext x63).ext x64
          refine RW.load tabOk [.int .i64 ib2_0_0, .int .i64 ib2_1_0, .slice Ab2_2_0 lb2_2_0.length cb2_2_0] (h448.at 0) ⟨rfl, rfl, rfl, rfl⟩ rfl rfl rfl rfl ?_
          have h449 := (gF4_4.ext x63).ext x64
          have h450 := (gL0_b2_2_4.ext x63).ext x64
          obtain ⟨y30, h451, H⟩ := bind_some H
          refine RW.callF (.inl rfl) ent58 ⟨rfl, rfl, rfl, rfl⟩ rfl rfl (hermitageref0_EqTable.calls k y3 A4 c_4 (⟨ib2_0_0, ib2_1_0, lb2_2_0⟩ : Table) Ab2_2_0 cb2_2_0 _ _ h449.all h449.len h450.all h450.len h451) ?_
          rintro _ w79 ⟨rfl, x65⟩
          refine ⟨_, rfl, x65, ?_⟩
          have sx65 := x65.size
          refine RW.pure tabOk 3 rfl ?_
          by_cases c30 : y30 = true
          ·
           rw [if_pos c30] at H
           refine RW.bool 202 (b' := false) (not_f (c30)) rfl ?_
           have h452 := h447.ext x65
           refine RW.load tabOk [.int .i64 y3.Dev, .int .i64 y3.Size, .slice A4 y3.List_.length c_4] (h452.at 0) ⟨rfl, rfl, rfl, rfl⟩ rfl rfl rfl rfl ?_
           have h453 := h449.ext x65
           obtain ⟨y31, h454, H⟩ := bind_some H
           refine RW.callF (.inl rfl) ent61 ⟨rfl, rfl, rfl, rfl⟩ rfl rfl (table_Check.calls k y3 A4 c_4 _ _ h453.all h453.len h454) ?_
           rintro _ w80 ⟨rfl, x66⟩
           refine ⟨_, rfl, x66, ?_⟩
           have sx66 := x66.size
           obtain ⟨y32, h455, H⟩ := bind_some H
           refine RW.callF (.inl rfl) ent13 ⟨rfl, rfl, rfl, rfl⟩ rfl rfl (hermitagelaw8_num.calls y31 _ _ h455) ?_
           rintro _ w81 ⟨rfl, x67⟩
           refine ⟨_, rfl, x67, ?_⟩
           have sx67 := x67.size
           refine RW.pure tabOk 4 rfl ?_
           refine RW.done ?_
           have h456 := ((h450.ext x65).ext x66).ext x67
           have h457 := (h453.ext x66).ext x67
           have h458 := (((h444.ext x64).ext x65).ext x66).ext x67
           have h459 := (((h445.ext x64).ext x65).ext x66).ext x67
           have h460 := ((((gF1_4.ext x63).ext x64).ext x65).ext x66).ext x67
           have h461 := ((((gF2_4.ext x63).ext x64).ext x65).ext x66).ext x67
           have h462 := Ext.trans (Ext.trans (Ext.trans (Ext.trans (Ext.trans x0_4 x63) x64) x65) x66) x67
           have h463 := ((h448.ext x65).ext x66).ext x67
           have h464 := ((((gb5_4.ext x63).ext x64).ext x65).ext x66).ext x67
           have h465 := (h452.ext x66).ext x67
           have h466 := (((h442.ext x64).ext x65).ext x66).ext x67
           have h467 := (((h443.ext x64).ext x65).ext x66).ext x67
           have h468 := ((((gb1_4.ext x63).ext x64).ext x65).ext x66).ext x67
           have h469 := ((((gb2_4.ext x63).ext x64).ext x65).ext x66).ext x67
           exact NW.J fun a ha => ⟨(!((y32 == 0) == y4)), ha.sub ⟨rfl, rfl, rfl, rfl, rfl, rfl, rfl, trivial⟩, by omega, h456, h457, h458, h459, h460, h461, h462, h463, h464, h465, h466, h467, h468, h469, H⟩
          ·
           rw [if_neg c30] at H
           refine RW.bool 202 (b' := true) (not_t (bool_f c30)) rfl ?_
           refine RW.pure tabOk 7 rfl ?_
           refine RW.done ?_
           have h470 := h450.ext x65
           have h471 := h449.ext x65
           have h472 := (h444.ext x64).ext x65
           have h473 := (h445.ext x64).ext x65
           have h474 := ((gF1_4.ext x63).ext x64).ext x65
           have h475 := ((gF2_4.ext x63).ext x64).ext x65
           have h476 := Ext.trans (Ext.trans (Ext.trans x0_4 x63) x64) x65
           have h477 := h448.ext x65
           have h478 := ((gb5_4.ext x63).ext x64).ext x65
           have h479 := h447.ext x65
           have h480 := (h442.ext x64).ext x65
           have h481 := (h443.ext x64).ext x65
           have h482 := ((gb1_4.ext x63).ext x64).ext x65
           have h483 := ((gb2_4.ext x63).ext x64).ext x65
           exact NW.J fun a ha => ⟨true, ha.sub ⟨rfl, rfl, rfl, rfl, rfl, rfl, rfl, trivial⟩, by omega, h470, h471, h472, h473, h474, h475, h476, h477, h478, h479, h480, h481, h482, h483, H⟩
         ·
          rw [if_neg c29] at H
          refine RW.bool 196 (b' := true) (not_t (bool_f c29)) rfl ?_
          refine RW.pure tabOk 13 rfl ?_
          refine RW.done ?_
          have h484 := (gL0_b2_2_4.ext x63).ext x64
          have h485 := (gF4_4.ext x63).ext x64
          have h486 := h444.ext x64
          have h487 := h445.ext x64
          have h488 := (gF1_4.ext x63).ext x64
          have h489 := (gF2_4.ext x63).ext x64
          have h490 := Ext.trans (Ext.trans x0_4 x63) x64
          have h491 := (gb3_4.ext x63).ext x64
          have h492 := (gb5_4.ext x63).ext x64
          have h493 := (gb6_4.ext x63).ext x64
          have h494 := h442.ext x64
          have h495 := h443.ext x64
          have h496 := (gb1_4.ext x63).ext x64
          have h497 := (gb2_4.ext x63).ext x64
          exact NW.J fun a ha => ⟨true, ha.sub ⟨rfl, rfl, rfl, rfl, rfl, rfl, rfl, trivial⟩, by omega, h484, h485, h486, h487, h488, h489, h490, h491, h492, h493, h494, h495, h496, h497, H⟩
        ·
         rw [if_neg c28] at H
         refine RW.bool 190 (b' := true) (bne_t c28) rfl ?_
         refine RW.pure tabOk 19 rfl ?_
         refine RW.done ?_
         have h498 := gL0_b2_2_4.ext x63
         have h499 := gF4_4.ext x63
         have h500 := fb7_2_4.ext x63
         have h501 := h440.ext x63
         have h502 := gF1_4.ext x63
         have h503 := gF2_4.ext x63
         have h504 := Ext.trans x0_4 x63
         have h505 := gb3_4.ext x63
         have h506 := gb5_4.ext x63
         have h507 := gb6_4.ext x63
         have h508 := gb7_4.ext x63
         have h509 := gb8_4.ext x63
         have h510 := gb1_4.ext x63
         have h511 := gb2_4.ext x63
         exact NW.J fun a ha => ⟨true, ha.sub ⟨rfl, rfl, rfl, rfl, rfl, rfl, rfl, trivial⟩, by omega, h498, h499, h500, h501, h502, h503, h504, h505, h506, h507, h508, h509, h510, h511, H⟩
       intro a w76 hJ hp
       obtain ⟨bt209_12, hS, hle, gL0_b2_2_12, gF4_12, gL4_b7_2_12, gL4_b8_2_12, gF1_12, gF2_12, x0_12, gb3_12, gb5_12, gb6_12, gb7_12, gb8_12, gb1_12, gb2_12, H⟩ := hJ
       unfold hermitagelaw8_TableExact.j11 at H
       refine CW.go hp hS ?_
       by_cases c31 : bt209_12 = true
       ·
        rw [if_pos c31] at H
        refine CW.cond_t rfl (c31) ?_
        refine CW.seq ?_
        refine CW.lex [.L, .M, .W] rfl ?_
        refine RW.load tabOk [.int .i64 ib2_0_0, .int .i64 ib2_1_0, .slice Ab2_2_0 lb2_2_0.length cb2_2_0] (gb3_12.at 0) ⟨rfl, rfl, rfl, rfl⟩ rfl rfl rfl rfl ?_
        refine RW.storeBox tabOk gb5_12 [.int .i64 ib2_0_0, .int .i64 ib2_1_0, .slice Ab2_2_0 lb2_2_0.length cb2_2_0] ⟨rfl, rfl, rfl⟩ rfl rfl rfl rfl rfl rfl rfl rfl ?_
        intro w82 x68 h512
        have h513 : Box w82.heap b5 24 [.int .i64 ib2_0_0, .int .i64 ib2_1_0, .slice Ab2_2_0 lb2_2_0.length cb2_2_0] := h512
        have sx68 := x68.size
        refine RW.pure tabOk 1 rfl ?_
        refine RW.done ?_
        refine NW.next ?_
        refine CW.ret ?_
        refine NW.ret_then ?_
        have h514 := gL0_b2_2_12.turnB x68 gb5_12 ⟨.inl (show (45 : Nat) ≠ 24 by decide), trivial⟩ trivial
        have h515 := gF1_12.turnB x68 gb5_12 ⟨.inr (by omega), trivial⟩
        have h516 := gF2_12.turnB x68 gb5_12 ⟨.inr (by omega), trivial⟩
        have h517 := Ext.turnB x0_12 x68 (by omega)
        have h518 := gb1_12.turnB x68 (by omega)
        have h519 := gb2_12.turnB x68 (by omega)
        exact NW.ret2 rfl (resOne_cell tabOk (h513.at 0) rfl rfl rfl) (by rfl) ⟨ib2_0_0, ib2_1_0, lb2_2_0, Ab2_2_0, cb2_2_0, false, rfl, by omega, (h514.sub ⟨(.inl ⟨by omega, by omega, rfl⟩), trivial⟩ trivial), h515, h516, h514, h517, h518, h519, H⟩
       ·
        rw [if_neg c31] at H
        refine CW.cond_f rfl (bool_f c31) ?_
        refine CW.skip ?_
        refine NW.next ?_
        refine CW.seq ?_
        refine CW.lex [.L, .M] rfl ?_
        refine RW.load tabOk [.int .i64 ib7_0_4, .int .i64 ib7_1_4, .slice Ab7_2_4 lb7_2_4.length cb7_2_4] (gb7_12.at 0) ⟨rfl, rfl, rfl, rfl⟩ rfl rfl rfl rfl ?_
        refine RW.callFM (R := fun e w83 => e = .returned (.tuple #[]) ∧ w76.heap.size ≤ w83.heap.size ∧ Ow kEntry 45 w83.heap (okL [(w2.heap.size, some w6.heap.size, some 45)]) (okL []) Ab2_2_0 cb2_2_0 lb2_2_0 ∧ Ow kEntry 45 w83.heap (okL [(w13.heap.size, some w14.heap.size, some 45)]) (okL []) A4 c_4 y3.List_ ∧ Ow kEntry 45 w83.heap (okL [(mid0_4, some w20.heap.size, some 45)]) (okL []) Ab8_2_4 cb8_2_4 lb8_2_4 ∧ Sl kEntry w83.heap (okL [(0, some w.heap.size, none)]) A1 p0.T.List_ ∧ Sl khermitagelaw8Act w83.heap (okL [(0, some w.heap.size, none)]) A2 p0.A ∧ Ext w w83 ∧ Box w83.heap b3 24 [.int .i64 ib2_0_0, .int .i64 ib2_1_0, .slice Ab2_2_0 lb2_2_0.length cb2_2_0] ∧ Box w83.heap b5 24 [.int .i64 0, .int .i64 0, .slice none 0 0] ∧ Box w83.heap b6 24 [.int .i64 y3.Dev, .int .i64 y3.Size, .slice A4 y3.List_.length c_4] ∧ Box w83.heap b8 24 [.int .i64 ib8_0_4, .int .i64 ib8_1_4, .slice Ab8_2_4 lb8_2_4.length cb8_2_4] ∧ Box w83.heap b1 27 [.int .i64 p0.T.Dev, .int .i64 p0.T.Size, .slice A1 p0.T.List_.length c_1, .slice A2 p0.A.length c_2] ∧ Box w83.heap b2 24 [.int .i64 ib2_0_0, .int .i64 ib2_1_0, .slice Ab2_2_0 lb2_2_0.length cb2_2_0] ∧ hermitagelaw8_TableExact.j12 k it4_0 ib2_0_0 ib2_1_0 lb2_2_0 y3 it8_4 ib8_0_4 ib8_1_4 lb8_2_4 (hermitagelaw8_TableExact.l0 p0 k n1) = some r) ent62 ⟨rfl, rfl, rfl, rfl⟩ rfl rfl rfl ?_ ?_
        ·
         refine calls_start Try.func62 rfl 15 rfl [.agg #[.int .i64 ib7_0_4, .int .i64 ib7_1_4, .slice Ab7_2_4 lb7_2_4.length cb7_2_4]] rfl ?_
         refine CW.seq ?_
         refine CW.lex [.X] rfl ?_
         refine RW.box (cs := [.int .i64 ib7_0_4, .int .i64 ib7_1_4, .slice Ab7_2_4 lb7_2_4.length cb7_2_4]) (.inl rfl) ⟨rfl, rfl, rfl, rfl⟩ rfl rfl rfl ?_
         intro b12 w84 x69 l12 h520
         have sx69 := x69.size
         have ltb12 := h520.lt
         refine RW.done ?_
         refine NW.next ?_
         refine CW.seq ?_
         refine CW.lex [.W] rfl ?_
         refine RW.pure tabOk 1 rfl ?_
         refine RW.done ?_
         refine NW.next ?_
         refine CW.block ?_
         refine CW.loop (fun n2 a w85 => ∃ (it2_14 : Int) (lb12_2_14 : List Entry) (Ab12_2_14 : Option Addr) (cb12_2_14 : Nat), Sat 15 [(1, .pointer (some ⟨b12, 0, none⟩)), (2, .int .i64 it2_14)] a ∧ w84.heap.size ≤ w85.heap.size ∧ Ow kEntry 45 w85.heap (okL [(w19.heap.size, some mid0_4, some 45)]) (okL []) Ab12_2_14 cb12_2_14 lb12_2_14 ∧ Sl kEntry w85.heap (okL [(0, some w.heap.size, none)]) A1 p0.T.List_ ∧ Sl khermitagelaw8Act w85.heap (okL [(0, some w.heap.size, none)]) A2 p0.A ∧ Ow kEntry 45 w85.heap (okL [(w2.heap.size, some w6.heap.size, some 45)]) (okL []) Ab2_2_0 cb2_2_0 lb2_2_0 ∧ Ow kEntry 45 w85.heap (okL [(w13.heap.size, some w14.heap.size, some 45)]) (okL []) A4 c_4 y3.List_ ∧ Ow kEntry 45 w85.heap (okL [(mid0_4, some w20.heap.size, some 45)]) (okL []) Ab8_2_4 cb8_2_4 lb8_2_4 ∧ Ext w w85 ∧ Box w85.heap b12 24 [.int .i64 ib7_0_4, .int .i64 ib7_1_4, .slice Ab12_2_14 lb12_2_14.length cb12_2_14] ∧ Box w85.heap b1 27 [.int .i64 p0.T.Dev, .int .i64 p0.T.Size, .slice A1 p0.T.List_.length c_1, .slice A2 p0.A.length c_2] ∧ Box w85.heap b2 24 [.int .i64 ib2_0_0, .int .i64 ib2_1_0, .slice Ab2_2_0 lb2_2_0.length cb2_2_0] ∧ Box w85.heap b3 24 [.int .i64 ib2_0_0, .int .i64 ib2_1_0, .slice Ab2_2_0 lb2_2_0.length cb2_2_0] ∧ Box w85.heap b5 24 [.int .i64 0, .int .i64 0, .slice none 0 0] ∧ Box w85.heap b6 24 [.int .i64 y3.Dev, .int .i64 y3.Size, .slice A4 y3.List_.length c_4] ∧ Box w85.heap b8 24 [.int .i64 ib8_0_4, .int .i64 ib8_1_4, .slice Ab8_2_4 lb8_2_4.length cb8_2_4] ∧ hermitagelaw8_TableExact.l1 k it4_0 ib2_0_0 ib2_1_0 lb2_2_0 y3 it8_4 ib8_0_4 ib8_1_4 lb8_2_4 (hermitagelaw8_TableExact.l0 p0 k n1) n2 it2_14 lb12_2_14 = some r) k ?_ ?_
         have h521 := gL4_b7_2_12.ext x69
         have h522 := gF1_12.ext x69
         have h523 := gF2_12.ext x69
         have h524 := gL0_b2_2_12.ext x69
         have h525 := gF4_12.ext x69
         have h526 := gL4_b8_2_12.ext x69
         have h527 := Ext.trans x0_12 x69
         have h528 := gb1_12.ext x69
         have h529 := gb2_12.ext x69
         have h530 := gb3_12.ext x69
         have h531 := gb5_12.ext x69
         have h532 := gb6_12.ext x69
         have h533 := gb8_12.ext x69
         · exact fun a ha => ⟨0, lb7_2_4, Ab7_2_4, cb7_2_4, ha.sub ⟨rfl, rfl, trivial⟩, by omega, (h521.sub ⟨(.inl ⟨by omega, by omega, rfl⟩), trivial⟩ trivial), h522, h523, h524, h525, h526, h527, h520, h528, h529, h530, h531, h532, h533, H⟩
         intro n2 a w85 hI hp
         obtain ⟨it2_14, lb12_2_14, Ab12_2_14, cb12_2_14, hS, hle, fb12_2_14, gF1_14, gF2_14, gL0_b2_2_14, gF4_14, gL4_b8_2_14, x0_14, gb12_14, gb1_14, gb2_14, gb3_14, gb5_14, gb6_14, gb8_14, H⟩ := hI
         cases n2 with
         | zero => cases H
         | succ n2 =>
          rw [hermitagelaw8_TableExact.l1] at H
          refine CW.go hp hS ?_
          refine CW.seq ?_
          refine CW.seq ?_
          refine CW.lex [.W, .W, .L, .W, .W] rfl ?_
          refine RW.pure tabOk 2 rfl ?_
          refine RW.load tabOk [.slice Ab12_2_14 lb12_2_14.length cb12_2_14] (gb12_14.at 2) ⟨rfl, rfl, rfl, rfl⟩ rfl rfl rfl rfl ?_
          refine RW.pure tabOk 2 rfl ?_
          refine RW.done ?_
          refine NW.next ?_
          by_cases c32 : it2_14 < (lb12_2_14.length : Int)
          ·
           rw [if_pos c32] at H
           refine CW.cond_t rfl (decide_eq_true c32) ?_
           refine CW.skip ?_
           refine NW.next ?_
           refine CW.seq ?_
           refine CW.block ?_
           refine CW.lex [.W, .L, .W, .W, .W, .M] rfl ?_
           refine RW.pure tabOk 1 rfl ?_
           refine RW.load tabOk [.slice Ab12_2_14 lb12_2_14.length cb12_2_14] (gb12_14.at 2) ⟨rfl, rfl, rfl, rfl⟩ rfl rfl rfl rfl ?_
           refine RW.pure tabOk 2 rfl ?_
           obtain ⟨g2, H⟩ := guard_some H
           obtain ⟨ad2, e2, a2⟩ := kEntry_at fb12_2_14.slL g2.1 g2.2
           refine RW.index tabOk g2.1 g2.2 e2 ⟨rfl, rfl, rfl, rfl⟩ rfl rfl rfl rfl rfl rfl ?_
           refine RW.storeElL0 (y := (⟨(-9), 0, 0, 0, 0⟩ : Entry)) (lv := []) tabOk fb12_2_14 (j := it2_14.toNat) (by have := g2; omega) default [.int .i64 (-9), .int .i64 0, .int .i64 0, .int .i64 0, .int .i64 0] (fun cs ok' hr => by obtain rfl := kEntry_open hr; exact ⟨by simp, kEntry_mk (⟨(-9), 0, 0, 0, 0⟩ : Entry)⟩) trivial ⟨rfl, rfl, rfl⟩ rfl rfl e2 rfl rfl rfl rfl rfl ?_
           intro w86 x70 h534
           have sx70 := x70.size
           have h535 := h534.sub (l' := [(w19.heap.size, some mid0_4, some 45)]) (li' := []) ⟨(.inl ⟨by omega, by omega, rfl⟩), trivial⟩ trivial
           have h536 := gb12_14.turnL x70 (.inl (by decide))
           have h537 : Box w86.heap b12 24 [.int .i64 ib7_0_4, .int .i64 ib7_1_4, .slice Ab12_2_14 (lb12_2_14.set it2_14.toNat (⟨(-9), 0, 0, 0, 0⟩ : Entry)).length cb12_2_14] := by simpa only [List.length_set] using h536
           refine RW.done ?_
           refine NW.norm_block (NW.next ?_)
           refine CW.lex [.W, .W, .W] rfl ?_
           refine RW.pure tabOk 3 rfl ?_
           refine RW.done ?_
           have h538 := gF1_14.turnL x70 ⟨⟨.inr (.inl (by omega)), trivial⟩, trivial⟩
           have h539 := gF2_14.turnL x70 ⟨⟨.inr (.inl (by omega)), trivial⟩, trivial⟩
           have h540 := gL0_b2_2_14.turnL x70 ⟨⟨.inr (.inl (by omega)), trivial⟩, trivial⟩ trivial
           have h541 := gF4_14.turnL x70 ⟨⟨.inr (.inl (by omega)), trivial⟩, trivial⟩ trivial
           have h542 := gL4_b8_2_14.turnL x70 ⟨⟨.inr (.inr (by omega)), trivial⟩, trivial⟩ trivial
           have h543 := Ext.turn x0_14 x70 ⟨by omega, trivial⟩
           have h544 := gb1_14.turnL x70 (.inl (by decide))
           have h545 := gb2_14.turnL x70 (.inl (by decide))
           have h546 := gb3_14.turnL x70 (.inl (by decide))
           have h547 := gb5_14.turnL x70 (.inl (by decide))
           have h548 := gb6_14.turnL x70 (.inl (by decide))
           have h549 := gb8_14.turnL x70 (.inl (by decide))
           exact NW.J fun a ha => ⟨n2, Nat.lt_succ_self n2, (w64 (it2_14 + 1)), (lb12_2_14.set it2_14.toNat (⟨(-9), 0, 0, 0, 0⟩ : Entry)), Ab12_2_14, cb12_2_14, ha.sub ⟨rfl, rfl, trivial⟩, by omega, (h535.sub ⟨(.inl ⟨by omega, by omega, rfl⟩), trivial⟩ trivial), h538, h539, h540, h541, h542, h543, h537, h544, h545, h546, h547, h548, h549, H⟩
          ·
           rw [if_neg c32] at H
           refine CW.cond_f rfl (decide_eq_false c32) ?_
           refine CW.exit ?_
           refine NW.exit_then (NW.exit_then (NW.exit_hit ?_))
           refine NW.end_ ?_
           exact NW.ret0 rfl ⟨rfl, by omega, gL0_b2_2_14, gF4_14, gL4_b8_2_14, gF1_14, gF2_14, x0_14, gb3_14, gb5_14, gb6_14, gb8_14, gb1_14, gb2_14, H⟩
        rintro _ w83 ⟨rfl, hle, gL0_b2_2_13, gF4_13, gL4_b8_2_13, gF1_13, gF2_13, x0_13, gb3_13, gb5_13, gb6_13, gb8_13, gb1_13, gb2_13, H⟩
        refine ⟨_, rfl, ?_⟩
        unfold hermitagelaw8_TableExact.j12 at H
        refine RW.done ?_
        refine NW.next ?_
        refine CW.seq ?_
        refine CW.seq ?_
        refine CW.lex [.L, .L, .X, .W] rfl ?_
        refine RW.load tabOk [.int .i64 y3.Dev, .int .i64 y3.Size, .slice A4 y3.List_.length c_4] (gb6_13.at 0) ⟨rfl, rfl, rfl, rfl⟩ rfl rfl rfl rfl ?_
        refine RW.load tabOk [.int .i64 ib2_0_0, .int .i64 ib2_1_0, .slice Ab2_2_0 lb2_2_0.length cb2_2_0] (gb3_13.at 0) ⟨rfl, rfl, rfl, rfl⟩ rfl rfl rfl rfl ?_
        obtain ⟨y33, h550, H⟩ := bind_some H
        refine RW.callF (.inl rfl) ent58 ⟨rfl, rfl, rfl, rfl⟩ rfl rfl (hermitageref0_EqTable.calls k y3 A4 c_4 (⟨ib2_0_0, ib2_1_0, lb2_2_0⟩ : Table) Ab2_2_0 cb2_2_0 _ _ gF4_13.all gF4_13.len gL0_b2_2_13.all gL0_b2_2_13.len h550) ?_
        rintro _ w87 ⟨rfl, x71⟩
        refine ⟨_, rfl, x71, ?_⟩
        have sx71 := x71.size
        refine RW.pure tabOk 1 rfl ?_
        refine RW.done ?_
        refine NW.next ?_
        by_cases c33 : y33 = true
        ·
         rw [if_pos c33] at H
         refine CW.cond_f rfl (not_f (c33)) ?_
         refine CW.skip ?_
         refine NW.next ?_
         refine CW.seq ?_
         refine CW.seq ?_
         refine CW.lex [.W, .W] rfl ?_
         refine RW.pure tabOk 2 rfl ?_
         refine RW.done ?_
         refine NW.next ?_
         by_cases c34 : it8_4 = 0
         ·
          rw [if_pos c34] at H
          refine CW.cond_f rfl (bne_f c34) ?_
          refine CW.skip ?_
          refine NW.next ?_
          refine CW.seq ?_
          refine CW.lex [.L, .X, .M, .W] rfl ?_
          have h551 := gb8_13.ext x71
          refine RW.load tabOk [.int .i64 ib8_0_4, .int .i64 ib8_1_4, .slice Ab8_2_4 lb8_2_4.length cb8_2_4] (h551.at 0) ⟨rfl, rfl, rfl, rfl⟩ rfl rfl rfl rfl ?_
          have h552 := gL4_b8_2_13.ext x71
          obtain ⟨y34, h553, H⟩ := bind_some H
          refine RW.callF (.inl rfl) ent21 ⟨rfl, rfl, rfl, rfl⟩ rfl rfl (hermitageref0_CopyTable.calls k (⟨ib8_0_4, ib8_1_4, lb8_2_4⟩ : Table) Ab8_2_4 cb8_2_4 _ _ h552.all h552.len h553) ?_
          rintro _ w88 ⟨A13, c_13, rfl, x72, h554⟩
          refine ⟨_, rfl, x72, ?_⟩
          have sx72 := x72.size
          have h555 : Ow kEntry 45 w88.heap (okL [(w87.heap.size, some w88.heap.size, some 45)]) (okL []) A13 c_13 y34.List_ := h554.close
          have h556 := (gb5_13.ext x71).ext x72
          refine RW.storeBox tabOk h556 [.int .i64 y34.Dev, .int .i64 y34.Size, .slice A13 y34.List_.length c_13] ⟨rfl, rfl, rfl⟩ rfl rfl rfl rfl rfl rfl rfl rfl ?_
          intro w89 x73 h557
          have h558 : Box w89.heap b5 24 [.int .i64 y34.Dev, .int .i64 y34.Size, .slice A13 y34.List_.length c_13] := h557
          have sx73 := x73.size
          refine RW.pure tabOk 1 rfl ?_
          refine RW.done ?_
          refine NW.next ?_
          refine CW.ret ?_
          have h559 := h555.turnB x73 h556 ⟨.inl (show (45 : Nat) ≠ 24 by decide), trivial⟩ trivial
          have h560 := ((gF1_13.ext x71).ext x72).turnB x73 h556 ⟨.inr (by omega), trivial⟩
          have h561 := ((gF2_13.ext x71).ext x72).turnB x73 h556 ⟨.inr (by omega), trivial⟩
          have h562 := ((gL0_b2_2_13.ext x71).ext x72).turnB x73 h556 ⟨.inl (show (45 : Nat) ≠ 24 by decide), trivial⟩ trivial
          have h563 := Ext.turnB (Ext.trans (Ext.trans x0_13 x71) x72) x73 (by omega)
          have h564 := ((gb1_13.ext x71).ext x72).turnB x73 (by omega)
          have h565 := ((gb2_13.ext x71).ext x72).turnB x73 (by omega)
          exact NW.ret2 rfl (resOne_cell tabOk (h558.at 0) rfl rfl rfl) (by rfl) ⟨y34.Dev, y34.Size, y34.List_, A13, c_13, true, rfl, by omega, (h559.sub ⟨(.inr (.inl ⟨by omega, trivial, rfl⟩)), trivial⟩ trivial), h560, h561, h562, h563, h564, h565, H⟩
         ·
          rw [if_neg c34] at H
          refine CW.cond_t rfl (bne_t c34) ?_
          refine CW.seq ?_
          refine CW.lex [.L, .M, .W] rfl ?_
          have h566 := gb3_13.ext x71
          refine RW.load tabOk [.int .i64 ib2_0_0, .int .i64 ib2_1_0, .slice Ab2_2_0 lb2_2_0.length cb2_2_0] (h566.at 0) ⟨rfl, rfl, rfl, rfl⟩ rfl rfl rfl rfl ?_
          have h567 := gb5_13.ext x71
          refine RW.storeBox tabOk h567 [.int .i64 ib2_0_0, .int .i64 ib2_1_0, .slice Ab2_2_0 lb2_2_0.length cb2_2_0] ⟨rfl, rfl, rfl⟩ rfl rfl rfl rfl rfl rfl rfl rfl ?_
          intro w90 x74 h568
          have h569 : Box w90.heap b5 24 [.int .i64 ib2_0_0, .int .i64 ib2_1_0, .slice Ab2_2_0 lb2_2_0.length cb2_2_0] := h568
          have sx74 := x74.size
          refine RW.pure tabOk 1 rfl ?_
          refine RW.done ?_
          refine NW.next ?_
          refine CW.ret ?_
          refine NW.ret_then ?_
          have h570 := (gL0_b2_2_13.ext x71).turnB x74 h567 ⟨.inl (show (45 : Nat) ≠ 24 by decide), trivial⟩ trivial
          have h571 := (gF1_13.ext x71).turnB x74 h567 ⟨.inr (by omega), trivial⟩
          have h572 := (gF2_13.ext x71).turnB x74 h567 ⟨.inr (by omega), trivial⟩
          have h573 := Ext.turnB (Ext.trans x0_13 x71) x74 (by omega)
          have h574 := (gb1_13.ext x71).turnB x74 (by omega)
          have h575 := (gb2_13.ext x71).turnB x74 (by omega)
          exact NW.ret2 rfl (resOne_cell tabOk (h569.at 0) rfl rfl rfl) (by rfl) ⟨ib2_0_0, ib2_1_0, lb2_2_0, Ab2_2_0, cb2_2_0, true, rfl, by omega, (h570.sub ⟨(.inl ⟨by omega, by omega, rfl⟩), trivial⟩ trivial), h571, h572, h570, h573, h574, h575, H⟩
        ·
         rw [if_neg c33] at H
         refine CW.cond_t rfl (not_t (bool_f c33)) ?_
         refine CW.seq ?_
         refine CW.lex [.L, .M, .W] rfl ?_
         have h576 := gb3_13.ext x71
         refine RW.load tabOk [.int .i64 ib2_0_0, .int .i64 ib2_1_0, .slice Ab2_2_0 lb2_2_0.length cb2_2_0] (h576.at 0) ⟨rfl, rfl, rfl, rfl⟩ rfl rfl rfl rfl ?_
         have h577 := gb5_13.ext x71
         refine RW.storeBox tabOk h577 [.int .i64 ib2_0_0, .int .i64 ib2_1_0, .slice Ab2_2_0 lb2_2_0.length cb2_2_0] ⟨rfl, rfl, rfl⟩ rfl rfl rfl rfl rfl rfl rfl rfl ?_
         intro w91 x75 h578
         have h579 : Box w91.heap b5 24 [.int .i64 ib2_0_0, .int .i64 ib2_1_0, .slice Ab2_2_0 lb2_2_0.length cb2_2_0] := h578
         have sx75 := x75.size
         refine RW.pure tabOk 1 rfl ?_
         refine RW.done ?_
         refine NW.next ?_
         refine CW.ret ?_
         refine NW.ret_then ?_
         have h580 := (gL0_b2_2_13.ext x71).turnB x75 h577 ⟨.inl (show (45 : Nat) ≠ 24 by decide), trivial⟩ trivial
         have h581 := (gF1_13.ext x71).turnB x75 h577 ⟨.inr (by omega), trivial⟩
         have h582 := (gF2_13.ext x71).turnB x75 h577 ⟨.inr (by omega), trivial⟩
         have h583 := Ext.turnB (Ext.trans x0_13 x71) x75 (by omega)
         have h584 := (gb1_13.ext x71).turnB x75 (by omega)
         have h585 := (gb2_13.ext x71).turnB x75 (by omega)
         exact NW.ret2 rfl (resOne_cell tabOk (h579.at 0) rfl rfl rfl) (by rfl) ⟨ib2_0_0, ib2_1_0, lb2_2_0, Ab2_2_0, cb2_2_0, false, rfl, by omega, (h580.sub ⟨(.inl ⟨by omega, by omega, rfl⟩), trivial⟩ trivial), h581, h582, h580, h583, h584, h585, H⟩
      rintro _ w10 ⟨it30_0_3, it30_1_3, lt30_2_3, At30_2_3, ct30_2_3, bt30_3_3, rfl, hle, ft30_2_3, gF1_3, gF2_3, gL0_b2_2_3, x0_3, gb1_3, gb2_3, H⟩
      refine ⟨_, rfl, ?_⟩
      unfold hermitagelaw8_TableExact.j2 at H
      have h586 : Ow kEntry 45 w10.heap (okL [(w2.heap.size, some w6.heap.size, some 45), (w9.heap.size, some w10.heap.size, some 45)]) (okL []) At30_2_3 ct30_2_3 lt30_2_3 := ft30_2_3.close
      refine RW.pure tabOk 3 rfl ?_
      refine RW.alloc tabOk (.inl rfl) ⟨rfl, rfl, rfl, rfl⟩ rfl rfl ?_
      intro b13 w92 x76 l13 h587
      have sx76 := x76.size
      have ltb13 := h587.lt
      refine RW.storeBox tabOk h587 [.int .i64 it30_0_3, .int .i64 it30_1_3, .slice At30_2_3 lt30_2_3.length ct30_2_3] ⟨rfl, rfl, rfl⟩ rfl rfl rfl rfl rfl rfl rfl rfl ?_
      intro w93 x77 h588
      have h589 : Box w93.heap b13 24 [.int .i64 it30_0_3, .int .i64 it30_1_3, .slice At30_2_3 lt30_2_3.length ct30_2_3] := h588
      have sx77 := x77.size
      refine RW.pure tabOk 1 rfl ?_
      refine RW.done ?_
      have h590 := (gF1_3.ext x76).turnB x77 h587 ⟨.inr (by omega), trivial⟩
      have h591 := (gF2_3.ext x76).turnB x77 h587 ⟨.inr (by omega), trivial⟩
      have h592 := (gL0_b2_2_3.ext x76).turnB x77 h587 ⟨.inl (show (45 : Nat) ≠ 24 by decide), trivial⟩ trivial
      have h593 := (h586.ext x76).turnB x77 h587 ⟨.inl (show (45 : Nat) ≠ 24 by decide), ⟨.inl (show (45 : Nat) ≠ 24 by decide), trivial⟩⟩ trivial
      have h594 := Ext.turnB (Ext.trans x0_3 x76) x77 (by omega)
      have h595 := (gb1_3.ext x76).turnB x77 (by omega)
      have h596 := (gb2_3.ext x76).turnB x77 (by omega)
      exact NW.J fun a ha => ⟨bt30_3_3, b13, it30_0_3, it30_1_3, lt30_2_3, At30_2_3, ct30_2_3, ha.sub ⟨rfl, rfl, rfl, rfl, rfl, trivial⟩, by omega, h590, h591, h592, (h593.sub ⟨(.inl ⟨by omega, by omega, rfl⟩), ⟨(.inr (.inl ⟨by omega, trivial, rfl⟩)), trivial⟩⟩ trivial), h594, h595, h596, h589, by omega, H⟩
     ·
      refine RW.alloc tabOk (.inl rfl) ⟨rfl, rfl, rfl, rfl⟩ rfl rfl ?_
      intro b3 w10 x7 l3 h25
      have sx7 := x7.size
      have ltb3 := h25.lt
      refine RW.callFM (R := fun e w11 => ∃ (it30_0_3 : Int) (it30_1_3 : Int) (lt30_2_3 : List Entry) (At30_2_3 : Option Addr) (ct30_2_3 : Nat) (bt30_3_3 : Bool), e = .returned (.tuple #[.agg #[.int .i64 it30_0_3, .int .i64 it30_1_3, .slice At30_2_3 lt30_2_3.length ct30_2_3], .bool bt30_3_3]) ∧ w10.heap.size ≤ w11.heap.size ∧ Ow kEntry 45 w11.heap (okL [(w2.heap.size, some w6.heap.size, some 45), (w10.heap.size, none, some 45)]) (okL []) At30_2_3 ct30_2_3 lt30_2_3 ∧ Sl kEntry w11.heap (okL [(0, some w.heap.size, none)]) A1 p0.T.List_ ∧ Sl khermitagelaw8Act w11.heap (okL [(0, some w.heap.size, none)]) A2 p0.A ∧ Ow kEntry 45 w11.heap (okL [(w2.heap.size, some w6.heap.size, some 45)]) (okL []) Ab2_2_0 cb2_2_0 lb2_2_0 ∧ Ext w w11 ∧ Box w11.heap b1 27 [.int .i64 p0.T.Dev, .int .i64 p0.T.Size, .slice A1 p0.T.List_.length c_1, .slice A2 p0.A.length c_2] ∧ Box w11.heap b2 24 [.int .i64 ib2_0_0, .int .i64 ib2_1_0, .slice Ab2_2_0 lb2_2_0.length cb2_2_0] ∧ Box w11.heap b3 24 [.int .i64 0, .int .i64 0, .slice none 0 0] ∧ hermitagelaw8_TableExact.j2 it4_0 (hermitagelaw8_TableExact.l0 p0 k n1) it30_0_3 it30_1_3 lt30_2_3 bt30_3_3 = some r) ent22 ⟨rfl, rfl, rfl, rfl⟩ rfl rfl rfl ?_ ?_
      ·
       refine calls_start Try.func22 rfl 223 rfl [.agg #[.int .i64 ib2_0_0, .int .i64 ib2_1_0, .slice Ab2_2_0 lb2_2_0.length cb2_2_0], .agg #[.int .i64 ((rd p0.A it4_0).Do), .int .i64 ((rd p0.A it4_0).N), .int .i64 ((rd p0.A it4_0).M), .int .i64 (((rd p0.A it4_0).P).Dev), .int .i64 (((rd p0.A it4_0).P).At)]] rfl ?_
       refine CW.seq ?_
       refine CW.lex [.X, .X, .X, .W] rfl ?_
       refine RW.box (cs := [.int .i64 ib2_0_0, .int .i64 ib2_1_0, .slice Ab2_2_0 lb2_2_0.length cb2_2_0]) (.inl rfl) ⟨rfl, rfl, rfl, rfl⟩ rfl rfl rfl ?_
       intro b4 w12 x8 l4 h26
       have sx8 := x8.size
       have ltb4 := h26.lt
       refine RW.box (cs := [.int .i64 ((rd p0.A it4_0).Do), .int .i64 ((rd p0.A it4_0).N), .int .i64 ((rd p0.A it4_0).M), .int .i64 (((rd p0.A it4_0).P).Dev), .int .i64 (((rd p0.A it4_0).P).At)]) (.inl rfl) ⟨rfl, rfl, rfl, rfl⟩ rfl rfl rfl ?_
       intro b5 w13 x9 l5 h27
       have sx9 := x9.size
       have ltb5 := h27.lt
       refine RW.alloc tabOk (.inl rfl) ⟨rfl, rfl, rfl, rfl⟩ rfl rfl ?_
       intro b6 w14 x10 l6 h28
       have sx10 := x10.size
       have ltb6 := h28.lt
       refine RW.pure tabOk 1 rfl ?_
       refine RW.done ?_
       refine NW.next ?_
       refine CW.seq ?_
       refine CW.lex [.L, .X, .X, .M] rfl ?_
       have h29 := (h26.ext x9).ext x10
       refine RW.load tabOk [.int .i64 ib2_0_0, .int .i64 ib2_1_0, .slice Ab2_2_0 lb2_2_0.length cb2_2_0] (h29.at 0) ⟨rfl, rfl, rfl, rfl⟩ rfl rfl rfl rfl ?_
       have h30 := ((((gL0_b2_2_1.ext x6).ext x7).ext x8).ext x9).ext x10
       obtain ⟨y3, h31, H⟩ := bind_some H
       refine RW.callF (.inl rfl) ent21 ⟨rfl, rfl, rfl, rfl⟩ rfl rfl (hermitageref0_CopyTable.calls k (⟨ib2_0_0, ib2_1_0, lb2_2_0⟩ : Table) Ab2_2_0 cb2_2_0 _ _ h30.all h30.len h31) ?_
       rintro _ w15 ⟨A4, c_4, rfl, x11, h32⟩
       refine ⟨_, rfl, x11, ?_⟩
       have sx11 := x11.size
       have h33 : Ow kEntry 45 w15.heap (okL [(w14.heap.size, some w15.heap.size, some 45)]) (okL []) A4 c_4 y3.List_ := h32.close
       refine RW.alloc tabOk (.inl rfl) ⟨rfl, rfl, rfl, rfl⟩ rfl rfl ?_
       intro b7 w16 x12 l7 h34
       have sx12 := x12.size
       have ltb7 := h34.lt
       refine RW.storeBox tabOk h34 [.int .i64 y3.Dev, .int .i64 y3.Size, .slice A4 y3.List_.length c_4] ⟨rfl, rfl, rfl⟩ rfl rfl rfl rfl rfl rfl rfl rfl ?_
       intro w17 x13 h35
       have h36 : Box w17.heap b7 24 [.int .i64 y3.Dev, .int .i64 y3.Size, .slice A4 y3.List_.length c_4] := h35
       have sx13 := x13.size
       refine RW.done ?_
       refine NW.next ?_
       refine CW.seq ?_
       refine CW.lex [.L, .X, .W] rfl ?_
       have h37 := ((h29.ext x11).ext x12).turnB x13 (by omega)
       refine RW.load tabOk [.int .i64 ib2_0_0, .int .i64 ib2_1_0, .slice Ab2_2_0 lb2_2_0.length cb2_2_0] (h37.at 0) ⟨rfl, rfl, rfl, rfl⟩ rfl rfl rfl rfl ?_
       have h38 := ((h30.ext x11).ext x12).turnB x13 h34 ⟨.inl (show (45 : Nat) ≠ 24 by decide), trivial⟩ trivial
       obtain ⟨y4, h39, H⟩ := bind_some H
       refine RW.callF (.inl rfl) ent19 ⟨rfl, rfl, rfl, rfl⟩ rfl rfl (hermitageref7_Table.calls k (⟨ib2_0_0, ib2_1_0, lb2_2_0⟩ : Table) Ab2_2_0 cb2_2_0 _ _ h38.all h38.len h39) ?_
       rintro _ w18 ⟨rfl, x14⟩
       refine ⟨_, rfl, x14, ?_⟩
       have sx14 := x14.size
       refine RW.pure tabOk 1 rfl ?_
       refine RW.done ?_
       refine NW.next ?_
       refine CW.seq ?_
       refine CW.lex [.W] rfl ?_
       refine RW.pure tabOk 1 rfl ?_
       refine RW.done ?_
       refine NW.next ?_
       refine CW.seq ?_
       refine CW.lex [.X, .X] rfl ?_
       refine RW.alloc tabOk (.inl rfl) ⟨rfl, rfl, rfl, rfl⟩ rfl rfl ?_
       intro b8 w19 x15 l8 h40
       have sx15 := x15.size
       have ltb8 := h40.lt
       refine RW.alloc tabOk (.inl rfl) ⟨rfl, rfl, rfl, rfl⟩ rfl rfl ?_
       intro b9 w20 x16 l9 h41
       have sx16 := x16.size
       have ltb9 := h41.lt
       refine RW.done ?_
       refine NW.next ?_
       refine CW.seq ?_
       refine CW.lex [.W] rfl ?_
       refine RW.pure tabOk 1 rfl ?_
       refine RW.done ?_
       refine NW.next ?_
       refine CW.seqJ (fun a w21 => ∃ (it8_4 : Int) (it11_4 : Int) (ib8_0_4 : Int) (ib8_1_4 : Int) (lb8_2_4 : List Entry) (Ab8_2_4 : Option Addr) (cb8_2_4 : Nat) (ib9_0_4 : Int) (ib9_1_4 : Int) (lb9_2_4 : List Entry) (Ab9_2_4 : Option Addr) (cb9_2_4 : Nat) (mid0_4 : Nat), Sat 223 [(2, .pointer (some ⟨b4, 0, none⟩)), (4, .pointer (some ⟨b6, 0, none⟩)), (6, .pointer (some ⟨b7, 0, none⟩)), (7, .bool y4), (8, .int .i64 it8_4), (9, .pointer (some ⟨b8, 0, none⟩)), (10, .pointer (some ⟨b9, 0, none⟩)), (11, .int .i64 it11_4)] a ∧ w20.heap.size ≤ w21.heap.size ∧ Ow kEntry 45 w21.heap (okL [(w2.heap.size, some w6.heap.size, some 45)]) (okL []) Ab2_2_0 cb2_2_0 lb2_2_0 ∧ Ow kEntry 45 w21.heap (okL [(w14.heap.size, some w15.heap.size, some 45)]) (okL []) A4 c_4 y3.List_ ∧ Ow kEntry 45 w21.heap (okL [(w20.heap.size, some mid0_4, some 45)]) (okL []) Ab8_2_4 cb8_2_4 lb8_2_4 ∧ Ow kEntry 45 w21.heap (okL [(mid0_4, none, some 45)]) (okL []) Ab9_2_4 cb9_2_4 lb9_2_4 ∧ Sl kEntry w21.heap (okL [(0, some w.heap.size, none)]) A1 p0.T.List_ ∧ Sl khermitagelaw8Act w21.heap (okL [(0, some w.heap.size, none)]) A2 p0.A ∧ Ext w w21 ∧ Box w21.heap b4 24 [.int .i64 ib2_0_0, .int .i64 ib2_1_0, .slice Ab2_2_0 lb2_2_0.length cb2_2_0] ∧ Box w21.heap b6 24 [.int .i64 0, .int .i64 0, .slice none 0 0] ∧ Box w21.heap b7 24 [.int .i64 y3.Dev, .int .i64 y3.Size, .slice A4 y3.List_.length c_4] ∧ Box w21.heap b8 24 [.int .i64 ib8_0_4, .int .i64 ib8_1_4, .slice Ab8_2_4 lb8_2_4.length cb8_2_4] ∧ Box w21.heap b9 24 [.int .i64 ib9_0_4, .int .i64 ib9_1_4, .slice Ab9_2_4 lb9_2_4.length cb9_2_4] ∧ Box w21.heap b1 27 [.int .i64 p0.T.Dev, .int .i64 p0.T.Size, .slice A1 p0.T.List_.length c_1, .slice A2 p0.A.length c_2] ∧ Box w21.heap b2 24 [.int .i64 ib2_0_0, .int .i64 ib2_1_0, .slice Ab2_2_0 lb2_2_0.length cb2_2_0] ∧ Box w21.heap b3 24 [.int .i64 0, .int .i64 0, .slice none 0 0] ∧ w20.heap.size ≤ mid0_4 ∧ mid0_4 ≤ w21.heap.size ∧ hermitagelaw8_TableExact.j3 k it4_0 ib2_0_0 ib2_1_0 lb2_2_0 y3 y4 (hermitagelaw8_TableExact.l0 p0 k n1) it8_4 it11_4 ib8_0_4 ib8_1_4 lb8_2_4 ib9_0_4 ib9_1_4 lb9_2_4 = some r) ?_ ?_
       ·
        refine CW.seq ?_
        refine CW.lex [.W, .L, .X] rfl ?_
        refine RW.pure tabOk 1 rfl ?_
        have h42 := ((((((h27.ext x10).ext x11).ext x12).turnB x13 (by omega)).ext x14).ext x15).ext x16
        refine RW.load tabOk [.int .i64 ((rd p0.A it4_0).Do)] ((h42.at 0).take 1 rfl) ⟨rfl, rfl, rfl, rfl⟩ rfl rfl rfl rfl ?_
        obtain ⟨y5, h43, H⟩ := bind_some H
        refine RW.callF (.inl rfl) ent11 ⟨rfl, rfl, rfl, rfl⟩ rfl rfl (hermitagelaw0_Within.calls ((rd p0.A it4_0).Do) 10 _ _ h43) ?_
        rintro _ w22 ⟨rfl, x17⟩
        refine ⟨_, rfl, x17, ?_⟩
        have sx17 := x17.size
        refine RW.done ?_
        refine NW.next ?_
        refine CW.block ?_
        refine CW.seqJ (fun a w23 => ∃ (bt67_5 : Bool), Sat 223 [(2, .pointer (some ⟨b4, 0, none⟩)), (3, .pointer (some ⟨b5, 0, none⟩)), (4, .pointer (some ⟨b6, 0, none⟩)), (6, .pointer (some ⟨b7, 0, none⟩)), (7, .bool y4), (8, .int .i64 1), (9, .pointer (some ⟨b8, 0, none⟩)), (10, .pointer (some ⟨b9, 0, none⟩)), (30, .int .i64 y5), (67, .bool bt67_5)] a ∧ w22.heap.size ≤ w23.heap.size ∧ Ow kEntry 45 w23.heap (okL [(w2.heap.size, some w6.heap.size, some 45)]) (okL []) Ab2_2_0 cb2_2_0 lb2_2_0 ∧ Ow kEntry 45 w23.heap (okL [(w14.heap.size, some w15.heap.size, some 45)]) (okL []) A4 c_4 y3.List_ ∧ Sl kEntry w23.heap (okL [(0, some w.heap.size, none)]) A1 p0.T.List_ ∧ Sl khermitagelaw8Act w23.heap (okL [(0, some w.heap.size, none)]) A2 p0.A ∧ Ext w w23 ∧ Box w23.heap b4 24 [.int .i64 ib2_0_0, .int .i64 ib2_1_0, .slice Ab2_2_0 lb2_2_0.length cb2_2_0] ∧ Box w23.heap b5 35 [.int .i64 ((rd p0.A it4_0).Do), .int .i64 ((rd p0.A it4_0).N), .int .i64 ((rd p0.A it4_0).M), .int .i64 (((rd p0.A it4_0).P).Dev), .int .i64 (((rd p0.A it4_0).P).At)] ∧ Box w23.heap b6 24 [.int .i64 0, .int .i64 0, .slice none 0 0] ∧ Box w23.heap b7 24 [.int .i64 y3.Dev, .int .i64 y3.Size, .slice A4 y3.List_.length c_4] ∧ Box w23.heap b8 24 [.int .i64 0, .int .i64 0, .slice none 0 0] ∧ Box w23.heap b9 24 [.int .i64 0, .int .i64 0, .slice none 0 0] ∧ Box w23.heap b1 27 [.int .i64 p0.T.Dev, .int .i64 p0.T.Size, .slice A1 p0.T.List_.length c_1, .slice A2 p0.A.length c_2] ∧ Box w23.heap b2 24 [.int .i64 ib2_0_0, .int .i64 ib2_1_0, .slice Ab2_2_0 lb2_2_0.length cb2_2_0] ∧ Box w23.heap b3 24 [.int .i64 0, .int .i64 0, .slice none 0 0] ∧ hermitagelaw8_TableExact.j4 p0 k it4_0 ib2_0_0 ib2_1_0 lb2_2_0 y3 y4 y5 (hermitagelaw8_TableExact.l0 p0 k n1) bt67_5 = some r) ?_ ?_
        ·
         refine CW.seq ?_
         refine CW.lex [.W, .W] rfl ?_
         refine RW.pure tabOk 2 rfl ?_
         refine RW.done ?_
         refine NW.next ?_
         by_cases c4 : y5 = 0
         ·
          rw [if_pos c4] at H
          refine CW.cond_t rfl (beq_t c4) ?_
          refine CW.skip ?_
          have h44 := (((h38.ext x14).ext x15).ext x16).ext x17
          have h45 := (((((h33.ext x12).turnB x13 h34 ⟨.inl (show (45 : Nat) ≠ 24 by decide), trivial⟩ trivial).ext x14).ext x15).ext x16).ext x17
          have h46 := (((((((((((gF1_1.ext x6).ext x7).ext x8).ext x9).ext x10).ext x11).ext x12).turnB x13 h34 ⟨.inr (by omega), trivial⟩).ext x14).ext x15).ext x16).ext x17
          have h47 := ((((((((((h24.ext x7).ext x8).ext x9).ext x10).ext x11).ext x12).turnB x13 h34 ⟨.inr (by omega), trivial⟩).ext x14).ext x15).ext x16).ext x17
          have h48 := Ext.trans (Ext.trans (Ext.trans (Ext.trans (Ext.turnB (Ext.trans (Ext.trans (Ext.trans (Ext.trans (Ext.trans (Ext.trans (Ext.trans x0_1 x6) x7) x8) x9) x10) x11) x12) x13 (by omega)) x14) x15) x16) x17
          have h49 := (((h37.ext x14).ext x15).ext x16).ext x17
          have h50 := h42.ext x17
          have h51 := ((((((h28.ext x11).ext x12).turnB x13 (by omega)).ext x14).ext x15).ext x16).ext x17
          have h52 := (((h36.ext x14).ext x15).ext x16).ext x17
          have h53 := (h40.ext x16).ext x17
          have h54 := h41.ext x17
          have h55 := ((((((((((h23.ext x7).ext x8).ext x9).ext x10).ext x11).ext x12).turnB x13 (by omega)).ext x14).ext x15).ext x16).ext x17
          have h56 := ((((((((((h22.ext x7).ext x8).ext x9).ext x10).ext x11).ext x12).turnB x13 (by omega)).ext x14).ext x15).ext x16).ext x17
          have h57 := (((((((((h25.ext x8).ext x9).ext x10).ext x11).ext x12).turnB x13 (by omega)).ext x14).ext x15).ext x16).ext x17
          exact NW.J fun a ha => ⟨(y5 == 0), ha.sub ⟨rfl, rfl, rfl, rfl, rfl, rfl, rfl, rfl, rfl, rfl, trivial⟩, by omega, h44, h45, h46, h47, h48, h49, h50, h51, h52, h53, h54, h55, h56, h57, H⟩
         ·
          rw [if_neg c4] at H
          refine CW.cond_f rfl (beq_f c4) ?_
          refine CW.seq ?_
          refine CW.lex [.W, .W] rfl ?_
          refine RW.pure tabOk 2 rfl ?_
          refine RW.done ?_
          refine NW.next ?_
          by_cases c5 : y5 = 1
          ·
           rw [if_pos c5] at H
           refine CW.cond_t rfl (beq_t c5) ?_
           refine CW.skip ?_
           have h58 := (((h38.ext x14).ext x15).ext x16).ext x17
           have h59 := (((((h33.ext x12).turnB x13 h34 ⟨.inl (show (45 : Nat) ≠ 24 by decide), trivial⟩ trivial).ext x14).ext x15).ext x16).ext x17
           have h60 := (((((((((((gF1_1.ext x6).ext x7).ext x8).ext x9).ext x10).ext x11).ext x12).turnB x13 h34 ⟨.inr (by omega), trivial⟩).ext x14).ext x15).ext x16).ext x17
           have h61 := ((((((((((h24.ext x7).ext x8).ext x9).ext x10).ext x11).ext x12).turnB x13 h34 ⟨.inr (by omega), trivial⟩).ext x14).ext x15).ext x16).ext x17
           have h62 := Ext.trans (Ext.trans (Ext.trans (Ext.trans (Ext.turnB (Ext.trans (Ext.trans (Ext.trans (Ext.trans (Ext.trans (Ext.trans (Ext.trans x0_1 x6) x7) x8) x9) x10) x11) x12) x13 (by omega)) x14) x15) x16) x17
           have h63 := (((h37.ext x14).ext x15).ext x16).ext x17
           have h64 := h42.ext x17
           have h65 := ((((((h28.ext x11).ext x12).turnB x13 (by omega)).ext x14).ext x15).ext x16).ext x17
           have h66 := (((h36.ext x14).ext x15).ext x16).ext x17
           have h67 := (h40.ext x16).ext x17
           have h68 := h41.ext x17
           have h69 := ((((((((((h23.ext x7).ext x8).ext x9).ext x10).ext x11).ext x12).turnB x13 (by omega)).ext x14).ext x15).ext x16).ext x17
           have h70 := ((((((((((h22.ext x7).ext x8).ext x9).ext x10).ext x11).ext x12).turnB x13 (by omega)).ext x14).ext x15).ext x16).ext x17
           have h71 := (((((((((h25.ext x8).ext x9).ext x10).ext x11).ext x12).turnB x13 (by omega)).ext x14).ext x15).ext x16).ext x17
           exact NW.J fun a ha => ⟨(y5 == 1), ha.sub ⟨rfl, rfl, rfl, rfl, rfl, rfl, rfl, rfl, rfl, rfl, trivial⟩, by omega, h58, h59, h60, h61, h62, h63, h64, h65, h66, h67, h68, h69, h70, h71, H⟩
          ·
           rw [if_neg c5] at H
           refine CW.cond_f rfl (beq_f c5) ?_
           refine CW.seq ?_
           refine CW.lex [.W, .W] rfl ?_
           refine RW.pure tabOk 2 rfl ?_
           refine RW.done ?_
           refine NW.next ?_
           by_cases c6 : y5 = 2
           ·
            rw [if_pos c6] at H
            refine CW.cond_t rfl (beq_t c6) ?_
            refine CW.skip ?_
            have h72 := (((h38.ext x14).ext x15).ext x16).ext x17
            have h73 := (((((h33.ext x12).turnB x13 h34 ⟨.inl (show (45 : Nat) ≠ 24 by decide), trivial⟩ trivial).ext x14).ext x15).ext x16).ext x17
            have h74 := (((((((((((gF1_1.ext x6).ext x7).ext x8).ext x9).ext x10).ext x11).ext x12).turnB x13 h34 ⟨.inr (by omega), trivial⟩).ext x14).ext x15).ext x16).ext x17
            have h75 := ((((((((((h24.ext x7).ext x8).ext x9).ext x10).ext x11).ext x12).turnB x13 h34 ⟨.inr (by omega), trivial⟩).ext x14).ext x15).ext x16).ext x17
            have h76 := Ext.trans (Ext.trans (Ext.trans (Ext.trans (Ext.turnB (Ext.trans (Ext.trans (Ext.trans (Ext.trans (Ext.trans (Ext.trans (Ext.trans x0_1 x6) x7) x8) x9) x10) x11) x12) x13 (by omega)) x14) x15) x16) x17
            have h77 := (((h37.ext x14).ext x15).ext x16).ext x17
            have h78 := h42.ext x17
            have h79 := ((((((h28.ext x11).ext x12).turnB x13 (by omega)).ext x14).ext x15).ext x16).ext x17
            have h80 := (((h36.ext x14).ext x15).ext x16).ext x17
            have h81 := (h40.ext x16).ext x17
            have h82 := h41.ext x17
            have h83 := ((((((((((h23.ext x7).ext x8).ext x9).ext x10).ext x11).ext x12).turnB x13 (by omega)).ext x14).ext x15).ext x16).ext x17
            have h84 := ((((((((((h22.ext x7).ext x8).ext x9).ext x10).ext x11).ext x12).turnB x13 (by omega)).ext x14).ext x15).ext x16).ext x17
            have h85 := (((((((((h25.ext x8).ext x9).ext x10).ext x11).ext x12).turnB x13 (by omega)).ext x14).ext x15).ext x16).ext x17
            exact NW.J fun a ha => ⟨(y5 == 2), ha.sub ⟨rfl, rfl, rfl, rfl, rfl, rfl, rfl, rfl, rfl, rfl, trivial⟩, by omega, h72, h73, h74, h75, h76, h77, h78, h79, h80, h81, h82, h83, h84, h85, H⟩
           ·
            rw [if_neg c6] at H
            refine CW.cond_f rfl (beq_f c6) ?_
            refine CW.lex [.W, .W] rfl ?_
            refine RW.pure tabOk 2 rfl ?_
            refine RW.done ?_
            have h86 := (((h38.ext x14).ext x15).ext x16).ext x17
            have h87 := (((((h33.ext x12).turnB x13 h34 ⟨.inl (show (45 : Nat) ≠ 24 by decide), trivial⟩ trivial).ext x14).ext x15).ext x16).ext x17
            have h88 := (((((((((((gF1_1.ext x6).ext x7).ext x8).ext x9).ext x10).ext x11).ext x12).turnB x13 h34 ⟨.inr (by omega), trivial⟩).ext x14).ext x15).ext x16).ext x17
            have h89 := ((((((((((h24.ext x7).ext x8).ext x9).ext x10).ext x11).ext x12).turnB x13 h34 ⟨.inr (by omega), trivial⟩).ext x14).ext x15).ext x16).ext x17
            have h90 := Ext.trans (Ext.trans (Ext.trans (Ext.trans (Ext.turnB (Ext.trans (Ext.trans (Ext.trans (Ext.trans (Ext.trans (Ext.trans (Ext.trans x0_1 x6) x7) x8) x9) x10) x11) x12) x13 (by omega)) x14) x15) x16) x17
            have h91 := (((h37.ext x14).ext x15).ext x16).ext x17
            have h92 := h42.ext x17
            have h93 := ((((((h28.ext x11).ext x12).turnB x13 (by omega)).ext x14).ext x15).ext x16).ext x17
            have h94 := (((h36.ext x14).ext x15).ext x16).ext x17
            have h95 := (h40.ext x16).ext x17
            have h96 := h41.ext x17
            have h97 := ((((((((((h23.ext x7).ext x8).ext x9).ext x10).ext x11).ext x12).turnB x13 (by omega)).ext x14).ext x15).ext x16).ext x17
            have h98 := ((((((((((h22.ext x7).ext x8).ext x9).ext x10).ext x11).ext x12).turnB x13 (by omega)).ext x14).ext x15).ext x16).ext x17
            have h99 := (((((((((h25.ext x8).ext x9).ext x10).ext x11).ext x12).turnB x13 (by omega)).ext x14).ext x15).ext x16).ext x17
            exact NW.J fun a ha => ⟨(y5 == 3), ha.sub ⟨rfl, rfl, rfl, rfl, rfl, rfl, rfl, rfl, rfl, rfl, trivial⟩, by omega, h86, h87, h88, h89, h90, h91, h92, h93, h94, h95, h96, h97, h98, h99, H⟩
        intro a w23 hJ hp
        obtain ⟨bt67_5, hS, hle, gL0_b2_2_5, gF4_5, gF1_5, gF2_5, x0_5, gb4_5, gb5_5, gb6_5, gb7_5, gb8_5, gb9_5, gb1_5, gb2_5, gb3_5, H⟩ := hJ
        unfold hermitagelaw8_TableExact.j4 at H
        refine CW.go hp hS ?_
        by_cases c7 : bt67_5 = true
        ·
         rw [if_pos c7] at H
         refine CW.cond_t rfl (c7) ?_
         refine CW.seq ?_
         refine CW.lex [.L, .W, .L, .W, .L, .X, .W, .W, .W, .M, .W] rfl ?_
         refine RW.load tabOk [.int .i64 y3.Dev, .int .i64 y3.Size, .slice A4 y3.List_.length c_4] (gb7_5.at 0) ⟨rfl, rfl, rfl, rfl⟩ rfl rfl rfl rfl ?_
         refine RW.pure tabOk 1 rfl ?_
         refine RW.load tabOk [.int .i64 ((rd p0.A it4_0).N)] ((gb5_5.at 1).take 1 rfl) ⟨rfl, rfl, rfl, rfl⟩ rfl rfl rfl rfl ?_
         refine RW.pure tabOk 1 rfl ?_
         refine RW.load tabOk [.int .i64 (((rd p0.A it4_0).P).Dev), .int .i64 (((rd p0.A it4_0).P).At)] (gb5_5.at 3) ⟨rfl, rfl, rfl, rfl⟩ rfl rfl rfl rfl ?_
         obtain ⟨y6, h100, H⟩ := bind_some H
         refine RW.callF (.inl rfl) ent12 ⟨rfl, rfl, rfl, rfl⟩ rfl rfl (table_Add.calls k y3 A4 c_4 ((rd p0.A it4_0).N) ((rd p0.A it4_0).P) _ _ gF4_5.all gF4_5.len h100) ?_
         rintro _ w24 ⟨A5, c_5, rfl, x18, h101⟩
         refine ⟨_, rfl, x18, ?_⟩
         have sx18 := x18.size
         have h102 : Ow kEntry 45 w24.heap (okL [(w23.heap.size, some w24.heap.size, some 45)]) (okL []) A5 c_5 y6.1.List_ := h101.close
         refine RW.pure tabOk 3 rfl ?_
         have h103 := gb8_5.ext x18
         refine RW.storeBox tabOk h103 [.int .i64 y6.1.Dev, .int .i64 y6.1.Size, .slice A5 y6.1.List_.length c_5] ⟨rfl, rfl, rfl⟩ rfl rfl rfl rfl rfl rfl rfl rfl ?_
         intro w25 x19 h104
         have h105 : Box w25.heap b8 24 [.int .i64 y6.1.Dev, .int .i64 y6.1.Size, .slice A5 y6.1.List_.length c_5] := h104
         have sx19 := x19.size
         refine RW.pure tabOk 1 rfl ?_
         refine RW.done ?_
         refine NW.next ?_
         refine CW.seqJ (fun a w26 => ∃ (bt98_6 : Bool), Sat 223 [(2, .pointer (some ⟨b4, 0, none⟩)), (3, .pointer (some ⟨b5, 0, none⟩)), (4, .pointer (some ⟨b6, 0, none⟩)), (6, .pointer (some ⟨b7, 0, none⟩)), (7, .bool y4), (8, .int .i64 1), (9, .pointer (some ⟨b8, 0, none⟩)), (10, .pointer (some ⟨b9, 0, none⟩)), (11, .int .i64 y6.2), (98, .bool bt98_6)] a ∧ w25.heap.size ≤ w26.heap.size ∧ Ow kEntry 45 w26.heap (okL [(w2.heap.size, some w6.heap.size, some 45)]) (okL []) Ab2_2_0 cb2_2_0 lb2_2_0 ∧ Ow kEntry 45 w26.heap (okL [(w14.heap.size, some w15.heap.size, some 45)]) (okL []) A4 c_4 y3.List_ ∧ Ow kEntry 45 w26.heap (okL [(w23.heap.size, some w24.heap.size, some 45)]) (okL []) A5 c_5 y6.1.List_ ∧ Sl kEntry w26.heap (okL [(0, some w.heap.size, none)]) A1 p0.T.List_ ∧ Sl khermitagelaw8Act w26.heap (okL [(0, some w.heap.size, none)]) A2 p0.A ∧ Ext w w26 ∧ Box w26.heap b4 24 [.int .i64 ib2_0_0, .int .i64 ib2_1_0, .slice Ab2_2_0 lb2_2_0.length cb2_2_0] ∧ Box w26.heap b5 35 [.int .i64 ((rd p0.A it4_0).Do), .int .i64 ((rd p0.A it4_0).N), .int .i64 ((rd p0.A it4_0).M), .int .i64 (((rd p0.A it4_0).P).Dev), .int .i64 (((rd p0.A it4_0).P).At)] ∧ Box w26.heap b6 24 [.int .i64 0, .int .i64 0, .slice none 0 0] ∧ Box w26.heap b7 24 [.int .i64 y3.Dev, .int .i64 y3.Size, .slice A4 y3.List_.length c_4] ∧ Box w26.heap b8 24 [.int .i64 y6.1.Dev, .int .i64 y6.1.Size, .slice A5 y6.1.List_.length c_5] ∧ Box w26.heap b9 24 [.int .i64 0, .int .i64 0, .slice none 0 0] ∧ Box w26.heap b1 27 [.int .i64 p0.T.Dev, .int .i64 p0.T.Size, .slice A1 p0.T.List_.length c_1, .slice A2 p0.A.length c_2] ∧ Box w26.heap b2 24 [.int .i64 ib2_0_0, .int .i64 ib2_1_0, .slice Ab2_2_0 lb2_2_0.length cb2_2_0] ∧ Box w26.heap b3 24 [.int .i64 0, .int .i64 0, .slice none 0 0] ∧ hermitagelaw8_TableExact.j5 p0 k it4_0 ib2_0_0 ib2_1_0 lb2_2_0 y3 y4 y6 (hermitagelaw8_TableExact.l0 p0 k n1) bt98_6 = some r) ?_ ?_
         ·
          refine CW.ord [0, 1, 3, 7, 3, 19, 3, 67, 195, 511, 1023, 2047, 4095, 8191, 4095, 20479, 65535, 131071] (ofL [(0, .W), (1, .W), (2, .W), (6, .W), (3, .L), (4, .L), (7, .L), (8, .W), (5, .X), (9, .X), (10, .W), (11, .W), (12, .W), (14, .W), (13, .L), (15, .L), (16, .X), (17, .W)] .nil) mixed (by kernel_rfl) ?_
          intro w27 x20
          have sx20 := x20.size
          refine RW.pure tabOk 2 rfl ?_
          by_cases c8 : y4 = true
          ·
           rw [if_pos c8] at H
           refine RW.bool 82 (b' := true) (c8) rfl ?_
           refine RW.pure tabOk 2 rfl ?_
           have h106 := ((gb5_5.ext x18).turnB x19 (by omega)).ext x20
           refine RW.load tabOk [.int .i64 ((rd p0.A it4_0).N)] ((h106.at 1).take 1 rfl) ⟨rfl, rfl, rfl, rfl⟩ rfl rfl rfl rfl ?_
           have h107 := ((gb4_5.ext x18).turnB x19 (by omega)).ext x20
           refine RW.load tabOk [.int .i64 ib2_0_0, .int .i64 ib2_1_0, .slice Ab2_2_0 lb2_2_0.length cb2_2_0] (h107.at 0) ⟨rfl, rfl, rfl, rfl⟩ rfl rfl rfl rfl ?_
           refine RW.load tabOk [.int .i64 ib2_1_0] ((h107.at 1).take 1 rfl) ⟨rfl, rfl, rfl, rfl⟩ rfl rfl rfl rfl ?_
           refine RW.pure tabOk 1 rfl ?_
           have h108 := ((gL0_b2_2_5.ext x18).turnB x19 h103 ⟨.inl (show (45 : Nat) ≠ 24 by decide), trivial⟩ trivial).ext x20
           obtain ⟨y7, h109, H⟩ := bind_some H
           refine RW.callF (.inl rfl) ent52 ⟨rfl, rfl, rfl, rfl⟩ rfl rfl (hermitageref7_End.calls (⟨ib2_0_0, ib2_1_0, lb2_2_0⟩ : Table) Ab2_2_0 cb2_2_0 _ _ h108.all h108.len h109) ?_
           rintro _ w28 ⟨rfl, x21⟩
           refine ⟨_, rfl, x21, ?_⟩
           have sx21 := x21.size
           obtain ⟨y8, h110, H⟩ := bind_some H
           refine RW.callF (.inl rfl) ent37 ⟨rfl, rfl, rfl, rfl⟩ rfl rfl (hermitageref0_Between.calls ((rd p0.A it4_0).N) y7 (w64 (ib2_1_0 - 1)) _ _ h110) ?_
           rintro _ w29 ⟨rfl, x22⟩
           refine ⟨_, rfl, x22, ?_⟩
           have sx22 := x22.size
           refine RW.pure tabOk 2 rfl ?_
           by_cases c9 : y8 = true
           ·
            rw [if_pos c9] at H
            refine RW.bool 92 (b' := true) (c9) rfl ?_
            refine RW.pure tabOk 2 rfl ?_
            have h111 := (h107.ext x21).ext x22
            refine RW.load tabOk [.int .i64 ib2_0_0] ((h111.at 0).take 1 rfl) ⟨rfl, rfl, rfl, rfl⟩ rfl rfl rfl rfl ?_
            have h112 := (h106.ext x21).ext x22
            refine RW.load tabOk [.int .i64 (((rd p0.A it4_0).P).Dev), .int .i64 (((rd p0.A it4_0).P).At)] (h112.at 3) ⟨rfl, rfl, rfl, rfl⟩ rfl rfl rfl rfl ?_
            obtain ⟨y9, h113, H⟩ := bind_some H
            refine RW.callF (.inl rfl) ent49 ⟨rfl, rfl, rfl, rfl⟩ rfl rfl (hermitageref7_Place.calls ib2_0_0 ((rd p0.A it4_0).P) 1 _ _ h113) ?_
            rintro _ w30 ⟨rfl, x23⟩
            refine ⟨_, rfl, x23, ?_⟩
            have sx23 := x23.size
            refine RW.pure tabOk 1 rfl ?_
            refine RW.done ?_
            have h114 := ((h108.ext x21).ext x22).ext x23
            have h115 := (((((gF4_5.ext x18).turnB x19 h103 ⟨.inl (show (45 : Nat) ≠ 24 by decide), trivial⟩ trivial).ext x20).ext x21).ext x22).ext x23
            have h116 := ((((h102.turnB x19 h103 ⟨.inl (show (45 : Nat) ≠ 24 by decide), trivial⟩ trivial).ext x20).ext x21).ext x22).ext x23
            have h117 := (((((gF1_5.ext x18).turnB x19 h103 ⟨.inr (by omega), trivial⟩).ext x20).ext x21).ext x22).ext x23
            have h118 := (((((gF2_5.ext x18).turnB x19 h103 ⟨.inr (by omega), trivial⟩).ext x20).ext x21).ext x22).ext x23
            have h119 := Ext.trans (Ext.trans (Ext.trans (Ext.trans (Ext.turnB (Ext.trans x0_5 x18) x19 (by omega)) x20) x21) x22) x23
            have h120 := h111.ext x23
            have h121 := h112.ext x23
            have h122 := (((((gb6_5.ext x18).turnB x19 (by omega)).ext x20).ext x21).ext x22).ext x23
            have h123 := (((((gb7_5.ext x18).turnB x19 (by omega)).ext x20).ext x21).ext x22).ext x23
            have h124 := (((h105.ext x20).ext x21).ext x22).ext x23
            have h125 := (((((gb9_5.ext x18).turnB x19 (by omega)).ext x20).ext x21).ext x22).ext x23
            have h126 := (((((gb1_5.ext x18).turnB x19 (by omega)).ext x20).ext x21).ext x22).ext x23
            have h127 := (((((gb2_5.ext x18).turnB x19 (by omega)).ext x20).ext x21).ext x22).ext x23
            have h128 := (((((gb3_5.ext x18).turnB x19 (by omega)).ext x20).ext x21).ext x22).ext x23
            exact NW.J fun a ha => ⟨y9, ha.sub ⟨rfl, rfl, rfl, rfl, rfl, rfl, rfl, rfl, rfl, rfl, trivial⟩, by omega, h114, h115, h116, h117, h118, h119, h120, h121, h122, h123, h124, h125, h126, h127, h128, H⟩
           ·
            rw [if_neg c9] at H
            refine RW.bool 92 (b' := false) (bool_f c9) rfl ?_
            refine RW.pure tabOk 6 rfl ?_
            refine RW.done ?_
            have h129 := (h108.ext x21).ext x22
            have h130 := ((((gF4_5.ext x18).turnB x19 h103 ⟨.inl (show (45 : Nat) ≠ 24 by decide), trivial⟩ trivial).ext x20).ext x21).ext x22
            have h131 := (((h102.turnB x19 h103 ⟨.inl (show (45 : Nat) ≠ 24 by decide), trivial⟩ trivial).ext x20).ext x21).ext x22
            have h132 := ((((gF1_5.ext x18).turnB x19 h103 ⟨.inr (by omega), trivial⟩).ext x20).ext x21).ext x22
            have h133 := ((((gF2_5.ext x18).turnB x19 h103 ⟨.inr (by omega), trivial⟩).ext x20).ext x21).ext x22
            have h134 := Ext.trans (Ext.trans (Ext.trans (Ext.turnB (Ext.trans x0_5 x18) x19 (by omega)) x20) x21) x22
            have h135 := (h107.ext x21).ext x22
            have h136 := (h106.ext x21).ext x22
            have h137 := ((((gb6_5.ext x18).turnB x19 (by omega)).ext x20).ext x21).ext x22
            have h138 := ((((gb7_5.ext x18).turnB x19 (by omega)).ext x20).ext x21).ext x22
            have h139 := ((h105.ext x20).ext x21).ext x22
            have h140 := ((((gb9_5.ext x18).turnB x19 (by omega)).ext x20).ext x21).ext x22
            have h141 := ((((gb1_5.ext x18).turnB x19 (by omega)).ext x20).ext x21).ext x22
            have h142 := ((((gb2_5.ext x18).turnB x19 (by omega)).ext x20).ext x21).ext x22
            have h143 := ((((gb3_5.ext x18).turnB x19 (by omega)).ext x20).ext x21).ext x22
            exact NW.J fun a ha => ⟨false, ha.sub ⟨rfl, rfl, rfl, rfl, rfl, rfl, rfl, rfl, rfl, rfl, trivial⟩, by omega, h129, h130, h131, h132, h133, h134, h135, h136, h137, h138, h139, h140, h141, h142, h143, H⟩
          ·
           rw [if_neg c8] at H
           refine RW.bool 82 (b' := false) (bool_f c8) rfl ?_
           refine RW.pure tabOk 16 rfl ?_
           refine RW.done ?_
           have h144 := ((gL0_b2_2_5.ext x18).turnB x19 h103 ⟨.inl (show (45 : Nat) ≠ 24 by decide), trivial⟩ trivial).ext x20
           have h145 := ((gF4_5.ext x18).turnB x19 h103 ⟨.inl (show (45 : Nat) ≠ 24 by decide), trivial⟩ trivial).ext x20
           have h146 := (h102.turnB x19 h103 ⟨.inl (show (45 : Nat) ≠ 24 by decide), trivial⟩ trivial).ext x20
           have h147 := ((gF1_5.ext x18).turnB x19 h103 ⟨.inr (by omega), trivial⟩).ext x20
           have h148 := ((gF2_5.ext x18).turnB x19 h103 ⟨.inr (by omega), trivial⟩).ext x20
           have h149 := Ext.trans (Ext.turnB (Ext.trans x0_5 x18) x19 (by omega)) x20
           have h150 := ((gb4_5.ext x18).turnB x19 (by omega)).ext x20
           have h151 := ((gb5_5.ext x18).turnB x19 (by omega)).ext x20
           have h152 := ((gb6_5.ext x18).turnB x19 (by omega)).ext x20
           have h153 := ((gb7_5.ext x18).turnB x19 (by omega)).ext x20
           have h154 := h105.ext x20
           have h155 := ((gb9_5.ext x18).turnB x19 (by omega)).ext x20
           have h156 := ((gb1_5.ext x18).turnB x19 (by omega)).ext x20
           have h157 := ((gb2_5.ext x18).turnB x19 (by omega)).ext x20
           have h158 := ((gb3_5.ext x18).turnB x19 (by omega)).ext x20
           exact NW.J fun a ha => ⟨false, ha.sub ⟨rfl, rfl, rfl, rfl, rfl, rfl, rfl, rfl, rfl, rfl, trivial⟩, by omega, h144, h145, h146, h147, h148, h149, h150, h151, h152, h153, h154, h155, h156, h157, h158, H⟩
         intro a w26 hJ hp
         obtain ⟨bt98_6, hS, hle, gL0_b2_2_6, gF4_6, gF5_6, gF1_6, gF2_6, x0_6, gb4_6, gb5_6, gb6_6, gb7_6, gb8_6, gb9_6, gb1_6, gb2_6, gb3_6, H⟩ := hJ
         unfold hermitagelaw8_TableExact.j5 at H
         refine CW.go hp hS ?_
         by_cases c10 : bt98_6 = true
         ·
          rw [if_pos c10] at H
          refine CW.cond_t rfl (c10) ?_
          refine CW.lex [.L, .W, .L, .W, .L, .X, .W, .M] rfl ?_
          refine RW.load tabOk [.int .i64 ib2_0_0, .int .i64 ib2_1_0, .slice Ab2_2_0 lb2_2_0.length cb2_2_0] (gb4_6.at 0) ⟨rfl, rfl, rfl, rfl⟩ rfl rfl rfl rfl ?_
          refine RW.pure tabOk 1 rfl ?_
          refine RW.load tabOk [.int .i64 ((rd p0.A it4_0).N)] ((gb5_6.at 1).take 1 rfl) ⟨rfl, rfl, rfl, rfl⟩ rfl rfl rfl rfl ?_
          refine RW.pure tabOk 1 rfl ?_
          refine RW.load tabOk [.int .i64 (((rd p0.A it4_0).P).Dev), .int .i64 (((rd p0.A it4_0).P).At)] (gb5_6.at 3) ⟨rfl, rfl, rfl, rfl⟩ rfl rfl rfl rfl ?_
          obtain ⟨y10, h159, H⟩ := bind_some H
          refine RW.callF (.inl rfl) ent53 ⟨rfl, rfl, rfl, rfl⟩ rfl rfl (hermitageref7_Add.calls k (⟨ib2_0_0, ib2_1_0, lb2_2_0⟩ : Table) Ab2_2_0 cb2_2_0 ((rd p0.A it4_0).N) ((rd p0.A it4_0).P) _ _ gL0_b2_2_6.all gL0_b2_2_6.len h159) ?_
          rintro _ w31 ⟨A6, c_6, rfl, x24, h160⟩
          refine ⟨_, rfl, x24, ?_⟩
          have sx24 := x24.size
          have h161 : Ow kEntry 45 w31.heap (okL [(w26.heap.size, some w31.heap.size, some 45)]) (okL []) A6 c_6 y10.List_ := h160.close
          refine RW.pure tabOk 1 rfl ?_
          have h162 := gb9_6.ext x24
          refine RW.storeBox tabOk h162 [.int .i64 y10.Dev, .int .i64 y10.Size, .slice A6 y10.List_.length c_6] ⟨rfl, rfl, rfl⟩ rfl rfl rfl rfl rfl rfl rfl rfl ?_
          intro w32 x25 h163
          have h164 : Box w32.heap b9 24 [.int .i64 y10.Dev, .int .i64 y10.Size, .slice A6 y10.List_.length c_6] := h163
          have sx25 := x25.size
          refine RW.done ?_
          refine NW.norm_block ?_
          have h165 := (gL0_b2_2_6.ext x24).turnB x25 h162 ⟨.inl (show (45 : Nat) ≠ 24 by decide), trivial⟩ trivial
          have h166 := (gF4_6.ext x24).turnB x25 h162 ⟨.inl (show (45 : Nat) ≠ 24 by decide), trivial⟩ trivial
          have h167 := (gF5_6.ext x24).turnB x25 h162 ⟨.inl (show (45 : Nat) ≠ 24 by decide), trivial⟩ trivial
          have h168 := h161.turnB x25 h162 ⟨.inl (show (45 : Nat) ≠ 24 by decide), trivial⟩ trivial
          have h169 := (gF1_6.ext x24).turnB x25 h162 ⟨.inr (by omega), trivial⟩
          have h170 := (gF2_6.ext x24).turnB x25 h162 ⟨.inr (by omega), trivial⟩
          have h171 := Ext.turnB (Ext.trans x0_6 x24) x25 (by omega)
          have h172 := (gb4_6.ext x24).turnB x25 (by omega)
          have h173 := (gb6_6.ext x24).turnB x25 (by omega)
          have h174 := (gb7_6.ext x24).turnB x25 (by omega)
          have h175 := (gb8_6.ext x24).turnB x25 (by omega)
          have h176 := (gb1_6.ext x24).turnB x25 (by omega)
          have h177 := (gb2_6.ext x24).turnB x25 (by omega)
          have h178 := (gb3_6.ext x24).turnB x25 (by omega)
          exact NW.J fun a ha => ⟨0, y6.2, y6.1.Dev, y6.1.Size, y6.1.List_, A5, c_5, y10.Dev, y10.Size, y10.List_, A6, c_6, w24.heap.size, ha.sub ⟨rfl, rfl, rfl, rfl, rfl, rfl, rfl, rfl, trivial⟩, by omega, h165, h166, (h167.sub ⟨(.inl ⟨by omega, by omega, rfl⟩), trivial⟩ trivial), (h168.sub ⟨(.inl ⟨by omega, trivial, rfl⟩), trivial⟩ trivial), h169, h170, h171, h172, h173, h174, h175, h164, h176, h177, h178, by omega, by omega, H⟩
         ·
          rw [if_neg c10] at H
          refine CW.cond_f rfl (bool_f c10) ?_
          refine CW.skip ?_
          refine NW.norm_block ?_
          exact NW.J fun a ha => ⟨1, y6.2, y6.1.Dev, y6.1.Size, y6.1.List_, A5, c_5, 0, 0, ([] : List Entry), none, 0, w24.heap.size, ha.sub ⟨rfl, rfl, rfl, rfl, rfl, rfl, rfl, rfl, trivial⟩, by omega, gL0_b2_2_6, gF4_6, (gF5_6.sub ⟨(.inl ⟨by omega, by omega, rfl⟩), trivial⟩ trivial), Ow.nil, gF1_6, gF2_6, x0_6, gb4_6, gb6_6, gb7_6, gb8_6, gb9_6, gb1_6, gb2_6, gb3_6, by omega, by omega, H⟩
        ·
         rw [if_neg c7] at H
         refine CW.cond_f rfl (bool_f c7) ?_
         refine CW.seqJ (fun a w33 => ∃ (bt105_7 : Bool), Sat 223 [(2, .pointer (some ⟨b4, 0, none⟩)), (3, .pointer (some ⟨b5, 0, none⟩)), (4, .pointer (some ⟨b6, 0, none⟩)), (6, .pointer (some ⟨b7, 0, none⟩)), (7, .bool y4), (8, .int .i64 1), (9, .pointer (some ⟨b8, 0, none⟩)), (10, .pointer (some ⟨b9, 0, none⟩)), (30, .int .i64 y5), (105, .bool bt105_7)] a ∧ w23.heap.size ≤ w33.heap.size ∧ Ow kEntry 45 w33.heap (okL [(w2.heap.size, some w6.heap.size, some 45)]) (okL []) Ab2_2_0 cb2_2_0 lb2_2_0 ∧ Ow kEntry 45 w33.heap (okL [(w14.heap.size, some w15.heap.size, some 45)]) (okL []) A4 c_4 y3.List_ ∧ Sl kEntry w33.heap (okL [(0, some w.heap.size, none)]) A1 p0.T.List_ ∧ Sl khermitagelaw8Act w33.heap (okL [(0, some w.heap.size, none)]) A2 p0.A ∧ Ext w w33 ∧ Box w33.heap b4 24 [.int .i64 ib2_0_0, .int .i64 ib2_1_0, .slice Ab2_2_0 lb2_2_0.length cb2_2_0] ∧ Box w33.heap b5 35 [.int .i64 ((rd p0.A it4_0).Do), .int .i64 ((rd p0.A it4_0).N), .int .i64 ((rd p0.A it4_0).M), .int .i64 (((rd p0.A it4_0).P).Dev), .int .i64 (((rd p0.A it4_0).P).At)] ∧ Box w33.heap b6 24 [.int .i64 0, .int .i64 0, .slice none 0 0] ∧ Box w33.heap b7 24 [.int .i64 y3.Dev, .int .i64 y3.Size, .slice A4 y3.List_.length c_4] ∧ Box w33.heap b8 24 [.int .i64 0, .int .i64 0, .slice none 0 0] ∧ Box w33.heap b9 24 [.int .i64 0, .int .i64 0, .slice none 0 0] ∧ Box w33.heap b1 27 [.int .i64 p0.T.Dev, .int .i64 p0.T.Size, .slice A1 p0.T.List_.length c_1, .slice A2 p0.A.length c_2] ∧ Box w33.heap b2 24 [.int .i64 ib2_0_0, .int .i64 ib2_1_0, .slice Ab2_2_0 lb2_2_0.length cb2_2_0] ∧ Box w33.heap b3 24 [.int .i64 0, .int .i64 0, .slice none 0 0] ∧ hermitagelaw8_TableExact.j6 p0 k it4_0 ib2_0_0 ib2_1_0 lb2_2_0 y3 y4 y5 (hermitagelaw8_TableExact.l0 p0 k n1) bt105_7 = some r) ?_ ?_
         ·
          refine CW.seq ?_
          refine CW.lex [.W, .W] rfl ?_
          refine RW.pure tabOk 2 rfl ?_
          refine RW.done ?_
          refine NW.next ?_
          by_cases c11 : y5 = 4
          ·
           rw [if_pos c11] at H
           refine CW.cond_t rfl (beq_t c11) ?_
           refine CW.skip ?_
           exact NW.J fun a ha => ⟨(y5 == 4), ha.sub ⟨rfl, rfl, rfl, rfl, rfl, rfl, rfl, rfl, rfl, rfl, trivial⟩, by omega, gL0_b2_2_5, gF4_5, gF1_5, gF2_5, x0_5, gb4_5, gb5_5, gb6_5, gb7_5, gb8_5, gb9_5, gb1_5, gb2_5, gb3_5, H⟩
          ·
           rw [if_neg c11] at H
           refine CW.cond_f rfl (beq_f c11) ?_
           refine CW.lex [.W, .W] rfl ?_
           refine RW.pure tabOk 2 rfl ?_
           refine RW.done ?_
           exact NW.J fun a ha => ⟨(y5 == 5), ha.sub ⟨rfl, rfl, rfl, rfl, rfl, rfl, rfl, rfl, rfl, rfl, trivial⟩, by omega, gL0_b2_2_5, gF4_5, gF1_5, gF2_5, x0_5, gb4_5, gb5_5, gb6_5, gb7_5, gb8_5, gb9_5, gb1_5, gb2_5, gb3_5, H⟩
         intro a w33 hJ hp
         obtain ⟨bt105_7, hS, hle, gL0_b2_2_7, gF4_7, gF1_7, gF2_7, x0_7, gb4_7, gb5_7, gb6_7, gb7_7, gb8_7, gb9_7, gb1_7, gb2_7, gb3_7, H⟩ := hJ
         unfold hermitagelaw8_TableExact.j6 at H
         refine CW.go hp hS ?_
         by_cases c12 : bt105_7 = true
         ·
          rw [if_pos c12] at H
          refine CW.cond_t rfl (c12) ?_
          refine CW.seq ?_
          refine CW.lex [.L, .W, .L, .X, .W, .W, .W, .M, .W] rfl ?_
          refine RW.load tabOk [.int .i64 y3.Dev, .int .i64 y3.Size, .slice A4 y3.List_.length c_4] (gb7_7.at 0) ⟨rfl, rfl, rfl, rfl⟩ rfl rfl rfl rfl ?_
          refine RW.pure tabOk 1 rfl ?_
          refine RW.load tabOk [.int .i64 ((rd p0.A it4_0).N)] ((gb5_7.at 1).take 1 rfl) ⟨rfl, rfl, rfl, rfl⟩ rfl rfl rfl rfl ?_
          obtain ⟨y11, h179, H⟩ := bind_some H
          refine RW.callF (.inl rfl) ent16 ⟨rfl, rfl, rfl, rfl⟩ rfl rfl (table_Lose.calls k y3 A4 c_4 ((rd p0.A it4_0).N) _ _ gF4_7.all gF4_7.len h179) ?_
          rintro _ w34 ⟨A7, c_7, rfl, x26, h180⟩
          refine ⟨_, rfl, x26, ?_⟩
          have sx26 := x26.size
          have h181 : Ow kEntry 45 w34.heap (okL [(w33.heap.size, some w34.heap.size, some 45)]) (okL []) A7 c_7 y11.1.List_ := h180.close
          refine RW.pure tabOk 3 rfl ?_
          have h182 := gb8_7.ext x26
          refine RW.storeBox tabOk h182 [.int .i64 y11.1.Dev, .int .i64 y11.1.Size, .slice A7 y11.1.List_.length c_7] ⟨rfl, rfl, rfl⟩ rfl rfl rfl rfl rfl rfl rfl rfl ?_
          intro w35 x27 h183
          have h184 : Box w35.heap b8 24 [.int .i64 y11.1.Dev, .int .i64 y11.1.Size, .slice A7 y11.1.List_.length c_7] := h183
          have sx27 := x27.size
          refine RW.pure tabOk 1 rfl ?_
          refine RW.done ?_
          refine NW.next ?_
          refine CW.seq ?_
          refine CW.lex [.W] rfl ?_
          refine RW.pure tabOk 1 rfl ?_
          refine RW.done ?_
          refine NW.next ?_
          by_cases c13 : y4 = true
          ·
           rw [if_pos c13] at H
           refine CW.cond_t rfl (c13) ?_
           refine CW.lex [.L, .W, .L, .X, .W, .W, .W, .M, .W] rfl ?_
           have h185 := (gb4_7.ext x26).turnB x27 (by omega)
           refine RW.load tabOk [.int .i64 ib2_0_0, .int .i64 ib2_1_0, .slice Ab2_2_0 lb2_2_0.length cb2_2_0] (h185.at 0) ⟨rfl, rfl, rfl, rfl⟩ rfl rfl rfl rfl ?_
           refine RW.pure tabOk 1 rfl ?_
           have h186 := (gb5_7.ext x26).turnB x27 (by omega)
           refine RW.load tabOk [.int .i64 ((rd p0.A it4_0).N)] ((h186.at 1).take 1 rfl) ⟨rfl, rfl, rfl, rfl⟩ rfl rfl rfl rfl ?_
           have h187 := (gL0_b2_2_7.ext x26).turnB x27 h182 ⟨.inl (show (45 : Nat) ≠ 24 by decide), trivial⟩ trivial
           obtain ⟨y12, h188, H⟩ := bind_some H
           refine RW.callF (.inl rfl) ent54 ⟨rfl, rfl, rfl, rfl⟩ rfl rfl (hermitageref7_Lose.calls k (⟨ib2_0_0, ib2_1_0, lb2_2_0⟩ : Table) Ab2_2_0 cb2_2_0 ((rd p0.A it4_0).N) _ _ h187.all h187.len h188) ?_
           rintro _ w36 ⟨A8, c_8, rfl, x28, h189⟩
           refine ⟨_, rfl, x28, ?_⟩
           have sx28 := x28.size
           have h190 : Ow kEntry 45 w36.heap (okL [(w35.heap.size, some w36.heap.size, some 45)]) (okL []) A8 c_8 y12.1.List_ := h189.close
           refine RW.pure tabOk 3 rfl ?_
           have h191 := ((gb9_7.ext x26).turnB x27 (by omega)).ext x28
           refine RW.storeBox tabOk h191 [.int .i64 y12.1.Dev, .int .i64 y12.1.Size, .slice A8 y12.1.List_.length c_8] ⟨rfl, rfl, rfl⟩ rfl rfl rfl rfl rfl rfl rfl rfl ?_
           intro w37 x29 h192
           have h193 : Box w37.heap b9 24 [.int .i64 y12.1.Dev, .int .i64 y12.1.Size, .slice A8 y12.1.List_.length c_8] := h192
           have sx29 := x29.size
           refine RW.pure tabOk 1 rfl ?_
           refine RW.done ?_
           refine NW.norm_block ?_
           have h194 := (h187.ext x28).turnB x29 h191 ⟨.inl (show (45 : Nat) ≠ 24 by decide), trivial⟩ trivial
           have h195 := (((gF4_7.ext x26).turnB x27 h182 ⟨.inl (show (45 : Nat) ≠ 24 by decide), trivial⟩ trivial).ext x28).turnB x29 h191 ⟨.inl (show (45 : Nat) ≠ 24 by decide), trivial⟩ trivial
           have h196 := ((h181.turnB x27 h182 ⟨.inl (show (45 : Nat) ≠ 24 by decide), trivial⟩ trivial).ext x28).turnB x29 h191 ⟨.inl (show (45 : Nat) ≠ 24 by decide), trivial⟩ trivial
           have h197 := h190.turnB x29 h191 ⟨.inl (show (45 : Nat) ≠ 24 by decide), trivial⟩ trivial
           have h198 := (((gF1_7.ext x26).turnB x27 h182 ⟨.inr (by omega), trivial⟩).ext x28).turnB x29 h191 ⟨.inr (by omega), trivial⟩
           have h199 := (((gF2_7.ext x26).turnB x27 h182 ⟨.inr (by omega), trivial⟩).ext x28).turnB x29 h191 ⟨.inr (by omega), trivial⟩
           have h200 := Ext.turnB (Ext.trans (Ext.turnB (Ext.trans x0_7 x26) x27 (by omega)) x28) x29 (by omega)
           have h201 := (h185.ext x28).turnB x29 (by omega)
           have h202 := (((gb6_7.ext x26).turnB x27 (by omega)).ext x28).turnB x29 (by omega)
           have h203 := (((gb7_7.ext x26).turnB x27 (by omega)).ext x28).turnB x29 (by omega)
           have h204 := (h184.ext x28).turnB x29 (by omega)
           have h205 := (((gb1_7.ext x26).turnB x27 (by omega)).ext x28).turnB x29 (by omega)
           have h206 := (((gb2_7.ext x26).turnB x27 (by omega)).ext x28).turnB x29 (by omega)
           have h207 := (((gb3_7.ext x26).turnB x27 (by omega)).ext x28).turnB x29 (by omega)
           exact NW.J fun a ha => ⟨y12.2, y11.2, y11.1.Dev, y11.1.Size, y11.1.List_, A7, c_7, y12.1.Dev, y12.1.Size, y12.1.List_, A8, c_8, w34.heap.size, ha.sub ⟨rfl, rfl, rfl, rfl, rfl, rfl, rfl, rfl, trivial⟩, by omega, h194, h195, (h196.sub ⟨(.inl ⟨by omega, by omega, rfl⟩), trivial⟩ trivial), (h197.sub ⟨(.inl ⟨by omega, trivial, rfl⟩), trivial⟩ trivial), h198, h199, h200, h201, h202, h203, h204, h193, h205, h206, h207, by omega, by omega, H⟩
          ·
           rw [if_neg c13] at H
           refine CW.cond_f rfl (bool_f c13) ?_
           refine CW.skip ?_
           refine NW.norm_block ?_
           have h208 := (gL0_b2_2_7.ext x26).turnB x27 h182 ⟨.inl (show (45 : Nat) ≠ 24 by decide), trivial⟩ trivial
           have h209 := (gF4_7.ext x26).turnB x27 h182 ⟨.inl (show (45 : Nat) ≠ 24 by decide), trivial⟩ trivial
           have h210 := h181.turnB x27 h182 ⟨.inl (show (45 : Nat) ≠ 24 by decide), trivial⟩ trivial
           have h211 := (gF1_7.ext x26).turnB x27 h182 ⟨.inr (by omega), trivial⟩
           have h212 := (gF2_7.ext x26).turnB x27 h182 ⟨.inr (by omega), trivial⟩
           have h213 := Ext.turnB (Ext.trans x0_7 x26) x27 (by omega)
           have h214 := (gb4_7.ext x26).turnB x27 (by omega)
           have h215 := (gb6_7.ext x26).turnB x27 (by omega)
           have h216 := (gb7_7.ext x26).turnB x27 (by omega)
           have h217 := (gb9_7.ext x26).turnB x27 (by omega)
           have h218 := (gb1_7.ext x26).turnB x27 (by omega)
           have h219 := (gb2_7.ext x26).turnB x27 (by omega)
           have h220 := (gb3_7.ext x26).turnB x27 (by omega)
           exact NW.J fun a ha => ⟨1, y11.2, y11.1.Dev, y11.1.Size, y11.1.List_, A7, c_7, 0, 0, ([] : List Entry), none, 0, w34.heap.size, ha.sub ⟨rfl, rfl, rfl, rfl, rfl, rfl, rfl, rfl, trivial⟩, by omega, h208, h209, (h210.sub ⟨(.inl ⟨by omega, by omega, rfl⟩), trivial⟩ trivial), Ow.nil, h211, h212, h213, h214, h215, h216, h184, h217, h218, h219, h220, by omega, by omega, H⟩
         ·
          rw [if_neg c12] at H
          refine CW.cond_f rfl (bool_f c12) ?_
          refine CW.seq ?_
          refine CW.lex [.W, .W] rfl ?_
          refine RW.pure tabOk 2 rfl ?_
          refine RW.done ?_
          refine NW.next ?_
          by_cases c14 : y5 = 6
          ·
           rw [if_pos c14] at H
           refine CW.cond_t rfl (beq_t c14) ?_
           refine CW.seq ?_
           refine CW.lex [.L, .X, .W, .W, .W, .M, .W] rfl ?_
           refine RW.load tabOk [.int .i64 y3.Dev, .int .i64 y3.Size, .slice A4 y3.List_.length c_4] (gb7_7.at 0) ⟨rfl, rfl, rfl, rfl⟩ rfl rfl rfl rfl ?_
           obtain ⟨y13, h221, H⟩ := bind_some H
           refine RW.callF (.inl rfl) ent17 ⟨rfl, rfl, rfl, rfl⟩ rfl rfl (table_Tidy.calls k y3 A4 c_4 _ _ gF4_7.all gF4_7.len h221) ?_
           rintro _ w38 ⟨A9, c_9, rfl, x30, h222⟩
           refine ⟨_, rfl, x30, ?_⟩
           have sx30 := x30.size
           have h223 : Ow kEntry 45 w38.heap (okL [(w33.heap.size, some w38.heap.size, some 45)]) (okL []) A9 c_9 y13.1.List_ := h222.close
           refine RW.pure tabOk 3 rfl ?_
           have h224 := gb8_7.ext x30
           refine RW.storeBox tabOk h224 [.int .i64 y13.1.Dev, .int .i64 y13.1.Size, .slice A9 y13.1.List_.length c_9] ⟨rfl, rfl, rfl⟩ rfl rfl rfl rfl rfl rfl rfl rfl ?_
           intro w39 x31 h225
           have h226 : Box w39.heap b8 24 [.int .i64 y13.1.Dev, .int .i64 y13.1.Size, .slice A9 y13.1.List_.length c_9] := h225
           have sx31 := x31.size
           refine RW.pure tabOk 1 rfl ?_
           refine RW.done ?_
           refine NW.next ?_
           refine CW.seq ?_
           refine CW.lex [.W] rfl ?_
           refine RW.pure tabOk 1 rfl ?_
           refine RW.done ?_
           refine NW.next ?_
           by_cases c15 : y4 = true
           ·
            rw [if_pos c15] at H
            refine CW.cond_t rfl (c15) ?_
            refine CW.lex [.L, .X, .W, .M] rfl ?_
            have h227 := (gb4_7.ext x30).turnB x31 (by omega)
            refine RW.load tabOk [.int .i64 ib2_0_0, .int .i64 ib2_1_0, .slice Ab2_2_0 lb2_2_0.length cb2_2_0] (h227.at 0) ⟨rfl, rfl, rfl, rfl⟩ rfl rfl rfl rfl ?_
            have h228 := (gL0_b2_2_7.ext x30).turnB x31 h224 ⟨.inl (show (45 : Nat) ≠ 24 by decide), trivial⟩ trivial
            obtain ⟨y14, h229, H⟩ := bind_some H
            refine RW.callF (.inl rfl) ent55 ⟨rfl, rfl, rfl, rfl⟩ rfl rfl (hermitageref7_Tidy.calls k (⟨ib2_0_0, ib2_1_0, lb2_2_0⟩ : Table) Ab2_2_0 cb2_2_0 _ _ h228.all h228.len h229) ?_
            rintro _ w40 ⟨A10, c_10, rfl, x32, h230⟩
            refine ⟨_, rfl, x32, ?_⟩
            have sx32 := x32.size
            have h231 : Ow kEntry 45 w40.heap (okL [(w39.heap.size, some w40.heap.size, some 45)]) (okL []) A10 c_10 y14.List_ := h230.close
            refine RW.pure tabOk 1 rfl ?_
            have h232 := ((gb9_7.ext x30).turnB x31 (by omega)).ext x32
            refine RW.storeBox tabOk h232 [.int .i64 y14.Dev, .int .i64 y14.Size, .slice A10 y14.List_.length c_10] ⟨rfl, rfl, rfl⟩ rfl rfl rfl rfl rfl rfl rfl rfl ?_
            intro w41 x33 h233
            have h234 : Box w41.heap b9 24 [.int .i64 y14.Dev, .int .i64 y14.Size, .slice A10 y14.List_.length c_10] := h233
            have sx33 := x33.size
            refine RW.done ?_
            refine NW.norm_block ?_
            have h235 := (h228.ext x32).turnB x33 h232 ⟨.inl (show (45 : Nat) ≠ 24 by decide), trivial⟩ trivial
            have h236 := (((gF4_7.ext x30).turnB x31 h224 ⟨.inl (show (45 : Nat) ≠ 24 by decide), trivial⟩ trivial).ext x32).turnB x33 h232 ⟨.inl (show (45 : Nat) ≠ 24 by decide), trivial⟩ trivial
            have h237 := ((h223.turnB x31 h224 ⟨.inl (show (45 : Nat) ≠ 24 by decide), trivial⟩ trivial).ext x32).turnB x33 h232 ⟨.inl (show (45 : Nat) ≠ 24 by decide), trivial⟩ trivial
            have h238 := h231.turnB x33 h232 ⟨.inl (show (45 : Nat) ≠ 24 by decide), trivial⟩ trivial
            have h239 := (((gF1_7.ext x30).turnB x31 h224 ⟨.inr (by omega), trivial⟩).ext x32).turnB x33 h232 ⟨.inr (by omega), trivial⟩
            have h240 := (((gF2_7.ext x30).turnB x31 h224 ⟨.inr (by omega), trivial⟩).ext x32).turnB x33 h232 ⟨.inr (by omega), trivial⟩
            have h241 := Ext.turnB (Ext.trans (Ext.turnB (Ext.trans x0_7 x30) x31 (by omega)) x32) x33 (by omega)
            have h242 := (h227.ext x32).turnB x33 (by omega)
            have h243 := (((gb6_7.ext x30).turnB x31 (by omega)).ext x32).turnB x33 (by omega)
            have h244 := (((gb7_7.ext x30).turnB x31 (by omega)).ext x32).turnB x33 (by omega)
            have h245 := (h226.ext x32).turnB x33 (by omega)
            have h246 := (((gb1_7.ext x30).turnB x31 (by omega)).ext x32).turnB x33 (by omega)
            have h247 := (((gb2_7.ext x30).turnB x31 (by omega)).ext x32).turnB x33 (by omega)
            have h248 := (((gb3_7.ext x30).turnB x31 (by omega)).ext x32).turnB x33 (by omega)
            exact NW.J fun a ha => ⟨0, y13.2, y13.1.Dev, y13.1.Size, y13.1.List_, A9, c_9, y14.Dev, y14.Size, y14.List_, A10, c_10, w38.heap.size, ha.sub ⟨rfl, rfl, rfl, rfl, rfl, rfl, rfl, rfl, trivial⟩, by omega, h235, h236, (h237.sub ⟨(.inl ⟨by omega, by omega, rfl⟩), trivial⟩ trivial), (h238.sub ⟨(.inl ⟨by omega, trivial, rfl⟩), trivial⟩ trivial), h239, h240, h241, h242, h243, h244, h245, h234, h246, h247, h248, by omega, by omega, H⟩
           ·
            rw [if_neg c15] at H
            refine CW.cond_f rfl (bool_f c15) ?_
            refine CW.skip ?_
            refine NW.norm_block ?_
            have h249 := (gL0_b2_2_7.ext x30).turnB x31 h224 ⟨.inl (show (45 : Nat) ≠ 24 by decide), trivial⟩ trivial
            have h250 := (gF4_7.ext x30).turnB x31 h224 ⟨.inl (show (45 : Nat) ≠ 24 by decide), trivial⟩ trivial
            have h251 := h223.turnB x31 h224 ⟨.inl (show (45 : Nat) ≠ 24 by decide), trivial⟩ trivial
            have h252 := (gF1_7.ext x30).turnB x31 h224 ⟨.inr (by omega), trivial⟩
            have h253 := (gF2_7.ext x30).turnB x31 h224 ⟨.inr (by omega), trivial⟩
            have h254 := Ext.turnB (Ext.trans x0_7 x30) x31 (by omega)
            have h255 := (gb4_7.ext x30).turnB x31 (by omega)
            have h256 := (gb6_7.ext x30).turnB x31 (by omega)
            have h257 := (gb7_7.ext x30).turnB x31 (by omega)
            have h258 := (gb9_7.ext x30).turnB x31 (by omega)
            have h259 := (gb1_7.ext x30).turnB x31 (by omega)
            have h260 := (gb2_7.ext x30).turnB x31 (by omega)
            have h261 := (gb3_7.ext x30).turnB x31 (by omega)
            exact NW.J fun a ha => ⟨1, y13.2, y13.1.Dev, y13.1.Size, y13.1.List_, A9, c_9, 0, 0, ([] : List Entry), none, 0, w38.heap.size, ha.sub ⟨rfl, rfl, rfl, rfl, rfl, rfl, rfl, rfl, trivial⟩, by omega, h249, h250, (h251.sub ⟨(.inl ⟨by omega, by omega, rfl⟩), trivial⟩ trivial), Ow.nil, h252, h253, h254, h255, h256, h257, h226, h258, h259, h260, h261, by omega, by omega, H⟩
          ·
           rw [if_neg c14] at H
           refine CW.cond_f rfl (beq_f c14) ?_
           refine CW.seqJ (fun a w42 => ∃ (bt133_8 : Bool), Sat 223 [(2, .pointer (some ⟨b4, 0, none⟩)), (3, .pointer (some ⟨b5, 0, none⟩)), (4, .pointer (some ⟨b6, 0, none⟩)), (6, .pointer (some ⟨b7, 0, none⟩)), (7, .bool y4), (8, .int .i64 1), (133, .bool bt133_8)] a ∧ w33.heap.size ≤ w42.heap.size ∧ Ow kEntry 45 w42.heap (okL [(w2.heap.size, some w6.heap.size, some 45)]) (okL []) Ab2_2_0 cb2_2_0 lb2_2_0 ∧ Ow kEntry 45 w42.heap (okL [(w14.heap.size, some w15.heap.size, some 45)]) (okL []) A4 c_4 y3.List_ ∧ Sl kEntry w42.heap (okL [(0, some w.heap.size, none)]) A1 p0.T.List_ ∧ Sl khermitagelaw8Act w42.heap (okL [(0, some w.heap.size, none)]) A2 p0.A ∧ Ext w w42 ∧ Box w42.heap b4 24 [.int .i64 ib2_0_0, .int .i64 ib2_1_0, .slice Ab2_2_0 lb2_2_0.length cb2_2_0] ∧ Box w42.heap b5 35 [.int .i64 ((rd p0.A it4_0).Do), .int .i64 ((rd p0.A it4_0).N), .int .i64 ((rd p0.A it4_0).M), .int .i64 (((rd p0.A it4_0).P).Dev), .int .i64 (((rd p0.A it4_0).P).At)] ∧ Box w42.heap b6 24 [.int .i64 0, .int .i64 0, .slice none 0 0] ∧ Box w42.heap b7 24 [.int .i64 y3.Dev, .int .i64 y3.Size, .slice A4 y3.List_.length c_4] ∧ Box w42.heap b1 27 [.int .i64 p0.T.Dev, .int .i64 p0.T.Size, .slice A1 p0.T.List_.length c_1, .slice A2 p0.A.length c_2] ∧ Box w42.heap b2 24 [.int .i64 ib2_0_0, .int .i64 ib2_1_0, .slice Ab2_2_0 lb2_2_0.length cb2_2_0] ∧ Box w42.heap b3 24 [.int .i64 0, .int .i64 0, .slice none 0 0] ∧ hermitagelaw8_TableExact.j7 p0 k it4_0 ib2_0_0 ib2_1_0 lb2_2_0 y3 y4 (hermitagelaw8_TableExact.l0 p0 k n1) bt133_8 = some r) ?_ ?_
           ·
            refine CW.seq ?_
            refine CW.lex [.W, .W] rfl ?_
            refine RW.pure tabOk 2 rfl ?_
            refine RW.done ?_
            refine NW.next ?_
            by_cases c16 : y5 = 7
            ·
             rw [if_pos c16] at H
             refine CW.cond_t rfl (beq_t c16) ?_
             refine CW.skip ?_
             exact NW.J fun a ha => ⟨(y5 == 7), ha.sub ⟨rfl, rfl, rfl, rfl, rfl, rfl, rfl, trivial⟩, by omega, gL0_b2_2_7, gF4_7, gF1_7, gF2_7, x0_7, gb4_7, gb5_7, gb6_7, gb7_7, gb1_7, gb2_7, gb3_7, H⟩
            ·
             rw [if_neg c16] at H
             refine CW.cond_f rfl (beq_f c16) ?_
             refine CW.lex [.W, .W] rfl ?_
             refine RW.pure tabOk 2 rfl ?_
             refine RW.done ?_
             exact NW.J fun a ha => ⟨(y5 == 8), ha.sub ⟨rfl, rfl, rfl, rfl, rfl, rfl, rfl, trivial⟩, by omega, gL0_b2_2_7, gF4_7, gF1_7, gF2_7, x0_7, gb4_7, gb5_7, gb6_7, gb7_7, gb1_7, gb2_7, gb3_7, H⟩
           intro a w42 hJ hp
           obtain ⟨bt133_8, hS, hle, gL0_b2_2_8, gF4_8, gF1_8, gF2_8, x0_8, gb4_8, gb5_8, gb6_8, gb7_8, gb1_8, gb2_8, gb3_8, H⟩ := hJ
           unfold hermitagelaw8_TableExact.j7 at H
           refine CW.go hp hS ?_
           by_cases c17 : bt133_8 = true
           ·
            rw [if_pos c17] at H
            refine CW.cond_t rfl (c17) ?_
            refine CW.seq ?_
            refine CW.lex [.L, .W, .L, .X, .W, .W, .W, .X, .M, .W] rfl ?_
            refine RW.load tabOk [.int .i64 y3.Dev, .int .i64 y3.Size, .slice A4 y3.List_.length c_4] (gb7_8.at 0) ⟨rfl, rfl, rfl, rfl⟩ rfl rfl rfl rfl ?_
            refine RW.pure tabOk 1 rfl ?_
            refine RW.load tabOk [.int .i64 ((rd p0.A it4_0).N)] ((gb5_8.at 1).take 1 rfl) ⟨rfl, rfl, rfl, rfl⟩ rfl rfl rfl rfl ?_
            obtain ⟨y15, h262, H⟩ := bind_some H
            refine RW.callF (.inl rfl) ent15 ⟨rfl, rfl, rfl, rfl⟩ rfl rfl (table_Look.calls k y3 A4 c_4 ((rd p0.A it4_0).N) _ _ gF4_8.all gF4_8.len h262) ?_
            rintro _ w43 ⟨rfl, x34⟩
            refine ⟨_, rfl, x34, ?_⟩
            have sx34 := x34.size
            refine RW.pure tabOk 3 rfl ?_
            refine RW.alloc tabOk (.inl rfl) ⟨rfl, rfl, rfl, rfl⟩ rfl rfl ?_
            intro b10 w44 x35 l10 h263
            have sx35 := x35.size
            have ltb10 := h263.lt
            refine RW.storeBox tabOk h263 [.int .i64 y15.1.Dev, .int .i64 y15.1.At] ⟨rfl, rfl, rfl⟩ rfl rfl rfl rfl rfl rfl rfl rfl ?_
            intro w45 x36 h264
            have h265 : Box w45.heap b10 33 [.int .i64 y15.1.Dev, .int .i64 y15.1.At] := h264
            have sx36 := x36.size
            refine RW.pure tabOk 1 rfl ?_
            refine RW.done ?_
            refine NW.next ?_
            refine CW.seq ?_
            refine CW.lex [.L, .X, .W, .W, .W, .W, .W] rfl ?_
            have h266 := ((gb7_8.ext x34).ext x35).turnB x36 (by omega)
            refine RW.load tabOk [.int .i64 y3.Dev, .int .i64 y3.Size, .slice A4 y3.List_.length c_4] (h266.at 0) ⟨rfl, rfl, rfl, rfl⟩ rfl rfl rfl rfl ?_
            have h267 := ((gF4_8.ext x34).ext x35).turnB x36 h263 ⟨.inl (show (45 : Nat) ≠ 33 by decide), trivial⟩ trivial
            obtain ⟨y16, h268, H⟩ := bind_some H
            refine RW.callF (.inl rfl) ent18 ⟨rfl, rfl, rfl, rfl⟩ rfl rfl (table_Live.calls k y3 A4 c_4 _ _ h267.all h267.len h268) ?_
            rintro _ w46 ⟨rfl, x37⟩
            refine ⟨_, rfl, x37, ?_⟩
            have sx37 := x37.size
            refine RW.pure tabOk 5 rfl ?_
            refine RW.done ?_
            refine NW.next ?_
            refine CW.seq ?_
            refine CW.lex [.W, .W] rfl ?_
            refine RW.pure tabOk 2 rfl ?_
            refine RW.done ?_
            refine NW.next ?_
            refine CW.seq ?_
            refine CW.lex [.X] rfl ?_
            refine RW.alloc tabOk (.inl rfl) ⟨rfl, rfl, rfl, rfl⟩ rfl rfl ?_
            intro b11 w47 x38 l11 h269
            have sx38 := x38.size
            have ltb11 := h269.lt
            refine RW.done ?_
            refine NW.next ?_
            refine CW.seqJ (fun a w48 => ∃ (it8_9 : Int) (it16_9 : Int) (it17_9 : Int) (ib11_0_9 : Int) (ib11_1_9 : Int), Sat 223 [(2, .pointer (some ⟨b4, 0, none⟩)), (4, .pointer (some ⟨b6, 0, none⟩)), (6, .pointer (some ⟨b7, 0, none⟩)), (8, .int .i64 it8_9), (12, .pointer (some ⟨b10, 0, none⟩)), (13, .int .i64 y15.2), (14, .int .i64 y16.1), (15, .int .i64 y16.2), (16, .int .i64 it16_9), (17, .int .i64 it17_9), (18, .pointer (some ⟨b11, 0, none⟩))] a ∧ w47.heap.size ≤ w48.heap.size ∧ Ow kEntry 45 w48.heap (okL [(w2.heap.size, some w6.heap.size, some 45)]) (okL []) Ab2_2_0 cb2_2_0 lb2_2_0 ∧ Ow kEntry 45 w48.heap (okL [(w14.heap.size, some w15.heap.size, some 45)]) (okL []) A4 c_4 y3.List_ ∧ Sl kEntry w48.heap (okL [(0, some w.heap.size, none)]) A1 p0.T.List_ ∧ Sl khermitagelaw8Act w48.heap (okL [(0, some w.heap.size, none)]) A2 p0.A ∧ Ext w w48 ∧ Box w48.heap b4 24 [.int .i64 ib2_0_0, .int .i64 ib2_1_0, .slice Ab2_2_0 lb2_2_0.length cb2_2_0] ∧ Box w48.heap b6 24 [.int .i64 0, .int .i64 0, .slice none 0 0] ∧ Box w48.heap b7 24 [.int .i64 y3.Dev, .int .i64 y3.Size, .slice A4 y3.List_.length c_4] ∧ Box w48.heap b10 33 [.int .i64 y15.1.Dev, .int .i64 y15.1.At] ∧ Box w48.heap b11 33 [.int .i64 ib11_0_9, .int .i64 ib11_1_9] ∧ Box w48.heap b1 27 [.int .i64 p0.T.Dev, .int .i64 p0.T.Size, .slice A1 p0.T.List_.length c_1, .slice A2 p0.A.length c_2] ∧ Box w48.heap b2 24 [.int .i64 ib2_0_0, .int .i64 ib2_1_0, .slice Ab2_2_0 lb2_2_0.length cb2_2_0] ∧ Box w48.heap b3 24 [.int .i64 0, .int .i64 0, .slice none 0 0] ∧ hermitagelaw8_TableExact.j8 k it4_0 ib2_0_0 ib2_1_0 lb2_2_0 y3 y15 y16 (hermitagelaw8_TableExact.l0 p0 k n1) it8_9 it16_9 it17_9 ib11_0_9 ib11_1_9 = some r) ?_ ?_
            ·
             refine CW.seq ?_
             refine CW.lex [.W] rfl ?_
             refine RW.pure tabOk 1 rfl ?_
             refine RW.done ?_
             refine NW.next ?_
             by_cases c18 : y4 = true
             ·
              rw [if_pos c18] at H
              refine CW.cond_t rfl (c18) ?_
              refine CW.seq ?_
              refine CW.lex [.L, .X, .W, .W, .W] rfl ?_
              have h270 := ((((gb4_8.ext x34).ext x35).turnB x36 (by omega)).ext x37).ext x38
              refine RW.load tabOk [.int .i64 ib2_0_0, .int .i64 ib2_1_0, .slice Ab2_2_0 lb2_2_0.length cb2_2_0] (h270.at 0) ⟨rfl, rfl, rfl, rfl⟩ rfl rfl rfl rfl ?_
              have h271 := ((((gL0_b2_2_8.ext x34).ext x35).turnB x36 h263 ⟨.inl (show (45 : Nat) ≠ 33 by decide), trivial⟩ trivial).ext x37).ext x38
              obtain ⟨y17, h272, H⟩ := bind_some H
              refine RW.callF (.inl rfl) ent56 ⟨rfl, rfl, rfl, rfl⟩ rfl rfl (hermitageref7_Live.calls k (⟨ib2_0_0, ib2_1_0, lb2_2_0⟩ : Table) Ab2_2_0 cb2_2_0 _ _ h271.all h271.len h272) ?_
              rintro _ w49 ⟨rfl, x39⟩
              refine ⟨_, rfl, x39, ?_⟩
              have sx39 := x39.size
              refine RW.pure tabOk 3 rfl ?_
              refine RW.done ?_
              refine NW.next ?_
              refine CW.seq ?_
              refine CW.lex [.L, .W, .L, .X, .W, .W, .W, .X, .M, .W] rfl ?_
              have h273 := h270.ext x39
              refine RW.load tabOk [.int .i64 ib2_0_0, .int .i64 ib2_1_0, .slice Ab2_2_0 lb2_2_0.length cb2_2_0] (h273.at 0) ⟨rfl, rfl, rfl, rfl⟩ rfl rfl rfl rfl ?_
              refine RW.pure tabOk 1 rfl ?_
              have h274 := (((((gb5_8.ext x34).ext x35).turnB x36 (by omega)).ext x37).ext x38).ext x39
              refine RW.load tabOk [.int .i64 ((rd p0.A it4_0).N)] ((h274.at 1).take 1 rfl) ⟨rfl, rfl, rfl, rfl⟩ rfl rfl rfl rfl ?_
              have h275 := h271.ext x39
              obtain ⟨y18, h276, H⟩ := bind_some H
              refine RW.callF (.inl rfl) ent57 ⟨rfl, rfl, rfl, rfl⟩ rfl rfl (hermitageref7_Look.calls k (⟨ib2_0_0, ib2_1_0, lb2_2_0⟩ : Table) Ab2_2_0 cb2_2_0 ((rd p0.A it4_0).N) _ _ h275.all h275.len h276) ?_
              rintro _ w50 ⟨rfl, x40⟩
              refine ⟨_, rfl, x40, ?_⟩
              have sx40 := x40.size
              refine RW.pure tabOk 3 rfl ?_
              refine RW.alloc tabOk (.inl rfl) ⟨rfl, rfl, rfl, rfl⟩ rfl rfl ?_
              intro b12 w51 x41 l12 h277
              have sx41 := x41.size
              have ltb12 := h277.lt
              refine RW.storeBox tabOk h277 [.int .i64 y18.1.Dev, .int .i64 y18.1.At] ⟨rfl, rfl, rfl⟩ rfl rfl rfl rfl rfl rfl rfl rfl ?_
              intro w52 x42 h278
              have h279 : Box w52.heap b12 33 [.int .i64 y18.1.Dev, .int .i64 y18.1.At] := h278
              have sx42 := x42.size
              refine RW.pure tabOk 1 rfl ?_
              refine RW.done ?_
              refine NW.next ?_
              refine CW.seq ?_
              refine CW.lex [.W] rfl ?_
              refine RW.pure tabOk 1 rfl ?_
              refine RW.done ?_
              refine NW.next ?_
              by_cases c19 : y18.2 = true
              ·
               rw [if_pos c19] at H
               refine CW.cond_t rfl (c19) ?_
               refine CW.ord [0, 0, 3] (ofL [(1, .W), (0, .L), (2, .M)] .nil) mixed (by kernel_rfl) ?_
               intro w53 x43
               have sx43 := x43.size
               refine RW.pure tabOk 1 rfl ?_
               have h280 := h279.ext x43
               refine RW.load tabOk [.int .i64 y18.1.Dev, .int .i64 y18.1.At] (h280.at 0) ⟨rfl, rfl, rfl, rfl⟩ rfl rfl rfl rfl ?_
               have h281 := ((((h269.ext x39).ext x40).ext x41).turnB x42 (by omega)).ext x43
               refine RW.storeBox tabOk h281 [.int .i64 y18.1.Dev, .int .i64 y18.1.At] ⟨rfl, rfl, rfl⟩ rfl rfl rfl rfl rfl rfl rfl rfl ?_
               intro w54 x44 h282
               have h283 : Box w54.heap b11 33 [.int .i64 y18.1.Dev, .int .i64 y18.1.At] := h282
               have sx44 := x44.size
               refine RW.done ?_
               have h284 := ((((h275.ext x40).ext x41).turnB x42 h277 ⟨.inl (show (45 : Nat) ≠ 33 by decide), trivial⟩ trivial).ext x43).turnB x44 h281 ⟨.inl (show (45 : Nat) ≠ 33 by decide), trivial⟩ trivial
               have h285 := (((((((h267.ext x37).ext x38).ext x39).ext x40).ext x41).turnB x42 h277 ⟨.inl (show (45 : Nat) ≠ 33 by decide), trivial⟩ trivial).ext x43).turnB x44 h281 ⟨.inl (show (45 : Nat) ≠ 33 by decide), trivial⟩ trivial
               have h286 := ((((((((((gF1_8.ext x34).ext x35).turnB x36 h263 ⟨.inr (by omega), trivial⟩).ext x37).ext x38).ext x39).ext x40).ext x41).turnB x42 h277 ⟨.inr (by omega), trivial⟩).ext x43).turnB x44 h281 ⟨.inr (by omega), trivial⟩
               have h287 := ((((((((((gF2_8.ext x34).ext x35).turnB x36 h263 ⟨.inr (by omega), trivial⟩).ext x37).ext x38).ext x39).ext x40).ext x41).turnB x42 h277 ⟨.inr (by omega), trivial⟩).ext x43).turnB x44 h281 ⟨.inr (by omega), trivial⟩
               have h288 := Ext.turnB (Ext.trans (Ext.turnB (Ext.trans (Ext.trans (Ext.trans (Ext.trans (Ext.trans (Ext.turnB (Ext.trans (Ext.trans x0_8 x34) x35) x36 (by omega)) x37) x38) x39) x40) x41) x42 (by omega)) x43) x44 (by omega)
               have h289 := ((((h273.ext x40).ext x41).turnB x42 (by omega)).ext x43).turnB x44 (by omega)
               have h290 := ((((((((((gb6_8.ext x34).ext x35).turnB x36 (by omega)).ext x37).ext x38).ext x39).ext x40).ext x41).turnB x42 (by omega)).ext x43).turnB x44 (by omega)
               have h291 := (((((((h266.ext x37).ext x38).ext x39).ext x40).ext x41).turnB x42 (by omega)).ext x43).turnB x44 (by omega)
               have h292 := (((((((h265.ext x37).ext x38).ext x39).ext x40).ext x41).turnB x42 (by omega)).ext x43).turnB x44 (by omega)
               have h293 := ((((((((((gb1_8.ext x34).ext x35).turnB x36 (by omega)).ext x37).ext x38).ext x39).ext x40).ext x41).turnB x42 (by omega)).ext x43).turnB x44 (by omega)
               have h294 := ((((((((((gb2_8.ext x34).ext x35).turnB x36 (by omega)).ext x37).ext x38).ext x39).ext x40).ext x41).turnB x42 (by omega)).ext x43).turnB x44 (by omega)
               have h295 := ((((((((((gb3_8.ext x34).ext x35).turnB x36 (by omega)).ext x37).ext x38).ext x39).ext x40).ext x41).turnB x42 (by omega)).ext x43).turnB x44 (by omega)
               exact NW.J fun a ha => ⟨0, 0, y17, y18.1.Dev, y18.1.At, ha.sub ⟨rfl, rfl, rfl, rfl, rfl, rfl, rfl, rfl, rfl, rfl, rfl, trivial⟩, by omega, h284, h285, h286, h287, h288, h289, h290, h291, h292, h283, h293, h294, h295, H⟩
              ·
               rw [if_neg c19] at H
               refine CW.cond_f rfl (bool_f c19) ?_
               refine CW.skip ?_
               have h296 := ((h275.ext x40).ext x41).turnB x42 h277 ⟨.inl (show (45 : Nat) ≠ 33 by decide), trivial⟩ trivial
               have h297 := (((((h267.ext x37).ext x38).ext x39).ext x40).ext x41).turnB x42 h277 ⟨.inl (show (45 : Nat) ≠ 33 by decide), trivial⟩ trivial
               have h298 := ((((((((gF1_8.ext x34).ext x35).turnB x36 h263 ⟨.inr (by omega), trivial⟩).ext x37).ext x38).ext x39).ext x40).ext x41).turnB x42 h277 ⟨.inr (by omega), trivial⟩
               have h299 := ((((((((gF2_8.ext x34).ext x35).turnB x36 h263 ⟨.inr (by omega), trivial⟩).ext x37).ext x38).ext x39).ext x40).ext x41).turnB x42 h277 ⟨.inr (by omega), trivial⟩
               have h300 := Ext.turnB (Ext.trans (Ext.trans (Ext.trans (Ext.trans (Ext.trans (Ext.turnB (Ext.trans (Ext.trans x0_8 x34) x35) x36 (by omega)) x37) x38) x39) x40) x41) x42 (by omega)
               have h301 := ((h273.ext x40).ext x41).turnB x42 (by omega)
               have h302 := ((((((((gb6_8.ext x34).ext x35).turnB x36 (by omega)).ext x37).ext x38).ext x39).ext x40).ext x41).turnB x42 (by omega)
               have h303 := (((((h266.ext x37).ext x38).ext x39).ext x40).ext x41).turnB x42 (by omega)
               have h304 := (((((h265.ext x37).ext x38).ext x39).ext x40).ext x41).turnB x42 (by omega)
               have h305 := (((h269.ext x39).ext x40).ext x41).turnB x42 (by omega)
               have h306 := ((((((((gb1_8.ext x34).ext x35).turnB x36 (by omega)).ext x37).ext x38).ext x39).ext x40).ext x41).turnB x42 (by omega)
               have h307 := ((((((((gb2_8.ext x34).ext x35).turnB x36 (by omega)).ext x37).ext x38).ext x39).ext x40).ext x41).turnB x42 (by omega)
               have h308 := ((((((((gb3_8.ext x34).ext x35).turnB x36 (by omega)).ext x37).ext x38).ext x39).ext x40).ext x41).turnB x42 (by omega)
               exact NW.J fun a ha => ⟨3, 0, y17, 0, 0, ha.sub ⟨rfl, rfl, rfl, rfl, rfl, rfl, rfl, rfl, rfl, rfl, rfl, trivial⟩, by omega, h296, h297, h298, h299, h300, h301, h302, h303, h304, h305, h306, h307, h308, H⟩
             ·
              rw [if_neg c18] at H
              refine CW.cond_f rfl (bool_f c18) ?_
              refine CW.skip ?_
              have h309 := ((((gL0_b2_2_8.ext x34).ext x35).turnB x36 h263 ⟨.inl (show (45 : Nat) ≠ 33 by decide), trivial⟩ trivial).ext x37).ext x38
              have h310 := (h267.ext x37).ext x38
              have h311 := ((((gF1_8.ext x34).ext x35).turnB x36 h263 ⟨.inr (by omega), trivial⟩).ext x37).ext x38
              have h312 := ((((gF2_8.ext x34).ext x35).turnB x36 h263 ⟨.inr (by omega), trivial⟩).ext x37).ext x38
              have h313 := Ext.trans (Ext.trans (Ext.turnB (Ext.trans (Ext.trans x0_8 x34) x35) x36 (by omega)) x37) x38
              have h314 := ((((gb4_8.ext x34).ext x35).turnB x36 (by omega)).ext x37).ext x38
              have h315 := ((((gb6_8.ext x34).ext x35).turnB x36 (by omega)).ext x37).ext x38
              have h316 := (h266.ext x37).ext x38
              have h317 := (h265.ext x37).ext x38
              have h318 := ((((gb1_8.ext x34).ext x35).turnB x36 (by omega)).ext x37).ext x38
              have h319 := ((((gb2_8.ext x34).ext x35).turnB x36 (by omega)).ext x37).ext x38
              have h320 := ((((gb3_8.ext x34).ext x35).turnB x36 (by omega)).ext x37).ext x38
              exact NW.J fun a ha => ⟨1, 1, 0, 0, 0, ha.sub ⟨rfl, rfl, rfl, rfl, rfl, rfl, rfl, rfl, rfl, rfl, rfl, trivial⟩, by omega, h309, h310, h311, h312, h313, h314, h315, h316, h317, h269, h318, h319, h320, H⟩
            intro a w48 hJ hp
            obtain ⟨it8_9, it16_9, it17_9, ib11_0_9, ib11_1_9, hS, hle, gL0_b2_2_9, gF4_9, gF1_9, gF2_9, x0_9, gb4_9, gb6_9, gb7_9, gb10_9, gb11_9, gb1_9, gb2_9, gb3_9, H⟩ := hJ
            unfold hermitagelaw8_TableExact.j8 at H
            refine CW.go hp hS ?_
            refine CW.seq ?_
            refine CW.ord [0, 0, 2, 0, 14, 30, 62, 62, 254, 510, 1022, 2046, 4094, 2046, 16382, 32766, 65534, 131070, 131070, 524286, 1048574, 2097150, 4194302, 4194302, 16777214, 33554430, 33554431, 134217727] (ofL [(1, .W), (3, .W), (0, .L), (2, .X), (4, .W), (5, .W), (6, .L), (7, .L), (8, .W), (9, .W), (10, .W), (11, .W), (13, .W), (12, .X), (14, .W), (15, .W), (16, .W), (17, .W), (18, .W), (19, .W), (20, .W), (21, .W), (22, .L), (23, .L), (24, .X), (25, .W), (26, .M), (27, .W)] .nil) mixed (by kernel_rfl) ?_
            intro w55 x45
            have sx45 := x45.size
            refine RW.pure tabOk 2 rfl ?_
            have h321 := gb4_9.ext x45
            refine RW.load tabOk [.int .i64 ib2_0_0, .int .i64 ib2_1_0, .slice Ab2_2_0 lb2_2_0.length cb2_2_0] (h321.at 0) ⟨rfl, rfl, rfl, rfl⟩ rfl rfl rfl rfl ?_
            obtain ⟨y19, h322, H⟩ := bind_some H
            refine RW.callF (.inl rfl) ent13 ⟨rfl, rfl, rfl, rfl⟩ rfl rfl (hermitagelaw8_num.calls y15.2 _ _ h322) ?_
            rintro _ w56 ⟨rfl, x46⟩
            refine ⟨_, rfl, x46, ?_⟩
            have sx46 := x46.size
            refine RW.pure tabOk 2 rfl ?_
            by_cases c20 : y19 = it8_9
            ·
             rw [if_pos c20] at H
             refine RW.bool 165 (b' := true) (beq_t c20) rfl ?_
             have h323 := (gb10_9.ext x45).ext x46
             refine RW.load tabOk [.int .i64 y15.1.Dev, .int .i64 y15.1.At] (h323.at 0) ⟨rfl, rfl, rfl, rfl⟩ rfl rfl rfl rfl ?_
             have h324 := (gb11_9.ext x45).ext x46
             refine RW.load tabOk [.int .i64 ib11_0_9, .int .i64 ib11_1_9] (h324.at 0) ⟨rfl, rfl, rfl, rfl⟩ rfl rfl rfl rfl ?_
             refine RW.eqAgg eqgPtr (eqPtr y15.1 (⟨ib11_0_9, ib11_1_9⟩ : Ptr)) ⟨rfl, rfl, rfl, rfl⟩ rfl rfl rfl rfl ?_
             refine RW.pure tabOk 2 rfl ?_
             by_cases c21 : y15.1 = (⟨ib11_0_9, ib11_1_9⟩ : Ptr)
             ·
              rw [if_pos c21] at H
              refine RW.bool 170 (b' := true) (decide_eq_true c21) rfl ?_
              refine RW.pure tabOk 2 rfl ?_
              obtain ⟨y20, h325, H⟩ := bind_some H
              refine RW.callF (.inl rfl) ent13 ⟨rfl, rfl, rfl, rfl⟩ rfl rfl (hermitagelaw8_num.calls y16.2 _ _ h325) ?_
              rintro _ w57 ⟨rfl, x47⟩
              refine ⟨_, rfl, x47, ?_⟩
              have sx47 := x47.size
              refine RW.pure tabOk 3 rfl ?_
              by_cases c22 : y20 = it16_9
              ·
               rw [if_pos c22] at H
               refine RW.bool 176 (b' := true) (beq_t c22) rfl ?_
               refine RW.pure tabOk 5 rfl ?_
               by_cases c23 : y16.1 = it17_9
               ·
                rw [if_pos c23] at H
                refine RW.bool 181 (b' := true) (beq_t c23) rfl ?_
                have h326 := ((gb7_9.ext x45).ext x46).ext x47
                refine RW.load tabOk [.int .i64 y3.Dev, .int .i64 y3.Size, .slice A4 y3.List_.length c_4] (h326.at 0) ⟨rfl, rfl, rfl, rfl⟩ rfl rfl rfl rfl ?_
                have h327 := (h321.ext x46).ext x47
                refine RW.load tabOk [.int .i64 ib2_0_0, .int .i64 ib2_1_0, .slice Ab2_2_0 lb2_2_0.length cb2_2_0] (h327.at 0) ⟨rfl, rfl, rfl, rfl⟩ rfl rfl rfl rfl ?_
                have h328 := ((gF4_9.ext x45).ext x46).ext x47
                have h329 := ((gL0_b2_2_9.ext x45).ext x46).ext x47
                obtain ⟨y21, h330, H⟩ := bind_some H
                refine RW.callF (.inl rfl) ent58 ⟨rfl, rfl, rfl, rfl⟩ rfl rfl (hermitageref0_EqTable.calls k y3 A4 c_4 (⟨ib2_0_0, ib2_1_0, lb2_2_0⟩ : Table) Ab2_2_0 cb2_2_0 _ _ h328.all h328.len h329.all h329.len h330) ?_
                rintro _ w58 ⟨rfl, x48⟩
                refine ⟨_, rfl, x48, ?_⟩
                have sx48 := x48.size
                refine RW.pure tabOk 1 rfl ?_
                have h331 := (((gb6_9.ext x45).ext x46).ext x47).ext x48
                refine RW.storeBox tabOk h331 [.int .i64 ib2_0_0, .int .i64 ib2_1_0, .slice Ab2_2_0 lb2_2_0.length cb2_2_0] ⟨rfl, rfl, rfl⟩ rfl rfl rfl rfl rfl rfl rfl rfl ?_
                intro w59 x49 h332
                have h333 : Box w59.heap b6 24 [.int .i64 ib2_0_0, .int .i64 ib2_1_0, .slice Ab2_2_0 lb2_2_0.length cb2_2_0] := h332
                have sx49 := x49.size
                refine RW.pure tabOk 1 rfl ?_
                refine RW.done ?_
                refine NW.next ?_
                refine CW.ret ?_
                refine NW.ret_block (NW.ret_then ?_)
                have h334 := (h329.ext x48).turnB x49 h331 ⟨.inl (show (45 : Nat) ≠ 24 by decide), trivial⟩ trivial
                have h335 := ((((gF1_9.ext x45).ext x46).ext x47).ext x48).turnB x49 h331 ⟨.inr (by omega), trivial⟩
                have h336 := ((((gF2_9.ext x45).ext x46).ext x47).ext x48).turnB x49 h331 ⟨.inr (by omega), trivial⟩
                have h337 := Ext.turnB (Ext.trans (Ext.trans (Ext.trans (Ext.trans x0_9 x45) x46) x47) x48) x49 (by omega)
                have h338 := ((((gb1_9.ext x45).ext x46).ext x47).ext x48).turnB x49 (by omega)
                have h339 := ((((gb2_9.ext x45).ext x46).ext x47).ext x48).turnB x49 (by omega)
                have h340 := ((((gb3_9.ext x45).ext x46).ext x47).ext x48).turnB x49 (by omega)
                exact NW.ret2 rfl (resOne_cell tabOk (h333.at 0) rfl rfl rfl) (by rfl) ⟨ib2_0_0, ib2_1_0, lb2_2_0, Ab2_2_0, cb2_2_0, y21, rfl, by omega, (h334.sub ⟨(.inl ⟨by omega, by omega, rfl⟩), trivial⟩ trivial), h335, h336, h334, h337, h338, h339, h340, H⟩
               ·
                rw [if_neg c23] at H
                refine RW.bool 181 (b' := false) (beq_f c23) rfl ?_
                refine RW.pure tabOk 4 rfl ?_
                have h341 := ((gb6_9.ext x45).ext x46).ext x47
                refine RW.storeBox tabOk h341 [.int .i64 ib2_0_0, .int .i64 ib2_1_0, .slice Ab2_2_0 lb2_2_0.length cb2_2_0] ⟨rfl, rfl, rfl⟩ rfl rfl rfl rfl rfl rfl rfl rfl ?_
                intro w60 x50 h342
                have h343 : Box w60.heap b6 24 [.int .i64 ib2_0_0, .int .i64 ib2_1_0, .slice Ab2_2_0 lb2_2_0.length cb2_2_0] := h342
                have sx50 := x50.size
                refine RW.pure tabOk 1 rfl ?_
                refine RW.done ?_
                refine NW.next ?_
                refine CW.ret ?_
                refine NW.ret_block (NW.ret_then ?_)
                have h344 := (((gL0_b2_2_9.ext x45).ext x46).ext x47).turnB x50 h341 ⟨.inl (show (45 : Nat) ≠ 24 by decide), trivial⟩ trivial
                have h345 := (((gF1_9.ext x45).ext x46).ext x47).turnB x50 h341 ⟨.inr (by omega), trivial⟩
                have h346 := (((gF2_9.ext x45).ext x46).ext x47).turnB x50 h341 ⟨.inr (by omega), trivial⟩
                have h347 := Ext.turnB (Ext.trans (Ext.trans (Ext.trans x0_9 x45) x46) x47) x50 (by omega)
                have h348 := (((gb1_9.ext x45).ext x46).ext x47).turnB x50 (by omega)
                have h349 := (((gb2_9.ext x45).ext x46).ext x47).turnB x50 (by omega)
                have h350 := (((gb3_9.ext x45).ext x46).ext x47).turnB x50 (by omega)
                exact NW.ret2 rfl (resOne_cell tabOk (h343.at 0) rfl rfl rfl) (by rfl) ⟨ib2_0_0, ib2_1_0, lb2_2_0, Ab2_2_0, cb2_2_0, false, rfl, by omega, (h344.sub ⟨(.inl ⟨by omega, by omega, rfl⟩), trivial⟩ trivial), h345, h346, h344, h347, h348, h349, h350, H⟩
              ·
               rw [if_neg c22] at H
               refine RW.bool 176 (b' := false) (beq_f c22) rfl ?_
               refine RW.pure tabOk 9 rfl ?_
               have h351 := ((gb6_9.ext x45).ext x46).ext x47
               refine RW.storeBox tabOk h351 [.int .i64 ib2_0_0, .int .i64 ib2_1_0, .slice Ab2_2_0 lb2_2_0.length cb2_2_0] ⟨rfl, rfl, rfl⟩ rfl rfl rfl rfl rfl rfl rfl rfl ?_
               intro w61 x51 h352
               have h353 : Box w61.heap b6 24 [.int .i64 ib2_0_0, .int .i64 ib2_1_0, .slice Ab2_2_0 lb2_2_0.length cb2_2_0] := h352
               have sx51 := x51.size
               refine RW.pure tabOk 1 rfl ?_
               refine RW.done ?_
               refine NW.next ?_
               refine CW.ret ?_
               refine NW.ret_block (NW.ret_then ?_)
               have h354 := (((gL0_b2_2_9.ext x45).ext x46).ext x47).turnB x51 h351 ⟨.inl (show (45 : Nat) ≠ 24 by decide), trivial⟩ trivial
               have h355 := (((gF1_9.ext x45).ext x46).ext x47).turnB x51 h351 ⟨.inr (by omega), trivial⟩
               have h356 := (((gF2_9.ext x45).ext x46).ext x47).turnB x51 h351 ⟨.inr (by omega), trivial⟩
               have h357 := Ext.turnB (Ext.trans (Ext.trans (Ext.trans x0_9 x45) x46) x47) x51 (by omega)
               have h358 := (((gb1_9.ext x45).ext x46).ext x47).turnB x51 (by omega)
               have h359 := (((gb2_9.ext x45).ext x46).ext x47).turnB x51 (by omega)
               have h360 := (((gb3_9.ext x45).ext x46).ext x47).turnB x51 (by omega)
               exact NW.ret2 rfl (resOne_cell tabOk (h353.at 0) rfl rfl rfl) (by rfl) ⟨ib2_0_0, ib2_1_0, lb2_2_0, Ab2_2_0, cb2_2_0, false, rfl, by omega, (h354.sub ⟨(.inl ⟨by omega, by omega, rfl⟩), trivial⟩ trivial), h355, h356, h354, h357, h358, h359, h360, H⟩
             ·
              rw [if_neg c21] at H
              refine RW.bool 170 (b' := false) (decide_eq_false c21) rfl ?_
              refine RW.pure tabOk 15 rfl ?_
              have h361 := (gb6_9.ext x45).ext x46
              refine RW.storeBox tabOk h361 [.int .i64 ib2_0_0, .int .i64 ib2_1_0, .slice Ab2_2_0 lb2_2_0.length cb2_2_0] ⟨rfl, rfl, rfl⟩ rfl rfl rfl rfl rfl rfl rfl rfl ?_
              intro w62 x52 h362
              have h363 : Box w62.heap b6 24 [.int .i64 ib2_0_0, .int .i64 ib2_1_0, .slice Ab2_2_0 lb2_2_0.length cb2_2_0] := h362
              have sx52 := x52.size
              refine RW.pure tabOk 1 rfl ?_
              refine RW.done ?_
              refine NW.next ?_
              refine CW.ret ?_
              refine NW.ret_block (NW.ret_then ?_)
              have h364 := ((gL0_b2_2_9.ext x45).ext x46).turnB x52 h361 ⟨.inl (show (45 : Nat) ≠ 24 by decide), trivial⟩ trivial
              have h365 := ((gF1_9.ext x45).ext x46).turnB x52 h361 ⟨.inr (by omega), trivial⟩
              have h366 := ((gF2_9.ext x45).ext x46).turnB x52 h361 ⟨.inr (by omega), trivial⟩
              have h367 := Ext.turnB (Ext.trans (Ext.trans x0_9 x45) x46) x52 (by omega)
              have h368 := ((gb1_9.ext x45).ext x46).turnB x52 (by omega)
              have h369 := ((gb2_9.ext x45).ext x46).turnB x52 (by omega)
              have h370 := ((gb3_9.ext x45).ext x46).turnB x52 (by omega)
              exact NW.ret2 rfl (resOne_cell tabOk (h363.at 0) rfl rfl rfl) (by rfl) ⟨ib2_0_0, ib2_1_0, lb2_2_0, Ab2_2_0, cb2_2_0, false, rfl, by omega, (h364.sub ⟨(.inl ⟨by omega, by omega, rfl⟩), trivial⟩ trivial), h365, h366, h364, h367, h368, h369, h370, H⟩
            ·
             rw [if_neg c20] at H
             refine RW.bool 165 (b' := false) (beq_f c20) rfl ?_
             refine RW.pure tabOk 20 rfl ?_
             have h371 := (gb6_9.ext x45).ext x46
             refine RW.storeBox tabOk h371 [.int .i64 ib2_0_0, .int .i64 ib2_1_0, .slice Ab2_2_0 lb2_2_0.length cb2_2_0] ⟨rfl, rfl, rfl⟩ rfl rfl rfl rfl rfl rfl rfl rfl ?_
             intro w63 x53 h372
             have h373 : Box w63.heap b6 24 [.int .i64 ib2_0_0, .int .i64 ib2_1_0, .slice Ab2_2_0 lb2_2_0.length cb2_2_0] := h372
             have sx53 := x53.size
             refine RW.pure tabOk 1 rfl ?_
             refine RW.done ?_
             refine NW.next ?_
             refine CW.ret ?_
             refine NW.ret_block (NW.ret_then ?_)
             have h374 := ((gL0_b2_2_9.ext x45).ext x46).turnB x53 h371 ⟨.inl (show (45 : Nat) ≠ 24 by decide), trivial⟩ trivial
             have h375 := ((gF1_9.ext x45).ext x46).turnB x53 h371 ⟨.inr (by omega), trivial⟩
             have h376 := ((gF2_9.ext x45).ext x46).turnB x53 h371 ⟨.inr (by omega), trivial⟩
             have h377 := Ext.turnB (Ext.trans (Ext.trans x0_9 x45) x46) x53 (by omega)
             have h378 := ((gb1_9.ext x45).ext x46).turnB x53 (by omega)
             have h379 := ((gb2_9.ext x45).ext x46).turnB x53 (by omega)
             have h380 := ((gb3_9.ext x45).ext x46).turnB x53 (by omega)
             exact NW.ret2 rfl (resOne_cell tabOk (h373.at 0) rfl rfl rfl) (by rfl) ⟨ib2_0_0, ib2_1_0, lb2_2_0, Ab2_2_0, cb2_2_0, false, rfl, by omega, (h374.sub ⟨(.inl ⟨by omega, by omega, rfl⟩), trivial⟩ trivial), h375, h376, h374, h377, h378, h379, h380, H⟩
           ·
            rw [if_neg c17] at H
            refine CW.cond_f rfl (bool_f c17) ?_
            refine CW.seq ?_
            refine CW.lex [.L, .W, .L, .W, .L, .X, .W, .W, .W, .W, .W] rfl ?_
            refine RW.load tabOk [.int .i64 y3.Dev, .int .i64 y3.Size, .slice A4 y3.List_.length c_4] (gb7_8.at 0) ⟨rfl, rfl, rfl, rfl⟩ rfl rfl rfl rfl ?_
            refine RW.pure tabOk 1 rfl ?_
            refine RW.load tabOk [.int .i64 ((rd p0.A it4_0).N)] ((gb5_8.at 1).take 1 rfl) ⟨rfl, rfl, rfl, rfl⟩ rfl rfl rfl rfl ?_
            refine RW.pure tabOk 1 rfl ?_
            refine RW.load tabOk [.int .i64 ((rd p0.A it4_0).M)] ((gb5_8.at 2).take 1 rfl) ⟨rfl, rfl, rfl, rfl⟩ rfl rfl rfl rfl ?_
            obtain ⟨y22, h381, H⟩ := bind_some H
            refine RW.callF (.inl rfl) ent14 ⟨rfl, rfl, rfl, rfl⟩ rfl rfl (table_Range.calls k y3 A4 c_4 ((rd p0.A it4_0).N) ((rd p0.A it4_0).M) _ _ gF4_8.all gF4_8.len h381) ?_
            rintro _ w65 ⟨A11, c_11, rfl, x54, h382⟩
            refine ⟨_, rfl, x54, ?_⟩
            have sx54 := x54.size
            have h383 : Ow kEntry 45 w65.heap (okL [(w42.heap.size, some w65.heap.size, some 45)]) (okL []) A11 c_11 y22.1 := h382.close
            refine RW.pure tabOk 5 rfl ?_
            refine RW.done ?_
            refine NW.next ?_
            refine CW.seq ?_
            refine CW.lex [.W] rfl ?_
            refine RW.pure tabOk 1 rfl ?_
            refine RW.done ?_
            refine NW.next ?_
            refine CW.seqJ (fun a w66 => ∃ (it8_10 : Int) (lt23_10 : List Entry) (At23_10 : Option Addr) (ct23_10 : Nat), Sat 223 [(2, .pointer (some ⟨b4, 0, none⟩)), (4, .pointer (some ⟨b6, 0, none⟩)), (6, .pointer (some ⟨b7, 0, none⟩)), (8, .int .i64 it8_10), (21, .slice A11 y22.1.length c_11), (22, .int .i64 y22.2), (23, .slice At23_10 lt23_10.length ct23_10)] a ∧ w65.heap.size ≤ w66.heap.size ∧ Ow kEntry 45 w66.heap (okL [(w65.heap.size, none, some 45)]) (okL []) At23_10 ct23_10 lt23_10 ∧ Ow kEntry 45 w66.heap (okL [(w2.heap.size, some w6.heap.size, some 45)]) (okL []) Ab2_2_0 cb2_2_0 lb2_2_0 ∧ Ow kEntry 45 w66.heap (okL [(w14.heap.size, some w15.heap.size, some 45)]) (okL []) A4 c_4 y3.List_ ∧ Ow kEntry 45 w66.heap (okL [(w42.heap.size, some w65.heap.size, some 45)]) (okL []) A11 c_11 y22.1 ∧ Sl kEntry w66.heap (okL [(0, some w.heap.size, none)]) A1 p0.T.List_ ∧ Sl khermitagelaw8Act w66.heap (okL [(0, some w.heap.size, none)]) A2 p0.A ∧ Ext w w66 ∧ Box w66.heap b4 24 [.int .i64 ib2_0_0, .int .i64 ib2_1_0, .slice Ab2_2_0 lb2_2_0.length cb2_2_0] ∧ Box w66.heap b6 24 [.int .i64 0, .int .i64 0, .slice none 0 0] ∧ Box w66.heap b7 24 [.int .i64 y3.Dev, .int .i64 y3.Size, .slice A4 y3.List_.length c_4] ∧ Box w66.heap b1 27 [.int .i64 p0.T.Dev, .int .i64 p0.T.Size, .slice A1 p0.T.List_.length c_1, .slice A2 p0.A.length c_2] ∧ Box w66.heap b2 24 [.int .i64 ib2_0_0, .int .i64 ib2_1_0, .slice Ab2_2_0 lb2_2_0.length cb2_2_0] ∧ Box w66.heap b3 24 [.int .i64 0, .int .i64 0, .slice none 0 0] ∧ hermitagelaw8_TableExact.j9 k it4_0 ib2_0_0 ib2_1_0 lb2_2_0 y3 y22 (hermitagelaw8_TableExact.l0 p0 k n1) it8_10 lt23_10 = some r) ?_ ?_
            ·
             refine CW.seqJ (fun a w67 => ∃ (bt45_11 : Bool), Sat 223 [(2, .pointer (some ⟨b4, 0, none⟩)), (3, .pointer (some ⟨b5, 0, none⟩)), (4, .pointer (some ⟨b6, 0, none⟩)), (6, .pointer (some ⟨b7, 0, none⟩)), (8, .int .i64 1), (21, .slice A11 y22.1.length c_11), (22, .int .i64 y22.2), (23, .slice none 0 0), (45, .bool bt45_11)] a ∧ w65.heap.size ≤ w67.heap.size ∧ Ow kEntry 45 w67.heap (okL [(w2.heap.size, some w6.heap.size, some 45)]) (okL []) Ab2_2_0 cb2_2_0 lb2_2_0 ∧ Ow kEntry 45 w67.heap (okL [(w14.heap.size, some w15.heap.size, some 45)]) (okL []) A4 c_4 y3.List_ ∧ Ow kEntry 45 w67.heap (okL [(w42.heap.size, some w65.heap.size, some 45)]) (okL []) A11 c_11 y22.1 ∧ Sl kEntry w67.heap (okL [(0, some w.heap.size, none)]) A1 p0.T.List_ ∧ Sl khermitagelaw8Act w67.heap (okL [(0, some w.heap.size, none)]) A2 p0.A ∧ Ext w w67 ∧ Box w67.heap b4 24 [.int .i64 ib2_0_0, .int .i64 ib2_1_0, .slice Ab2_2_0 lb2_2_0.length cb2_2_0] ∧ Box w67.heap b5 35 [.int .i64 ((rd p0.A it4_0).Do), .int .i64 ((rd p0.A it4_0).N), .int .i64 ((rd p0.A it4_0).M), .int .i64 (((rd p0.A it4_0).P).Dev), .int .i64 (((rd p0.A it4_0).P).At)] ∧ Box w67.heap b6 24 [.int .i64 0, .int .i64 0, .slice none 0 0] ∧ Box w67.heap b7 24 [.int .i64 y3.Dev, .int .i64 y3.Size, .slice A4 y3.List_.length c_4] ∧ Box w67.heap b1 27 [.int .i64 p0.T.Dev, .int .i64 p0.T.Size, .slice A1 p0.T.List_.length c_1, .slice A2 p0.A.length c_2] ∧ Box w67.heap b2 24 [.int .i64 ib2_0_0, .int .i64 ib2_1_0, .slice Ab2_2_0 lb2_2_0.length cb2_2_0] ∧ Box w67.heap b3 24 [.int .i64 0, .int .i64 0, .slice none 0 0] ∧ hermitagelaw8_TableExact.j10 p0 k it4_0 ib2_0_0 ib2_1_0 lb2_2_0 y3 y22 (hermitagelaw8_TableExact.l0 p0 k n1) bt45_11 = some r) ?_ ?_
             ·
              refine CW.lex [.W, .W, .W, .L, .X, .W] rfl ?_
              refine RW.pure tabOk 2 rfl ?_
              by_cases c24 : y4 = true
              ·
               rw [if_pos c24] at H
               refine RW.bool 41 (b' := true) (c24) rfl ?_
               refine RW.pure tabOk 1 rfl ?_
               have h384 := gb5_8.ext x54
               refine RW.load tabOk [.int .i64 ((rd p0.A it4_0).M)] ((h384.at 2).take 1 rfl) ⟨rfl, rfl, rfl, rfl⟩ rfl rfl rfl rfl ?_
               obtain ⟨y23, h385, H⟩ := bind_some H
               refine RW.callF (.inl rfl) ent50 ⟨rfl, rfl, rfl, rfl⟩ rfl rfl (hermitageref0_Num.calls ((rd p0.A it4_0).M) 64 _ _ h385) ?_
               rintro _ w68 ⟨rfl, x55⟩
               refine ⟨_, rfl, x55, ?_⟩
               have sx55 := x55.size
               refine RW.pure tabOk 1 rfl ?_
               refine RW.done ?_
               have h386 := (gL0_b2_2_8.ext x54).ext x55
               have h387 := (gF4_8.ext x54).ext x55
               have h388 := h383.ext x55
               have h389 := (gF1_8.ext x54).ext x55
               have h390 := (gF2_8.ext x54).ext x55
               have h391 := Ext.trans (Ext.trans x0_8 x54) x55
               have h392 := (gb4_8.ext x54).ext x55
               have h393 := h384.ext x55
               have h394 := (gb6_8.ext x54).ext x55
               have h395 := (gb7_8.ext x54).ext x55
               have h396 := (gb1_8.ext x54).ext x55
               have h397 := (gb2_8.ext x54).ext x55
               have h398 := (gb3_8.ext x54).ext x55
               exact NW.J fun a ha => ⟨y23, ha.sub ⟨rfl, rfl, rfl, rfl, rfl, rfl, rfl, rfl, rfl, trivial⟩, by omega, h386, h387, h388, h389, h390, h391, h392, h393, h394, h395, h396, h397, h398, H⟩
              ·
               rw [if_neg c24] at H
               refine RW.bool 41 (b' := false) (bool_f c24) rfl ?_
               refine RW.pure tabOk 4 rfl ?_
               refine RW.done ?_
               have h399 := gL0_b2_2_8.ext x54
               have h400 := gF4_8.ext x54
               have h401 := gF1_8.ext x54
               have h402 := gF2_8.ext x54
               have h403 := Ext.trans x0_8 x54
               have h404 := gb4_8.ext x54
               have h405 := gb5_8.ext x54
               have h406 := gb6_8.ext x54
               have h407 := gb7_8.ext x54
               have h408 := gb1_8.ext x54
               have h409 := gb2_8.ext x54
               have h410 := gb3_8.ext x54
               exact NW.J fun a ha => ⟨false, ha.sub ⟨rfl, rfl, rfl, rfl, rfl, rfl, rfl, rfl, rfl, trivial⟩, by omega, h399, h400, h383, h401, h402, h403, h404, h405, h406, h407, h408, h409, h410, H⟩
             intro a w67 hJ hp
             obtain ⟨bt45_11, hS, hle, gL0_b2_2_11, gF4_11, gF11_11, gF1_11, gF2_11, x0_11, gb4_11, gb5_11, gb6_11, gb7_11, gb1_11, gb2_11, gb3_11, H⟩ := hJ
             unfold hermitagelaw8_TableExact.j10 at H
             refine CW.go hp hS ?_
             by_cases c25 : bt45_11 = true
             ·
              rw [if_pos c25] at H
              refine CW.cond_t rfl (c25) ?_
              refine CW.lex [.L, .W, .L, .W, .L, .X, .W, .W] rfl ?_
              refine RW.load tabOk [.int .i64 ib2_0_0, .int .i64 ib2_1_0, .slice Ab2_2_0 lb2_2_0.length cb2_2_0] (gb4_11.at 0) ⟨rfl, rfl, rfl, rfl⟩ rfl rfl rfl rfl ?_
              refine RW.pure tabOk 1 rfl ?_
              refine RW.load tabOk [.int .i64 ((rd p0.A it4_0).N)] ((gb5_11.at 1).take 1 rfl) ⟨rfl, rfl, rfl, rfl⟩ rfl rfl rfl rfl ?_
              refine RW.pure tabOk 1 rfl ?_
              refine RW.load tabOk [.int .i64 ((rd p0.A it4_0).M)] ((gb5_11.at 2).take 1 rfl) ⟨rfl, rfl, rfl, rfl⟩ rfl rfl rfl rfl ?_
              obtain ⟨y24, h411, H⟩ := bind_some H
              refine RW.callF (.inl rfl) ent59 ⟨rfl, rfl, rfl, rfl⟩ rfl rfl (hermitageref7_Range.calls k (⟨ib2_0_0, ib2_1_0, lb2_2_0⟩ : Table) Ab2_2_0 cb2_2_0 ((rd p0.A it4_0).N) ((rd p0.A it4_0).M) _ _ gL0_b2_2_11.all gL0_b2_2_11.len h411) ?_
              rintro _ w69 ⟨A12, c_12, rfl, x56, h412⟩
              refine ⟨_, rfl, x56, ?_⟩
              have sx56 := x56.size
              have h413 : Ow kEntry 45 w69.heap (okL [(w67.heap.size, some w69.heap.size, some 45)]) (okL []) A12 c_12 y24 := h412.close
              refine RW.pure tabOk 2 rfl ?_
              refine RW.done ?_
              have h414 := gL0_b2_2_11.ext x56
              have h415 := gF4_11.ext x56
              have h416 := gF11_11.ext x56
              have h417 := gF1_11.ext x56
              have h418 := gF2_11.ext x56
              have h419 := Ext.trans x0_11 x56
              have h420 := gb4_11.ext x56
              have h421 := gb6_11.ext x56
              have h422 := gb7_11.ext x56
              have h423 := gb1_11.ext x56
              have h424 := gb2_11.ext x56
              have h425 := gb3_11.ext x56
              exact NW.J fun a ha => ⟨0, y24, A12, c_12, ha.sub ⟨rfl, rfl, rfl, rfl, rfl, rfl, rfl, trivial⟩, by omega, (h413.sub ⟨(.inl ⟨by omega, trivial, rfl⟩), trivial⟩ trivial), h414, h415, h416, h417, h418, h419, h420, h421, h422, h423, h424, h425, H⟩
             ·
              rw [if_neg c25] at H
              refine CW.cond_f rfl (bool_f c25) ?_
              refine CW.skip ?_
              exact NW.J fun a ha => ⟨1, ([] : List Entry), none, 0, ha.sub ⟨rfl, rfl, rfl, rfl, rfl, rfl, rfl, trivial⟩, by omega, Ow.nil, gL0_b2_2_11, gF4_11, gF11_11, gF1_11, gF2_11, x0_11, gb4_11, gb6_11, gb7_11, gb1_11, gb2_11, gb3_11, H⟩
            intro a w66 hJ hp
            obtain ⟨it8_10, lt23_10, At23_10, ct23_10, hS, hle, ft23_10, gL0_b2_2_10, gF4_10, gF11_10, gF1_10, gF2_10, x0_10, gb4_10, gb6_10, gb7_10, gb1_10, gb2_10, gb3_10, H⟩ := hJ
            unfold hermitagelaw8_TableExact.j9 at H
            refine CW.go hp hS ?_
            have h426 : Ow kEntry 45 w66.heap (okL [(w65.heap.size, some w66.heap.size, some 45)]) (okL []) At23_10 ct23_10 lt23_10 := ft23_10.close
            refine CW.seq ?_
            refine CW.ord [0, 0, 2, 0, 14, 30, 62, 62, 254, 510, 1022, 2046, 2046, 8190, 16382, 16383, 65535] (ofL [(1, .W), (3, .W), (0, .L), (2, .X), (4, .W), (5, .W), (6, .W), (7, .W), (8, .X), (9, .W), (10, .W), (11, .L), (12, .L), (13, .X), (14, .W), (15, .M), (16, .W)] .nil) mixed (by kernel_rfl) ?_
            intro w70 x57
            have sx57 := x57.size
            refine RW.pure tabOk 2 rfl ?_
            have h427 := gb4_10.ext x57
            refine RW.load tabOk [.int .i64 ib2_0_0, .int .i64 ib2_1_0, .slice Ab2_2_0 lb2_2_0.length cb2_2_0] (h427.at 0) ⟨rfl, rfl, rfl, rfl⟩ rfl rfl rfl rfl ?_
            obtain ⟨y25, h428, H⟩ := bind_some H
            refine RW.callF (.inl rfl) ent13 ⟨rfl, rfl, rfl, rfl⟩ rfl rfl (hermitagelaw8_num.calls y22.2 _ _ h428) ?_
            rintro _ w71 ⟨rfl, x58⟩
            refine ⟨_, rfl, x58, ?_⟩
            have sx58 := x58.size
            refine RW.pure tabOk 2 rfl ?_
            by_cases c26 : y25 = it8_10
            ·
             rw [if_pos c26] at H
             refine RW.bool 57 (b' := true) (beq_t c26) rfl ?_
             refine RW.pure tabOk 2 rfl ?_
             have h429 := (gF11_10.ext x57).ext x58
             have h430 := (h426.ext x57).ext x58
             obtain ⟨y26, h431, H⟩ := bind_some H
             refine RW.callF (.inl rfl) ent60 ⟨rfl, rfl, rfl, rfl⟩ rfl rfl (hermitageref0_EqEntries.calls k A11 c_11 y22.1 At23_10 ct23_10 lt23_10 _ _ h429.all h429.len h430.all h430.len h431) ?_
             rintro _ w72 ⟨rfl, x59⟩
             refine ⟨_, rfl, x59, ?_⟩
             have sx59 := x59.size
             refine RW.pure tabOk 2 rfl ?_
             by_cases c27 : y26 = true
             ·
              rw [if_pos c27] at H
              refine RW.bool 62 (b' := true) (c27) rfl ?_
              have h432 := ((gb7_10.ext x57).ext x58).ext x59
              refine RW.load tabOk [.int .i64 y3.Dev, .int .i64 y3.Size, .slice A4 y3.List_.length c_4] (h432.at 0) ⟨rfl, rfl, rfl, rfl⟩ rfl rfl rfl rfl ?_
              have h433 := (h427.ext x58).ext x59
              refine RW.load tabOk [.int .i64 ib2_0_0, .int .i64 ib2_1_0, .slice Ab2_2_0 lb2_2_0.length cb2_2_0] (h433.at 0) ⟨rfl, rfl, rfl, rfl⟩ rfl rfl rfl rfl ?_
              have h434 := ((gF4_10.ext x57).ext x58).ext x59
              have h435 := ((gL0_b2_2_10.ext x57).ext x58).ext x59
              obtain ⟨y27, h436, H⟩ := bind_some H
              refine RW.callF (.inl rfl) ent58 ⟨rfl, rfl, rfl, rfl⟩ rfl rfl (hermitageref0_EqTable.calls k y3 A4 c_4 (⟨ib2_0_0, ib2_1_0, lb2_2_0⟩ : Table) Ab2_2_0 cb2_2_0 _ _ h434.all h434.len h435.all h435.len h436) ?_
              rintro _ w73 ⟨rfl, x60⟩
              refine ⟨_, rfl, x60, ?_⟩
              have sx60 := x60.size
              refine RW.pure tabOk 1 rfl ?_
              have h437 := (((gb6_10.ext x57).ext x58).ext x59).ext x60
              refine RW.storeBox tabOk h437 [.int .i64 ib2_0_0, .int .i64 ib2_1_0, .slice Ab2_2_0 lb2_2_0.length cb2_2_0] ⟨rfl, rfl, rfl⟩ rfl rfl rfl rfl rfl rfl rfl rfl ?_
              intro w74 x61 h438
              have h439 : Box w74.heap b6 24 [.int .i64 ib2_0_0, .int .i64 ib2_1_0, .slice Ab2_2_0 lb2_2_0.length cb2_2_0] := h438
              have sx61 := x61.size
              refine RW.pure tabOk 1 rfl ?_
              refine RW.done ?_
              refine NW.next ?_
              refine CW.ret ?_
              refine NW.ret_block (NW.ret_then ?_)
              have h440 := (h435.ext x60).turnB x61 h437 ⟨.inl (show (45 : Nat) ≠ 24 by decide), trivial⟩ trivial
              have h441 := ((((gF1_10.ext x57).ext x58).ext x59).ext x60).turnB x61 h437 ⟨.inr (by omega), trivial⟩
              have h442 := ((((gF2_10.ext x57).ext x58).ext x59).ext x60).turnB x61 h437 ⟨.inr (by omega), trivial⟩
              have h443 := Ext.turnB (Ext.trans (Ext.trans (Ext.trans (Ext.trans x0_10 x57) x58) x59) x60) x61 (by omega)
              have h444 := ((((gb1_10.ext x57).ext x58).ext x59).ext x60).turnB x61 (by omega)
              have h445 := ((((gb2_10.ext x57).ext x58).ext x59).ext x60).turnB x61 (by omega)
              have h446 := ((((gb3_10.ext x57).ext x58).ext x59).ext x60).turnB x61 (by omega)
              exact NW.ret2 rfl (resOne_cell tabOk (h439.at 0) rfl rfl rfl) (by rfl) ⟨ib2_0_0, ib2_1_0, lb2_2_0, Ab2_2_0, cb2_2_0, y27, rfl, by omega, (h440.sub ⟨(.inl ⟨by omega, by omega, rfl⟩), trivial⟩ trivial), h441, h442, h440, h443, h444, h445, h446, H⟩
             ·
              rw [if_neg c27] at H
              refine RW.bool 62 (b' := false) (bool_f c27) rfl ?_
              refine RW.pure tabOk 4 rfl ?_
              have h447 := ((gb6_10.ext x57).ext x58).ext x59
              refine RW.storeBox tabOk h447 [.int .i64 ib2_0_0, .int .i64 ib2_1_0, .slice Ab2_2_0 lb2_2_0.length cb2_2_0] ⟨rfl, rfl, rfl⟩ rfl rfl rfl rfl rfl rfl rfl rfl ?_
              intro w75 x62 h448
              have h449 : Box w75.heap b6 24 [.int .i64 ib2_0_0, .int .i64 ib2_1_0, .slice Ab2_2_0 lb2_2_0.length cb2_2_0] := h448
              have sx62 := x62.size
              refine RW.pure tabOk 1 rfl ?_
              refine RW.done ?_
              refine NW.next ?_
              refine CW.ret ?_
              refine NW.ret_block (NW.ret_then ?_)
              have h450 := (((gL0_b2_2_10.ext x57).ext x58).ext x59).turnB x62 h447 ⟨.inl (show (45 : Nat) ≠ 24 by decide), trivial⟩ trivial
              have h451 := (((gF1_10.ext x57).ext x58).ext x59).turnB x62 h447 ⟨.inr (by omega), trivial⟩
              have h452 := (((gF2_10.ext x57).ext x58).ext x59).turnB x62 h447 ⟨.inr (by omega), trivial⟩
              have h453 := Ext.turnB (Ext.trans (Ext.trans (Ext.trans x0_10 x57) x58) x59) x62 (by omega)
              have h454 := (((gb1_10.ext x57).ext x58).ext x59).turnB x62 (by omega)
              have h455 := (((gb2_10.ext x57).ext x58).ext x59).turnB x62 (by omega)
              have h456 := (((gb3_10.ext x57).ext x58).ext x59).turnB x62 (by omega)
              exact NW.ret2 rfl (resOne_cell tabOk (h449.at 0) rfl rfl rfl) (by rfl) ⟨ib2_0_0, ib2_1_0, lb2_2_0, Ab2_2_0, cb2_2_0, false, rfl, by omega, (h450.sub ⟨(.inl ⟨by omega, by omega, rfl⟩), trivial⟩ trivial), h451, h452, h450, h453, h454, h455, h456, H⟩
            ·
             rw [if_neg c26] at H
             refine RW.bool 57 (b' := false) (beq_f c26) rfl ?_
             refine RW.pure tabOk 9 rfl ?_
             have h457 := (gb6_10.ext x57).ext x58
             refine RW.storeBox tabOk h457 [.int .i64 ib2_0_0, .int .i64 ib2_1_0, .slice Ab2_2_0 lb2_2_0.length cb2_2_0] ⟨rfl, rfl, rfl⟩ rfl rfl rfl rfl rfl rfl rfl rfl ?_
             intro w76 x63 h458
             have h459 : Box w76.heap b6 24 [.int .i64 ib2_0_0, .int .i64 ib2_1_0, .slice Ab2_2_0 lb2_2_0.length cb2_2_0] := h458
             have sx63 := x63.size
             refine RW.pure tabOk 1 rfl ?_
             refine RW.done ?_
             refine NW.next ?_
             refine CW.ret ?_
             refine NW.ret_block (NW.ret_then ?_)
             have h460 := ((gL0_b2_2_10.ext x57).ext x58).turnB x63 h457 ⟨.inl (show (45 : Nat) ≠ 24 by decide), trivial⟩ trivial
             have h461 := ((gF1_10.ext x57).ext x58).turnB x63 h457 ⟨.inr (by omega), trivial⟩
             have h462 := ((gF2_10.ext x57).ext x58).turnB x63 h457 ⟨.inr (by omega), trivial⟩
             have h463 := Ext.turnB (Ext.trans (Ext.trans x0_10 x57) x58) x63 (by omega)
             have h464 := ((gb1_10.ext x57).ext x58).turnB x63 (by omega)
             have h465 := ((gb2_10.ext x57).ext x58).turnB x63 (by omega)
             have h466 := ((gb3_10.ext x57).ext x58).turnB x63 (by omega)
             exact NW.ret2 rfl (resOne_cell tabOk (h459.at 0) rfl rfl rfl) (by rfl) ⟨ib2_0_0, ib2_1_0, lb2_2_0, Ab2_2_0, cb2_2_0, false, rfl, by omega, (h460.sub ⟨(.inl ⟨by omega, by omega, rfl⟩), trivial⟩ trivial), h461, h462, h460, h463, h464, h465, h466, H⟩
       intro a w21 hJ hp
       obtain ⟨it8_4, it11_4, ib8_0_4, ib8_1_4, lb8_2_4, Ab8_2_4, cb8_2_4, ib9_0_4, ib9_1_4, lb9_2_4, Ab9_2_4, cb9_2_4, mid0_4, hS, hle, gL0_b2_2_4, gF4_4, fb8_2_4, fb9_2_4, gF1_4, gF2_4, x0_4, gb4_4, gb6_4, gb7_4, gb8_4, gb9_4, gb1_4, gb2_4, gb3_4, lomid0_4, lom, H⟩ := hJ
       unfold hermitagelaw8_TableExact.j3 at H
       refine CW.go hp hS ?_
       have h467 : Ow kEntry 45 w21.heap (okL [(mid0_4, some w21.heap.size, some 45)]) (okL []) Ab9_2_4 cb9_2_4 lb9_2_4 := fb9_2_4.close
       refine CW.seq ?_
       refine CW.seqJ (fun a w77 => ∃ (bt209_12 : Bool), Sat 223 [(2, .pointer (some ⟨b4, 0, none⟩)), (4, .pointer (some ⟨b6, 0, none⟩)), (6, .pointer (some ⟨b7, 0, none⟩)), (8, .int .i64 it8_4), (9, .pointer (some ⟨b8, 0, none⟩)), (10, .pointer (some ⟨b9, 0, none⟩)), (209, .bool bt209_12)] a ∧ w21.heap.size ≤ w77.heap.size ∧ Ow kEntry 45 w77.heap (okL [(w2.heap.size, some w6.heap.size, some 45)]) (okL []) Ab2_2_0 cb2_2_0 lb2_2_0 ∧ Ow kEntry 45 w77.heap (okL [(w14.heap.size, some w15.heap.size, some 45)]) (okL []) A4 c_4 y3.List_ ∧ Ow kEntry 45 w77.heap (okL [(w20.heap.size, some mid0_4, some 45)]) (okL []) Ab8_2_4 cb8_2_4 lb8_2_4 ∧ Ow kEntry 45 w77.heap (okL [(mid0_4, some w21.heap.size, some 45)]) (okL []) Ab9_2_4 cb9_2_4 lb9_2_4 ∧ Sl kEntry w77.heap (okL [(0, some w.heap.size, none)]) A1 p0.T.List_ ∧ Sl khermitagelaw8Act w77.heap (okL [(0, some w.heap.size, none)]) A2 p0.A ∧ Ext w w77 ∧ Box w77.heap b4 24 [.int .i64 ib2_0_0, .int .i64 ib2_1_0, .slice Ab2_2_0 lb2_2_0.length cb2_2_0] ∧ Box w77.heap b6 24 [.int .i64 0, .int .i64 0, .slice none 0 0] ∧ Box w77.heap b7 24 [.int .i64 y3.Dev, .int .i64 y3.Size, .slice A4 y3.List_.length c_4] ∧ Box w77.heap b8 24 [.int .i64 ib8_0_4, .int .i64 ib8_1_4, .slice Ab8_2_4 lb8_2_4.length cb8_2_4] ∧ Box w77.heap b9 24 [.int .i64 ib9_0_4, .int .i64 ib9_1_4, .slice Ab9_2_4 lb9_2_4.length cb9_2_4] ∧ Box w77.heap b1 27 [.int .i64 p0.T.Dev, .int .i64 p0.T.Size, .slice A1 p0.T.List_.length c_1, .slice A2 p0.A.length c_2] ∧ Box w77.heap b2 24 [.int .i64 ib2_0_0, .int .i64 ib2_1_0, .slice Ab2_2_0 lb2_2_0.length cb2_2_0] ∧ Box w77.heap b3 24 [.int .i64 0, .int .i64 0, .slice none 0 0] ∧ hermitagelaw8_TableExact.j11 k it4_0 ib2_0_0 ib2_1_0 lb2_2_0 y3 it8_4 lb8_2_4 ib9_0_4 ib9_1_4 lb9_2_4 (hermitagelaw8_TableExact.l0 p0 k n1) bt209_12 = some r) ?_ ?_
       ·
        refine CW.lex [.W, .X, .W, .W, .W, .L, .L, .X, .W, .W, .W, .L, .L, .X, .W, .W, .W, .L, .X, .X, .W, .W, .W, .W] rfl ?_
        refine RW.pure tabOk 1 rfl ?_
        obtain ⟨y28, h468, H⟩ := bind_some H
        refine RW.callF (.inl rfl) ent13 ⟨rfl, rfl, rfl, rfl⟩ rfl rfl (hermitagelaw8_num.calls it11_4 _ _ h468) ?_
        rintro _ w78 ⟨rfl, x64⟩
        refine ⟨_, rfl, x64, ?_⟩
        have sx64 := x64.size
        refine RW.pure tabOk 3 rfl ?_
        by_cases c28 : y28 = it8_4
        ·
         rw [if_pos c28] at H
         refine RW.bool 190 (b' := false) (bne_f c28) rfl ?_
         have h469 := gb8_4.ext x64
         refine RW.load tabOk [.int .i64 ib8_0_4, .int .i64 ib8_1_4, .slice Ab8_2_4 lb8_2_4.length cb8_2_4] (h469.at 0) ⟨rfl, rfl, rfl, rfl⟩ rfl rfl rfl rfl ?_
         have h470 := gb9_4.ext x64
         refine RW.load tabOk [.int .i64 ib9_0_4, .int .i64 ib9_1_4, .slice Ab9_2_4 lb9_2_4.length cb9_2_4] (h470.at 0) ⟨rfl, rfl, rfl, rfl⟩ rfl rfl rfl rfl ?_
         have h471 := fb8_2_4.ext x64
         have h472 := h467.ext x64
         obtain ⟨y29, h473, H⟩ := bind_some H
         refine RW.callF (.inl rfl) ent58 ⟨rfl, rfl, rfl, rfl⟩ rfl rfl (hermitageref0_EqTable.calls k (⟨ib8_0_4, ib8_1_4, lb8_2_4⟩ : Table) Ab8_2_4 cb8_2_4 (⟨ib9_0_4, ib9_1_4, lb9_2_4⟩ : Table) Ab9_2_4 cb9_2_4 _ _ h471.all h471.len h472.all h472.len h473) ?_
         rintro _ w79 ⟨rfl, x65⟩
         refine ⟨_, rfl, x65, ?_⟩
         have sx65 := x65.size
         refine RW.pure tabOk 3 rfl ?_
         by_cases c29 : y29 = true
         ·
          rw [if_pos c29] at H
          refine RW.bool 196 (b' := false) (not_f (c29)) rfl ?_
          have h474 := (gb7_4.ext x64).ext x65
          refine RW.load tabOk [.int .i64 y3.Dev, .int .i64 y3.Size, .slice A4 y3.List_.length c_4] (h474.at 0) ⟨rfl, rfl, rfl, rfl⟩ rfl rfl rfl rfl ?_
          have h475 := (gb4_4.ext x64).ext x65
          refine RW.load tabOk [.int .i64 ib2_0_0, .int .i64 ib2_1_0, .slice Ab2_2_0 lb2_2_0.length cb2_2_0] (h475.at 0) ⟨rfl, rfl, rfl, rfl⟩ rfl rfl rfl rfl ?_
          have h476 := (gF4_4.ext x64).ext x65
          have h477 := (gL0_b2_2_4.ext x64).ext x65
          obtain ⟨y30, h478, H⟩ := bind_some H
          refine RW.callF (.inl rfl) ent58 ⟨rfl, rfl, rfl, rfl⟩ rfl rfl (hermitageref0_EqTable.calls k y3 A4 c_4 (⟨ib2_0_0, ib2_1_0, lb2_2_0⟩ : Table) Ab2_2_0 cb2_2_0 _ _ h476.all h476.len h477.all h477.len h478) ?_
          rintro _ w80 ⟨rfl, x66⟩
          refine ⟨_, rfl, x66, ?_⟩
          have sx66 := x66.size
          refine RW.pure tabOk 3 rfl ?_
          by_cases c30 : y30 = true
          ·
           rw [if_pos c30] at H
           refine RW.bool 202 (b' := false) (not_f (c30)) rfl ?_
           have h479 := h474.ext x66
           refine RW.load tabOk [.int .i64 y3.Dev, .int .i64 y3.Size, .slice A4 y3.List_.length c_4] (h479.at 0) ⟨rfl, rfl, rfl, rfl⟩ rfl rfl rfl rfl ?_
           have h480 := h476.ext x66
           obtain ⟨y31, h481, H⟩ := bind_some H
           refine RW.callF (.inl rfl) ent61 ⟨rfl, rfl, rfl, rfl⟩ rfl rfl (table_Check.calls k y3 A4 c_4 _ _ h480.all h480.len h481) ?_
           rintro _ w81 ⟨rfl, x67⟩
           refine ⟨_, rfl, x67, ?_⟩
           have sx67 := x67.size
           obtain ⟨y32, h482, H⟩ := bind_some H
           refine RW.callF (.inl rfl) ent13 ⟨rfl, rfl, rfl, rfl⟩ rfl rfl (hermitagelaw8_num.calls y31 _ _ h482) ?_
           rintro _ w82 ⟨rfl, x68⟩
           refine ⟨_, rfl, x68, ?_⟩
           have sx68 := x68.size
           refine RW.pure tabOk 4 rfl ?_
           refine RW.done ?_
           have h483 := ((h477.ext x66).ext x67).ext x68
           have h484 := (h480.ext x67).ext x68
           have h485 := (((h471.ext x65).ext x66).ext x67).ext x68
           have h486 := (((h472.ext x65).ext x66).ext x67).ext x68
           have h487 := ((((gF1_4.ext x64).ext x65).ext x66).ext x67).ext x68
           have h488 := ((((gF2_4.ext x64).ext x65).ext x66).ext x67).ext x68
           have h489 := Ext.trans (Ext.trans (Ext.trans (Ext.trans (Ext.trans x0_4 x64) x65) x66) x67) x68
           have h490 := ((h475.ext x66).ext x67).ext x68
           have h491 := ((((gb6_4.ext x64).ext x65).ext x66).ext x67).ext x68
           have h492 := (h479.ext x67).ext x68
           have h493 := (((h469.ext x65).ext x66).ext x67).ext x68
           have h494 := (((h470.ext x65).ext x66).ext x67).ext x68
           have h495 := ((((gb1_4.ext x64).ext x65).ext x66).ext x67).ext x68
           have h496 := ((((gb2_4.ext x64).ext x65).ext x66).ext x67).ext x68
           have h497 := ((((gb3_4.ext x64).ext x65).ext x66).ext x67).ext x68
           exact NW.J fun a ha => ⟨(!((y32 == 0) == y4)), ha.sub ⟨rfl, rfl, rfl, rfl, rfl, rfl, rfl, trivial⟩, by omega, h483, h484, h485, h486, h487, h488, h489, h490, h491, h492, h493, h494, h495, h496, h497, H⟩
          ·
           rw [if_neg c30] at H
           refine RW.bool 202 (b' := true) (not_t (bool_f c30)) rfl ?_
           refine RW.pure tabOk 7 rfl ?_
           refine RW.done ?_
           have h498 := h477.ext x66
           have h499 := h476.ext x66
           have h500 := (h471.ext x65).ext x66
           have h501 := (h472.ext x65).ext x66
           have h502 := ((gF1_4.ext x64).ext x65).ext x66
           have h503 := ((gF2_4.ext x64).ext x65).ext x66
           have h504 := Ext.trans (Ext.trans (Ext.trans x0_4 x64) x65) x66
           have h505 := h475.ext x66
           have h506 := ((gb6_4.ext x64).ext x65).ext x66
           have h507 := h474.ext x66
           have h508 := (h469.ext x65).ext x66
           have h509 := (h470.ext x65).ext x66
           have h510 := ((gb1_4.ext x64).ext x65).ext x66
           have h511 := ((gb2_4.ext x64).ext x65).ext x66
           have h512 := ((gb3_4.ext x64).ext x65).ext x66
           exact NW.J fun a ha => ⟨true, ha.sub ⟨rfl, rfl, rfl, rfl, rfl, rfl, rfl, trivial⟩, by omega, h498, h499, h500, h501, h502, h503, h504, h505, h506, h507, h508, h509, h510, h511, h512, H⟩
         ·
          rw [if_neg c29] at H
          refine RW.bool 196 (b' := true) (not_t (bool_f c29)) rfl ?_
          refine RW.pure tabOk 13 rfl ?_
          refine RW.done ?_
          have h513 := (gL0_b2_2_4.ext x64).ext x65
          have h514 := (gF4_4.ext x64).ext x65
          have h515 := h471.ext x65
          have h516 := h472.ext x65
          have h517 := (gF1_4.ext x64).ext x65
          have h518 := (gF2_4.ext x64).ext x65
          have h519 := Ext.trans (Ext.trans x0_4 x64) x65
          have h520 := (gb4_4.ext x64).ext x65
          have h521 := (gb6_4.ext x64).ext x65
          have h522 := (gb7_4.ext x64).ext x65
          have h523 := h469.ext x65
          have h524 := h470.ext x65
          have h525 := (gb1_4.ext x64).ext x65
          have h526 := (gb2_4.ext x64).ext x65
          have h527 := (gb3_4.ext x64).ext x65
          exact NW.J fun a ha => ⟨true, ha.sub ⟨rfl, rfl, rfl, rfl, rfl, rfl, rfl, trivial⟩, by omega, h513, h514, h515, h516, h517, h518, h519, h520, h521, h522, h523, h524, h525, h526, h527, H⟩
        ·
         rw [if_neg c28] at H
         refine RW.bool 190 (b' := true) (bne_t c28) rfl ?_
         refine RW.pure tabOk 19 rfl ?_
         refine RW.done ?_
         have h528 := gL0_b2_2_4.ext x64
         have h529 := gF4_4.ext x64
         have h530 := fb8_2_4.ext x64
         have h531 := h467.ext x64
         have h532 := gF1_4.ext x64
         have h533 := gF2_4.ext x64
         have h534 := Ext.trans x0_4 x64
         have h535 := gb4_4.ext x64
         have h536 := gb6_4.ext x64
         have h537 := gb7_4.ext x64
         have h538 := gb8_4.ext x64
         have h539 := gb9_4.ext x64
         have h540 := gb1_4.ext x64
         have h541 := gb2_4.ext x64
         have h542 := gb3_4.ext x64
         exact NW.J fun a ha => ⟨true, ha.sub ⟨rfl, rfl, rfl, rfl, rfl, rfl, rfl, trivial⟩, by omega, h528, h529, h530, h531, h532, h533, h534, h535, h536, h537, h538, h539, h540, h541, h542, H⟩
       intro a w77 hJ hp
       obtain ⟨bt209_12, hS, hle, gL0_b2_2_12, gF4_12, gL4_b8_2_12, gL4_b9_2_12, gF1_12, gF2_12, x0_12, gb4_12, gb6_12, gb7_12, gb8_12, gb9_12, gb1_12, gb2_12, gb3_12, H⟩ := hJ
       unfold hermitagelaw8_TableExact.j11 at H
       refine CW.go hp hS ?_
       by_cases c31 : bt209_12 = true
       ·
        rw [if_pos c31] at H
        refine CW.cond_t rfl (c31) ?_
        refine CW.seq ?_
        refine CW.lex [.L, .M, .W] rfl ?_
        refine RW.load tabOk [.int .i64 ib2_0_0, .int .i64 ib2_1_0, .slice Ab2_2_0 lb2_2_0.length cb2_2_0] (gb4_12.at 0) ⟨rfl, rfl, rfl, rfl⟩ rfl rfl rfl rfl ?_
        refine RW.storeBox tabOk gb6_12 [.int .i64 ib2_0_0, .int .i64 ib2_1_0, .slice Ab2_2_0 lb2_2_0.length cb2_2_0] ⟨rfl, rfl, rfl⟩ rfl rfl rfl rfl rfl rfl rfl rfl ?_
        intro w83 x69 h543
        have h544 : Box w83.heap b6 24 [.int .i64 ib2_0_0, .int .i64 ib2_1_0, .slice Ab2_2_0 lb2_2_0.length cb2_2_0] := h543
        have sx69 := x69.size
        refine RW.pure tabOk 1 rfl ?_
        refine RW.done ?_
        refine NW.next ?_
        refine CW.ret ?_
        refine NW.ret_then ?_
        have h545 := gL0_b2_2_12.turnB x69 gb6_12 ⟨.inl (show (45 : Nat) ≠ 24 by decide), trivial⟩ trivial
        have h546 := gF1_12.turnB x69 gb6_12 ⟨.inr (by omega), trivial⟩
        have h547 := gF2_12.turnB x69 gb6_12 ⟨.inr (by omega), trivial⟩
        have h548 := Ext.turnB x0_12 x69 (by omega)
        have h549 := gb1_12.turnB x69 (by omega)
        have h550 := gb2_12.turnB x69 (by omega)
        have h551 := gb3_12.turnB x69 (by omega)
        exact NW.ret2 rfl (resOne_cell tabOk (h544.at 0) rfl rfl rfl) (by rfl) ⟨ib2_0_0, ib2_1_0, lb2_2_0, Ab2_2_0, cb2_2_0, false, rfl, by omega, (h545.sub ⟨(.inl ⟨by omega, by omega, rfl⟩), trivial⟩ trivial), h546, h547, h545, h548, h549, h550, h551, H⟩
       ·
        rw [if_neg c31] at H
        refine CW.cond_f rfl (bool_f c31) ?_
        refine CW.skip ?_
        refine NW.next ?_
        refine CW.seq ?_
        refine CW.lex [.L, .M] rfl ?_
        refine RW.load tabOk [.int .i64 ib8_0_4, .int .i64 ib8_1_4, .slice Ab8_2_4 lb8_2_4.length cb8_2_4] (gb8_12.at 0) ⟨rfl, rfl, rfl, rfl⟩ rfl rfl rfl rfl ?_
        refine RW.callFM (R := fun e w84 => e = .returned (.tuple #[]) ∧ w77.heap.size ≤ w84.heap.size ∧ Ow kEntry 45 w84.heap (okL [(w2.heap.size, some w6.heap.size, some 45)]) (okL []) Ab2_2_0 cb2_2_0 lb2_2_0 ∧ Ow kEntry 45 w84.heap (okL [(w14.heap.size, some w15.heap.size, some 45)]) (okL []) A4 c_4 y3.List_ ∧ Ow kEntry 45 w84.heap (okL [(mid0_4, some w21.heap.size, some 45)]) (okL []) Ab9_2_4 cb9_2_4 lb9_2_4 ∧ Sl kEntry w84.heap (okL [(0, some w.heap.size, none)]) A1 p0.T.List_ ∧ Sl khermitagelaw8Act w84.heap (okL [(0, some w.heap.size, none)]) A2 p0.A ∧ Ext w w84 ∧ Box w84.heap b4 24 [.int .i64 ib2_0_0, .int .i64 ib2_1_0, .slice Ab2_2_0 lb2_2_0.length cb2_2_0] ∧ Box w84.heap b6 24 [.int .i64 0, .int .i64 0, .slice none 0 0] ∧ Box w84.heap b7 24 [.int .i64 y3.Dev, .int .i64 y3.Size, .slice A4 y3.List_.length c_4] ∧ Box w84.heap b9 24 [.int .i64 ib9_0_4, .int .i64 ib9_1_4, .slice Ab9_2_4 lb9_2_4.length cb9_2_4] ∧ Box w84.heap b1 27 [.int .i64 p0.T.Dev, .int .i64 p0.T.Size, .slice A1 p0.T.List_.length c_1, .slice A2 p0.A.length c_2] ∧ Box w84.heap b2 24 [.int .i64 ib2_0_0, .int .i64 ib2_1_0, .slice Ab2_2_0 lb2_2_0.length cb2_2_0] ∧ Box w84.heap b3 24 [.int .i64 0, .int .i64 0, .slice none 0 0] ∧ hermitagelaw8_TableExact.j12 k it4_0 ib2_0_0 ib2_1_0 lb2_2_0 y3 it8_4 ib9_0_4 ib9_1_4 lb9_2_4 (hermitagelaw8_TableExact.l0 p0 k n1) = some r) ent62 ⟨rfl, rfl, rfl, rfl⟩ rfl rfl rfl ?_ ?_
        ·
         refine calls_start Try.func62 rfl 15 rfl [.agg #[.int .i64 ib8_0_4, .int .i64 ib8_1_4, .slice Ab8_2_4 lb8_2_4.length cb8_2_4]] rfl ?_
         refine CW.seq ?_
         refine CW.lex [.X] rfl ?_
         refine RW.box (cs := [.int .i64 ib8_0_4, .int .i64 ib8_1_4, .slice Ab8_2_4 lb8_2_4.length cb8_2_4]) (.inl rfl) ⟨rfl, rfl, rfl, rfl⟩ rfl rfl rfl ?_
         intro b13 w85 x70 l13 h552
         have sx70 := x70.size
         have ltb13 := h552.lt
         refine RW.done ?_
         refine NW.next ?_
         refine CW.seq ?_
         refine CW.lex [.W] rfl ?_
         refine RW.pure tabOk 1 rfl ?_
         refine RW.done ?_
         refine NW.next ?_
         refine CW.block ?_
         refine CW.loop (fun n2 a w86 => ∃ (it2_14 : Int) (lb13_2_14 : List Entry) (Ab13_2_14 : Option Addr) (cb13_2_14 : Nat), Sat 15 [(1, .pointer (some ⟨b13, 0, none⟩)), (2, .int .i64 it2_14)] a ∧ w85.heap.size ≤ w86.heap.size ∧ Ow kEntry 45 w86.heap (okL [(w20.heap.size, some mid0_4, some 45)]) (okL []) Ab13_2_14 cb13_2_14 lb13_2_14 ∧ Sl kEntry w86.heap (okL [(0, some w.heap.size, none)]) A1 p0.T.List_ ∧ Sl khermitagelaw8Act w86.heap (okL [(0, some w.heap.size, none)]) A2 p0.A ∧ Ow kEntry 45 w86.heap (okL [(w2.heap.size, some w6.heap.size, some 45)]) (okL []) Ab2_2_0 cb2_2_0 lb2_2_0 ∧ Ow kEntry 45 w86.heap (okL [(w14.heap.size, some w15.heap.size, some 45)]) (okL []) A4 c_4 y3.List_ ∧ Ow kEntry 45 w86.heap (okL [(mid0_4, some w21.heap.size, some 45)]) (okL []) Ab9_2_4 cb9_2_4 lb9_2_4 ∧ Ext w w86 ∧ Box w86.heap b13 24 [.int .i64 ib8_0_4, .int .i64 ib8_1_4, .slice Ab13_2_14 lb13_2_14.length cb13_2_14] ∧ Box w86.heap b1 27 [.int .i64 p0.T.Dev, .int .i64 p0.T.Size, .slice A1 p0.T.List_.length c_1, .slice A2 p0.A.length c_2] ∧ Box w86.heap b2 24 [.int .i64 ib2_0_0, .int .i64 ib2_1_0, .slice Ab2_2_0 lb2_2_0.length cb2_2_0] ∧ Box w86.heap b3 24 [.int .i64 0, .int .i64 0, .slice none 0 0] ∧ Box w86.heap b4 24 [.int .i64 ib2_0_0, .int .i64 ib2_1_0, .slice Ab2_2_0 lb2_2_0.length cb2_2_0] ∧ Box w86.heap b6 24 [.int .i64 0, .int .i64 0, .slice none 0 0] ∧ Box w86.heap b7 24 [.int .i64 y3.Dev, .int .i64 y3.Size, .slice A4 y3.List_.length c_4] ∧ Box w86.heap b9 24 [.int .i64 ib9_0_4, .int .i64 ib9_1_4, .slice Ab9_2_4 lb9_2_4.length cb9_2_4] ∧ hermitagelaw8_TableExact.l1 k it4_0 ib2_0_0 ib2_1_0 lb2_2_0 y3 it8_4 ib9_0_4 ib9_1_4 lb9_2_4 (hermitagelaw8_TableExact.l0 p0 k n1) n2 it2_14 lb13_2_14 = some r) k ?_ ?_
         have h553 := gL4_b8_2_12.ext x70
         have h554 := gF1_12.ext x70
         have h555 := gF2_12.ext x70
         have h556 := gL0_b2_2_12.ext x70
         have h557 := gF4_12.ext x70
         have h558 := gL4_b9_2_12.ext x70
         have h559 := Ext.trans x0_12 x70
         have h560 := gb1_12.ext x70
         have h561 := gb2_12.ext x70
         have h562 := gb3_12.ext x70
         have h563 := gb4_12.ext x70
         have h564 := gb6_12.ext x70
         have h565 := gb7_12.ext x70
         have h566 := gb9_12.ext x70
         · exact fun a ha => ⟨0, lb8_2_4, Ab8_2_4, cb8_2_4, ha.sub ⟨rfl, rfl, trivial⟩, by omega, (h553.sub ⟨(.inl ⟨by omega, by omega, rfl⟩), trivial⟩ trivial), h554, h555, h556, h557, h558, h559, h552, h560, h561, h562, h563, h564, h565, h566, H⟩
         intro n2 a w86 hI hp
         obtain ⟨it2_14, lb13_2_14, Ab13_2_14, cb13_2_14, hS, hle, fb13_2_14, gF1_14, gF2_14, gL0_b2_2_14, gF4_14, gL4_b9_2_14, x0_14, gb13_14, gb1_14, gb2_14, gb3_14, gb4_14, gb6_14, gb7_14, gb9_14, H⟩ := hI
         cases n2 with
         | zero => cases H
         | succ n2 =>
          rw [hermitagelaw8_TableExact.l1] at H
          refine CW.go hp hS ?_
          refine CW.seq ?_
          refine CW.seq ?_
          refine CW.lex [.W, .W, .L, .W, .W] rfl ?_
          refine RW.pure tabOk 2 rfl ?_
          refine RW.load tabOk [.slice Ab13_2_14 lb13_2_14.length cb13_2_14] (gb13_14.at 2) ⟨rfl, rfl, rfl, rfl⟩ rfl rfl rfl rfl ?_
          refine RW.pure tabOk 2 rfl ?_
          refine RW.done ?_
          refine NW.next ?_
          by_cases c32 : it2_14 < (lb13_2_14.length : Int)
          ·
           rw [if_pos c32] at H
           refine CW.cond_t rfl (decide_eq_true c32) ?_
           refine CW.skip ?_
           refine NW.next ?_
           refine CW.seq ?_
           refine CW.block ?_
           refine CW.lex [.W, .L, .W, .W, .W, .M] rfl ?_
           refine RW.pure tabOk 1 rfl ?_
           refine RW.load tabOk [.slice Ab13_2_14 lb13_2_14.length cb13_2_14] (gb13_14.at 2) ⟨rfl, rfl, rfl, rfl⟩ rfl rfl rfl rfl ?_
           refine RW.pure tabOk 2 rfl ?_
           obtain ⟨g2, H⟩ := guard_some H
           obtain ⟨ad2, e2, a2⟩ := kEntry_at fb13_2_14.slL g2.1 g2.2
           refine RW.index tabOk g2.1 g2.2 e2 ⟨rfl, rfl, rfl, rfl⟩ rfl rfl rfl rfl rfl rfl ?_
           refine RW.storeElL0 (y := (⟨(-9), 0, 0, 0, 0⟩ : Entry)) (lv := []) tabOk fb13_2_14 (j := it2_14.toNat) (by have := g2; omega) default [.int .i64 (-9), .int .i64 0, .int .i64 0, .int .i64 0, .int .i64 0] (fun cs ok' hr => by obtain rfl := kEntry_open hr; exact ⟨by simp, kEntry_mk (⟨(-9), 0, 0, 0, 0⟩ : Entry)⟩) trivial ⟨rfl, rfl, rfl⟩ rfl rfl e2 rfl rfl rfl rfl rfl ?_
           intro w87 x71 h567
           have sx71 := x71.size
           have h568 := h567.sub (l' := [(w20.heap.size, some mid0_4, some 45)]) (li' := []) ⟨(.inl ⟨by omega, by omega, rfl⟩), trivial⟩ trivial
           have h569 := gb13_14.turnL x71 (.inl (by decide))
           have h570 : Box w87.heap b13 24 [.int .i64 ib8_0_4, .int .i64 ib8_1_4, .slice Ab13_2_14 (lb13_2_14.set it2_14.toNat (⟨(-9), 0, 0, 0, 0⟩ : Entry)).length cb13_2_14] := by simpa only [List.length_set] using h569
           refine RW.done ?_
           refine NW.norm_block (NW.next ?_)
           refine CW.lex [.W, .W, .W] rfl ?_
           refine RW.pure tabOk 3 rfl ?_
           refine RW.done ?_
           have h571 := gF1_14.turnL x71 ⟨⟨.inr (.inl (by omega)), trivial⟩, trivial⟩
           have h572 := gF2_14.turnL x71 ⟨⟨.inr (.inl (by omega)), trivial⟩, trivial⟩
           have h573 := gL0_b2_2_14.turnL x71 ⟨⟨.inr (.inl (by omega)), trivial⟩, trivial⟩ trivial
           have h574 := gF4_14.turnL x71 ⟨⟨.inr (.inl (by omega)), trivial⟩, trivial⟩ trivial
           have h575 := gL4_b9_2_14.turnL x71 ⟨⟨.inr (.inr (by omega)), trivial⟩, trivial⟩ trivial
           have h576 := Ext.turn x0_14 x71 ⟨by omega, trivial⟩
           have h577 := gb1_14.turnL x71 (.inl (by decide))
           have h578 := gb2_14.turnL x71 (.inl (by decide))
           have h579 := gb3_14.turnL x71 (.inl (by decide))
           have h580 := gb4_14.turnL x71 (.inl (by decide))
           have h581 := gb6_14.turnL x71 (.inl (by decide))
           have h582 := gb7_14.turnL x71 (.inl (by decide))
           have h583 := gb9_14.turnL x71 (.inl (by decide))
           exact NW.J fun a ha => ⟨n2, Nat.lt_succ_self n2, (w64 (it2_14 + 1)), (lb13_2_14.set it2_14.toNat (⟨(-9), 0, 0, 0, 0⟩ : Entry)), Ab13_2_14, cb13_2_14, ha.sub ⟨rfl, rfl, trivial⟩, by omega, (h568.sub ⟨(.inl ⟨by omega, by omega, rfl⟩), trivial⟩ trivial), h571, h572, h573, h574, h575, h576, h570, h577, h578, h579, h580, h581, h582, h583, H⟩
          ·
           rw [if_neg c32] at H
           refine CW.cond_f rfl (decide_eq_false c32) ?_
           refine CW.exit ?_
           refine NW.exit_then (NW.exit_then (NW.exit_hit ?_))
           refine NW.end_ ?_
           exact NW.ret0 rfl ⟨rfl, by omega, gL0_b2_2_14, gF4_14, gL4_b9_2_14, gF1_14, gF2_14, x0_14, gb4_14, gb6_14, gb7_14, gb9_14, gb1_14, gb2_14, gb3_14, H⟩
        rintro _ w84 ⟨rfl, hle, gL0_b2_2_13, gF4_13, gL4_b9_2_13, gF1_13, gF2_13, x0_13, gb4_13, gb6_13, gb7_13, gb9_13, gb1_13, gb2_13, gb3_13, H⟩
        refine ⟨_, rfl, ?_⟩
        unfold hermitagelaw8_TableExact.j12 at H
        refine RW.done ?_
        refine NW.next ?_
        refine CW.seq ?_
        refine CW.seq ?_
        refine CW.lex [.L, .L, .X, .W] rfl ?_
        refine RW.load tabOk [.int .i64 y3.Dev, .int .i64 y3.Size, .slice A4 y3.List_.length c_4] (gb7_13.at 0) ⟨rfl, rfl, rfl, rfl⟩ rfl rfl rfl rfl ?_
        refine RW.load tabOk [.int .i64 ib2_0_0, .int .i64 ib2_1_0, .slice Ab2_2_0 lb2_2_0.length cb2_2_0] (gb4_13.at 0) ⟨rfl, rfl, rfl, rfl⟩ rfl rfl rfl rfl ?_
        obtain ⟨y33, h584, H⟩ := bind_some H
        refine RW.callF (.inl rfl) ent58 ⟨rfl, rfl, rfl, rfl⟩ rfl rfl (hermitageref0_EqTable.calls k y3 A4 c_4 (⟨ib2_0_0, ib2_1_0, lb2_2_0⟩ : Table) Ab2_2_0 cb2_2_0 _ _ gF4_13.all gF4_13.len gL0_b2_2_13.all gL0_b2_2_13.len h584) ?_
        rintro _ w88 ⟨rfl, x72⟩
        refine ⟨_, rfl, x72, ?_⟩
        have sx72 := x72.size
        refine RW.pure tabOk 1 rfl ?_
        refine RW.done ?_
        refine NW.next ?_
        by_cases c33 : y33 = true
        ·
         rw [if_pos c33] at H
         refine CW.cond_f rfl (not_f (c33)) ?_
         refine CW.skip ?_
         refine NW.next ?_
         refine CW.seq ?_
         refine CW.seq ?_
         refine CW.lex [.W, .W] rfl ?_
         refine RW.pure tabOk 2 rfl ?_
         refine RW.done ?_
         refine NW.next ?_
         by_cases c34 : it8_4 = 0
         ·
          rw [if_pos c34] at H
          refine CW.cond_f rfl (bne_f c34) ?_
          refine CW.skip ?_
          refine NW.next ?_
          refine CW.seq ?_
          refine CW.lex [.L, .X, .M, .W] rfl ?_
          have h585 := gb9_13.ext x72
          refine RW.load tabOk [.int .i64 ib9_0_4, .int .i64 ib9_1_4, .slice Ab9_2_4 lb9_2_4.length cb9_2_4] (h585.at 0) ⟨rfl, rfl, rfl, rfl⟩ rfl rfl rfl rfl ?_
          have h586 := gL4_b9_2_13.ext x72
          obtain ⟨y34, h587, H⟩ := bind_some H
          refine RW.callF (.inl rfl) ent21 ⟨rfl, rfl, rfl, rfl⟩ rfl rfl (hermitageref0_CopyTable.calls k (⟨ib9_0_4, ib9_1_4, lb9_2_4⟩ : Table) Ab9_2_4 cb9_2_4 _ _ h586.all h586.len h587) ?_
          rintro _ w89 ⟨A13, c_13, rfl, x73, h588⟩
          refine ⟨_, rfl, x73, ?_⟩
          have sx73 := x73.size
          have h589 : Ow kEntry 45 w89.heap (okL [(w88.heap.size, some w89.heap.size, some 45)]) (okL []) A13 c_13 y34.List_ := h588.close
          have h590 := (gb6_13.ext x72).ext x73
          refine RW.storeBox tabOk h590 [.int .i64 y34.Dev, .int .i64 y34.Size, .slice A13 y34.List_.length c_13] ⟨rfl, rfl, rfl⟩ rfl rfl rfl rfl rfl rfl rfl rfl ?_
          intro w90 x74 h591
          have h592 : Box w90.heap b6 24 [.int .i64 y34.Dev, .int .i64 y34.Size, .slice A13 y34.List_.length c_13] := h591
          have sx74 := x74.size
          refine RW.pure tabOk 1 rfl ?_
          refine RW.done ?_
          refine NW.next ?_
          refine CW.ret ?_
          have h593 := h589.turnB x74 h590 ⟨.inl (show (45 : Nat) ≠ 24 by decide), trivial⟩ trivial
          have h594 := ((gF1_13.ext x72).ext x73).turnB x74 h590 ⟨.inr (by omega), trivial⟩
          have h595 := ((gF2_13.ext x72).ext x73).turnB x74 h590 ⟨.inr (by omega), trivial⟩
          have h596 := ((gL0_b2_2_13.ext x72).ext x73).turnB x74 h590 ⟨.inl (show (45 : Nat) ≠ 24 by decide), trivial⟩ trivial
          have h597 := Ext.turnB (Ext.trans (Ext.trans x0_13 x72) x73) x74 (by omega)
          have h598 := ((gb1_13.ext x72).ext x73).turnB x74 (by omega)
          have h599 := ((gb2_13.ext x72).ext x73).turnB x74 (by omega)
          have h600 := ((gb3_13.ext x72).ext x73).turnB x74 (by omega)
          exact NW.ret2 rfl (resOne_cell tabOk (h592.at 0) rfl rfl rfl) (by rfl) ⟨y34.Dev, y34.Size, y34.List_, A13, c_13, true, rfl, by omega, (h593.sub ⟨(.inr (.inl ⟨by omega, trivial, rfl⟩)), trivial⟩ trivial), h594, h595, h596, h597, h598, h599, h600, H⟩
         ·
          rw [if_neg c34] at H
          refine CW.cond_t rfl (bne_t c34) ?_
          refine CW.seq ?_
          refine CW.lex [.L, .M, .W] rfl ?_
          have h601 := gb4_13.ext x72
          refine RW.load tabOk [.int .i64 ib2_0_0, .int .i64 ib2_1_0, .slice Ab2_2_0 lb2_2_0.length cb2_2_0] (h601.at 0) ⟨rfl, rfl, rfl, rfl⟩ rfl rfl rfl rfl ?_
          have h602 := gb6_13.ext x72
          refine RW.storeBox tabOk h602 [.int .i64 ib2_0_0, .int .i64 ib2_1_0, .slice Ab2_2_0 lb2_2_0.length cb2_2_0] ⟨rfl, rfl, rfl⟩ rfl rfl rfl rfl rfl rfl rfl rfl ?_
          intro w91 x75 h603
          have h604 : Box w91.heap b6 24 [.int .i64 ib2_0_0, .int .i64 ib2_1_0, .slice Ab2_2_0 lb2_2_0.length cb2_2_0] := h603
          have sx75 := x75.size
          refine RW.pure tabOk 1 rfl ?_
          refine RW.done ?_
          refine NW.next ?_
          refine CW.ret ?_
          refine NW.ret_then ?_
          have h605 := (gL0_b2_2_13.ext x72).turnB x75 h602 ⟨.inl (show (45 : Nat) ≠ 24 by decide), trivial⟩ trivial
          have h606 := (gF1_13.ext x72).turnB x75 h602 ⟨.inr (by omega), trivial⟩
          have h607 := (gF2_13.ext x72).turnB x75 h602 ⟨.inr (by omega), trivial⟩
          have h608 := Ext.turnB (Ext.trans x0_13 x72) x75 (by omega)
          have h609 := (gb1_13.ext x72).turnB x75 (by omega)
          have h610 := (gb2_13.ext x72).turnB x75 (by omega)
          have h611 := (gb3_13.ext x72).turnB x75 (by omega)
          exact NW.ret2 rfl (resOne_cell tabOk (h604.at 0) rfl rfl rfl) (by rfl) ⟨ib2_0_0, ib2_1_0, lb2_2_0, Ab2_2_0, cb2_2_0, true, rfl, by omega, (h605.sub ⟨(.inl ⟨by omega, by omega, rfl⟩), trivial⟩ trivial), h606, h607, h605, h608, h609, h610, h611, H⟩
        ·
         rw [if_neg c33] at H
         refine CW.cond_t rfl (not_t (bool_f c33)) ?_
         refine CW.seq ?_
         refine CW.lex [.L, .M, .W] rfl ?_
         have h612 := gb4_13.ext x72
         refine RW.load tabOk [.int .i64 ib2_0_0, .int .i64 ib2_1_0, .slice Ab2_2_0 lb2_2_0.length cb2_2_0] (h612.at 0) ⟨rfl, rfl, rfl, rfl⟩ rfl rfl rfl rfl ?_
         have h613 := gb6_13.ext x72
         refine RW.storeBox tabOk h613 [.int .i64 ib2_0_0, .int .i64 ib2_1_0, .slice Ab2_2_0 lb2_2_0.length cb2_2_0] ⟨rfl, rfl, rfl⟩ rfl rfl rfl rfl rfl rfl rfl rfl ?_
         intro w92 x76 h614
         have h615 : Box w92.heap b6 24 [.int .i64 ib2_0_0, .int .i64 ib2_1_0, .slice Ab2_2_0 lb2_2_0.length cb2_2_0] := h614
         have sx76 := x76.size
         refine RW.pure tabOk 1 rfl ?_
         refine RW.done ?_
         refine NW.next ?_
         refine CW.ret ?_
         refine NW.ret_then ?_
         have h616 := (gL0_b2_2_13.ext x72).turnB x76 h613 ⟨.inl (show (45 : Nat) ≠ 24 by decide), trivial⟩ trivial
         have h617 := (gF1_13.ext x72).turnB x76 h613 ⟨.inr (by omega), trivial⟩
         have h618 := (gF2_13.ext x72).turnB x76 h613 ⟨.inr (by omega), trivial⟩
         have h619 := Ext.turnB (Ext.trans x0_13 x72) x76 (by omega)
         have h620 := (gb1_13.ext x72).turnB x76 (by omega)
         have h621 := (gb2_13.ext x72).turnB x76 (by omega)
         have h622 := (gb3_13.ext x72).turnB x76 (by omega)
         exact NW.ret2 rfl (resOne_cell tabOk (h615.at 0) rfl rfl rfl) (by rfl) ⟨ib2_0_0, ib2_1_0, lb2_2_0, Ab2_2_0, cb2_2_0, false, rfl, by omega, (h616.sub ⟨(.inl ⟨by omega, by omega, rfl⟩), trivial⟩ trivial), h617, h618, h616, h619, h620, h621, h622, H⟩
      rintro _ w11 ⟨it30_0_3, it30_1_3, lt30_2_3, At30_2_3, ct30_2_3, bt30_3_3, rfl, hle, ft30_2_3, gF1_3, gF2_3, gL0_b2_2_3, x0_3, gb1_3, gb2_3, gb3_3, H⟩
      refine ⟨_, rfl, ?_⟩
      unfold hermitagelaw8_TableExact.j2 at H
      have h623 : Ow kEntry 45 w11.heap (okL [(w2.heap.size, some w6.heap.size, some 45), (w10.heap.size, some w11.heap.size, some 45)]) (okL []) At30_2_3 ct30_2_3 lt30_2_3 := ft30_2_3.close
      refine RW.pure tabOk 3 rfl ?_
      refine RW.storeBox tabOk gb3_3 [.int .i64 it30_0_3, .int .i64 it30_1_3, .slice At30_2_3 lt30_2_3.length ct30_2_3] ⟨rfl, rfl, rfl⟩ rfl rfl rfl rfl rfl rfl rfl rfl ?_
      intro w93 x77 h624
      have h625 : Box w93.heap b3 24 [.int .i64 it30_0_3, .int .i64 it30_1_3, .slice At30_2_3 lt30_2_3.length ct30_2_3] := h624
      have sx77 := x77.size
      refine RW.pure tabOk 1 rfl ?_
      refine RW.done ?_
      have h626 := gF1_3.turnB x77 gb3_3 ⟨.inr (by omega), trivial⟩
      have h627 := gF2_3.turnB x77 gb3_3 ⟨.inr (by omega), trivial⟩
      have h628 := gL0_b2_2_3.turnB x77 gb3_3 ⟨.inl (show (45 : Nat) ≠ 24 by decide), trivial⟩ trivial
      have h629 := h623.turnB x77 gb3_3 ⟨.inl (show (45 : Nat) ≠ 24 by decide), ⟨.inl (show (45 : Nat) ≠ 24 by decide), trivial⟩⟩ trivial
      have h630 := Ext.turnB x0_3 x77 (by omega)
      have h631 := gb1_3.turnB x77 (by omega)
      have h632 := gb2_3.turnB x77 (by omega)
      exact NW.J fun a ha => ⟨bt30_3_3, b3, it30_0_3, it30_1_3, lt30_2_3, At30_2_3, ct30_2_3, ha.sub ⟨rfl, rfl, rfl, rfl, rfl, trivial⟩, by omega, h626, h627, h628, (h629.sub ⟨(.inl ⟨by omega, by omega, rfl⟩), ⟨(.inr (.inl ⟨by omega, trivial, rfl⟩)), trivial⟩⟩ trivial), h630, h631, h632, h625, by omega, H⟩
    intro a w8 hJ hp
    obtain ⟨bt6_2, bk5_2, ibk5_2_0_2, ibk5_2_1_2, lbk5_2_2_2, Abk5_2_2_2, cbk5_2_2_2, hS, hle, gF1_2, gF2_2, gL0_b2_2_2, fbk5_2_2_2, x0_2, gb1_2, gb2_2, gbk5_2_2, lobk5_2, H⟩ := hJ
    have ltbk5_2 := gbk5_2_2.lt
    unfold hermitagelaw8_TableExact.j1 at H
    refine CW.go hp hS ?_
    have h633 : Ow kEntry 45 w8.heap (okL [(w2.heap.size, some w6.heap.size, some 45), (w7.heap.size, some w8.heap.size, some 45)]) (okL []) Abk5_2_2_2 cbk5_2_2_2 lbk5_2_2_2 := fbk5_2_2_2.close
    refine CW.seq ?_
    refine CW.seq ?_
    refine CW.lex [.W, .W] rfl ?_
    refine RW.pure tabOk 2 rfl ?_
    refine RW.done ?_
    refine NW.next ?_
    by_cases c35 : bt6_2 = true
    ·
     rw [if_pos c35] at H
     refine CW.cond_f rfl (not_f (c35)) ?_
     refine CW.skip ?_
     refine NW.next ?_
     refine CW.lex [.L, .M] rfl ?_
     refine RW.load tabOk [.int .i64 ibk5_2_0_2, .int .i64 ibk5_2_1_2, .slice Abk5_2_2_2 lbk5_2_2_2.length cbk5_2_2_2] (gbk5_2_2.at 0) ⟨rfl, rfl, rfl, rfl⟩ rfl rfl rfl rfl ?_
     refine RW.storeBox tabOk gb2_2 [.int .i64 ibk5_2_0_2, .int .i64 ibk5_2_1_2, .slice Abk5_2_2_2 lbk5_2_2_2.length cbk5_2_2_2] ⟨rfl, rfl, rfl⟩ rfl rfl rfl rfl rfl rfl rfl rfl ?_
     intro w94 x78 h634
     have h635 : Box w94.heap b2 24 [.int .i64 ibk5_2_0_2, .int .i64 ibk5_2_1_2, .slice Abk5_2_2_2 lbk5_2_2_2.length cbk5_2_2_2] := h634
     have sx78 := x78.size
     refine RW.done ?_
     refine NW.norm_block (NW.next ?_)
     refine CW.lex [.W, .W, .W] rfl ?_
     refine RW.pure tabOk 3 rfl ?_
     refine RW.done ?_
     have h636 := gF1_2.turnB x78 gb2_2 ⟨.inr (by omega), trivial⟩
     have h637 := gF2_2.turnB x78 gb2_2 ⟨.inr (by omega), trivial⟩
     have h638 := h633.turnB x78 gb2_2 ⟨.inl (show (45 : Nat) ≠ 24 by decide), ⟨.inl (show (45 : Nat) ≠ 24 by decide), trivial⟩⟩ trivial
     have h639 := Ext.turnB x0_2 x78 (by omega)
     have h640 := gb1_2.turnB x78 (by omega)
     exact NW.J fun a ha => ⟨n1, Nat.lt_succ_self n1, (w64 (it4_0 + 1)), ibk5_2_0_2, ibk5_2_1_2, lbk5_2_2_2, Abk5_2_2_2, cbk5_2_2_2, ha.sub ⟨rfl, rfl, rfl, trivial⟩, by omega, h636, h637, (h638.sub ⟨(.inl ⟨by omega, trivial, rfl⟩), ⟨(.inl ⟨by omega, trivial, rfl⟩), trivial⟩⟩ trivial), h639, h640, h635, H⟩
    ·
     rw [if_neg c35] at H
     refine CW.cond_t rfl (not_t (bool_f c35)) ?_
     refine CW.seq ?_
     refine CW.lex [.W] rfl ?_
     refine RW.pure tabOk 1 rfl ?_
     refine RW.done ?_
     refine NW.next ?_
     refine CW.ret ?_
     refine NW.ret_then (NW.ret_block (NW.ret_then (NW.ret_then (NW.ret_block (NW.ret_then ?_)))))
     obtain rfl := Option.some.inj H
     exact NW.ret1 rfl (by rfl) ⟨rfl, x0_2⟩
   ·
    rw [if_neg c3] at H
    refine CW.cond_f rfl (bool_f c3) ?_
    refine CW.exit ?_
    refine NW.exit_then (NW.exit_then (NW.exit_hit ?_))
    refine NW.next ?_
    refine CW.seq ?_
    refine CW.lex [.X, .W] rfl ?_
    obtain ⟨y35, h641, H⟩ := bind_some H
    refine RW.callF (.inl rfl) ent20 ⟨rfl, rfl, rfl, rfl⟩ rfl rfl (hermitagelaw8_wakes.calls k _ _ h641) ?_
    rintro _ w95 ⟨rfl, x79⟩
    refine ⟨_, rfl, x79, ?_⟩
    have sx79 := x79.size
    refine RW.pure tabOk 1 rfl ?_
    refine RW.done ?_
    refine NW.next ?_
    refine CW.ret ?_
    obtain rfl := Option.some.inj H
    have h642 := Ext.trans x0_1 x79
    exact NW.ret1 rfl (by rfl) ⟨rfl, h642⟩

end Go.Proofs.Ytnaajldlloglkaa.W
