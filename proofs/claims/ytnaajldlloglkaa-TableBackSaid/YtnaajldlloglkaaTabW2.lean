/- Walks; printed by a program of the claim. -/
import Derived.Test.YtnaajldlloglkaaTabW1
set_option linter.unusedVariables false
set_option linter.unusedSimpArgs false
namespace Go.Proofs.Ytnaajldlloglkaa.W
open Go.H Go.Proofs
set_option maxHeartbeats 4000000 in
set_option maxRecDepth 100000 in
theorem hermitagelaw8_TableBack.calls (k : Nat) (p0 : hermitagelaw8Script) (A1 : Option Addr) (c_1 : Nat) (A2 : Option Addr) (c_2 : Nat) (r : Bool) (w : World) (hs1 : Sl kEntry w.heap okAll A1 p0.T.List_) (hl1 : p0.T.List_.length ≤ c_1) (hs2 : Sl khermitagelaw8Act w.heap okAll A2 p0.A) (hl2 : p0.A.length ≤ c_2) (H : hermitagelaw8_TableBack.f k p0 = some r) :
    Calls Try.prog 3 #[.agg #[.int .i64 p0.T.Dev, .int .i64 p0.T.Size, .slice A1 p0.T.List_.length c_1, .slice A2 p0.A.length c_2]] w fun e w' => e = .returned (.bool r) ∧ Ext w w' := by
 have h1 : Sl kEntry w.heap (okL [(0, some w.heap.size, none)]) A1 p0.T.List_ := hs1.old _ rfl
 have h2 : Sl khermitagelaw8Act w.heap (okL [(0, some w.heap.size, none)]) A2 p0.A := hs2.old _ rfl
 have x0 : Ext w w := Upd.refl _ w
 unfold hermitagelaw8_TableBack.f at H
 refine calls_start Try.func3 rfl 249 rfl [.agg #[.int .i64 p0.T.Dev, .int .i64 p0.T.Size, .slice A1 p0.T.List_.length c_1, .slice A2 p0.A.length c_2]] rfl ?_
 refine CW.seq ?_
 refine CW.lex [.X, .W] rfl ?_
 refine RW.box (cs := [.int .i64 p0.T.Dev, .int .i64 p0.T.Size, .slice A1 p0.T.List_.length c_1, .slice A2 p0.A.length c_2]) (.inl rfl) ⟨rfl, rfl, rfl, rfl⟩ rfl rfl rfl ?_
 intro b1 w1 x1 l1 h3
 have sx1 := x1.size
 have ltb1 := h3.lt
 refine RW.pure tabOk 1 rfl ?_
 refine RW.done ?_
 refine NW.next ?_
 refine CW.seq ?_
 refine CW.seq ?_
 refine CW.lex [.L, .X] rfl ?_
 refine RW.load tabOk [.int .i64 p0.T.Dev, .int .i64 p0.T.Size, .slice A1 p0.T.List_.length c_1, .slice A2 p0.A.length c_2] (h3.at 0) ⟨rfl, rfl, rfl, rfl⟩ rfl rfl rfl rfl ?_
 have h4 := h1.ext x1
 have h5 := h2.ext x1
 obtain ⟨y1, h6, H⟩ := bind_some H
 refine RW.callF (.inl rfl) ent10 ⟨rfl, rfl, rfl, rfl⟩ rfl rfl (hermitagelaw8_Heavy.calls p0 A1 c_1 A2 c_2 _ _ h4.all hl1 h5.all hl2 h6) ?_
 rintro _ w2 ⟨rfl, x2⟩
 refine ⟨_, rfl, x2, ?_⟩
 have sx2 := x2.size
 refine RW.done ?_
 refine NW.next ?_
 by_cases c1 : y1 = true
 ·
  rw [if_pos c1] at H
  refine CW.cond_t rfl (c1) ?_
  refine CW.seq ?_
  refine CW.lex [.W] rfl ?_
  refine RW.pure tabOk 1 rfl ?_
  refine RW.done ?_
  refine NW.next ?_
  refine CW.ret ?_
  refine NW.ret_then ?_
  obtain rfl := Option.some.inj H
  have h7 := Ext.trans (Ext.trans x0 x1) x2
  exact NW.ret1 rfl (by rfl) ⟨rfl, h7⟩
 ·
  rw [if_neg c1] at H
  refine CW.cond_f rfl (bool_f c1) ?_
  refine CW.skip ?_
  refine NW.next ?_
  refine CW.seq ?_
  refine CW.lex [.W, .W, .L, .X, .W, .W] rfl ?_
  refine RW.pure tabOk 2 rfl ?_
  have h8 := h3.ext x2
  refine RW.load tabOk [.int .i64 p0.T.Size] ((h8.at 1).take 1 rfl) ⟨rfl, rfl, rfl, rfl⟩ rfl rfl rfl rfl ?_
  obtain ⟨y2, h9, H⟩ := bind_some H
  refine RW.callF (.inl rfl) ent11 ⟨rfl, rfl, rfl, rfl⟩ rfl rfl (hermitagelaw0_Within.calls p0.T.Size 64 _ _ h9) ?_
  rintro _ w3 ⟨rfl, x3⟩
  refine ⟨_, rfl, x3, ?_⟩
  have sx3 := x3.size
  refine RW.pure tabOk 2 rfl ?_
  refine RW.done ?_
  refine NW.next ?_
  refine CW.seq ?_
  refine CW.lex [.W, .W, .X, .M] rfl ?_
  refine RW.pure tabOk 2 rfl ?_
  refine RW.alloc tabOk (.inl rfl) ⟨rfl, rfl, rfl, rfl⟩ rfl rfl ?_
  intro b2 w4 x4 l2 h10
  have sx4 := x4.size
  have ltb2 := h10.lt
  refine RW.storeBox tabOk h10 [.int .i64 1, .int .i64 (w64 (1 + y2)), .slice none 0 0] ⟨rfl, rfl, rfl⟩ rfl rfl rfl rfl rfl rfl rfl rfl ?_
  intro w5 x5 h11
  have h12 : Box w5.heap b2 24 [.int .i64 1, .int .i64 (w64 (1 + y2)), .slice none 0 0] := h11
  have sx5 := x5.size
  refine RW.done ?_
  refine NW.next ?_
  refine CW.seq ?_
  refine CW.lex [.W, .X, .W] rfl ?_
  refine RW.pure tabOk 1 rfl ?_
  obtain ⟨g1, H⟩ := guard_some H
  refine RW.makeSlice (d := kPtr) (z0 := (⟨0, 0⟩ : Ptr)) tabOk g1.1 g1.2 (.inl rfl) ⟨rfl, rfl, rfl, rfl⟩ rfl rfl rfl rfl rfl rfl (fun _ => (kPtr_mk (⟨0, 0⟩ : Ptr))) rfl rfl ?_
  intro b3 w6 x6 l3 h13
  have sx6 := x6.size
  refine RW.pure tabOk 1 rfl ?_
  refine RW.done ?_
  refine NW.next ?_
  refine CW.seq ?_
  refine CW.lex [.W, .X, .W] rfl ?_
  refine RW.pure tabOk 1 rfl ?_
  obtain ⟨g2, H⟩ := guard_some H
  refine RW.makeSlice (d := Kd.bool) (z0 := false) tabOk g2.1 g2.2 (.inl rfl) ⟨rfl, rfl, rfl, rfl⟩ rfl rfl rfl rfl rfl rfl (fun _ => rfl) rfl rfl ?_
  intro b4 w7 x7 l4 h14
  have sx7 := x7.size
  refine RW.pure tabOk 1 rfl ?_
  refine RW.done ?_
  refine NW.next ?_
  refine CW.seq ?_
  refine CW.lex [.W] rfl ?_
  refine RW.pure tabOk 1 rfl ?_
  refine RW.done ?_
  refine NW.next ?_
  refine CW.seqJ (fun a w8 => ∃ (lt5_0 : List Ptr) (At5_0 : Option Addr) (ct5_0 : Nat) (lt6_0 : List Bool) (At6_0 : Option Addr) (ct6_0 : Nat) (ib2_0_0 : Int) (ib2_1_0 : Int) (lb2_2_0 : List Entry) (Ab2_2_0 : Option Addr) (cb2_2_0 : Nat), Sat 249 [(3, .int .i64 (w64 (1 + y2))), (4, .pointer (some ⟨b2, 0, none⟩)), (5, .slice At5_0 lt5_0.length ct5_0), (6, .slice At6_0 lt6_0.length ct6_0)] a ∧ w7.heap.size ≤ w8.heap.size ∧ Ow kPtr 33 w8.heap (okL [(w5.heap.size, some w6.heap.size, some 33)]) (okL []) At5_0 ct5_0 lt5_0 ∧ Ow Kd.bool 4 w8.heap (okL [(w6.heap.size, some w7.heap.size, some 4)]) (okL []) At6_0 ct6_0 lt6_0 ∧ Ow kEntry 45 w8.heap (okL [(w7.heap.size, none, some 45)]) (okL []) Ab2_2_0 cb2_2_0 lb2_2_0 ∧ Ext w w8 ∧ Box w8.heap b2 24 [.int .i64 ib2_0_0, .int .i64 ib2_1_0, .slice Ab2_2_0 lb2_2_0.length cb2_2_0] ∧ hermitagelaw8_TableBack.j0 k y2 lt5_0 lt6_0 ib2_0_0 ib2_1_0 lb2_2_0 = some r) ?_ ?_
  ·
   refine CW.seq ?_
   refine CW.lex [.W] rfl ?_
   refine RW.pure tabOk 1 rfl ?_
   refine RW.done ?_
   refine NW.next ?_
   refine CW.block ?_
   refine CW.loop (fun n1 a w9 => ∃ (lt5_1 : List Ptr) (At5_1 : Option Addr) (ct5_1 : Nat) (lt6_1 : List Bool) (At6_1 : Option Addr) (ct6_1 : Nat) (it7_1 : Int) (it8_1 : Int) (ib2_0_1 : Int) (ib2_1_1 : Int) (lb2_2_1 : List Entry) (Ab2_2_1 : Option Addr) (cb2_2_1 : Nat), Sat 249 [(1, .pointer (some ⟨b1, 0, none⟩)), (3, .int .i64 (w64 (1 + y2))), (4, .pointer (some ⟨b2, 0, none⟩)), (5, .slice At5_1 lt5_1.length ct5_1), (6, .slice At6_1 lt6_1.length ct6_1), (7, .int .i64 it7_1), (8, .int .i64 it8_1)] a ∧ w7.heap.size ≤ w9.heap.size ∧ Ow kPtr 33 w9.heap (okL [(w5.heap.size, some w6.heap.size, some 33)]) (okL []) At5_1 ct5_1 lt5_1 ∧ Ow Kd.bool 4 w9.heap (okL [(w6.heap.size, some w7.heap.size, some 4)]) (okL []) At6_1 ct6_1 lt6_1 ∧ Sl kEntry w9.heap (okL [(0, some w.heap.size, none)]) A1 p0.T.List_ ∧ Sl khermitagelaw8Act w9.heap (okL [(0, some w.heap.size, none)]) A2 p0.A ∧ Ow kEntry 45 w9.heap (okL [(w7.heap.size, none, some 45)]) (okL []) Ab2_2_1 cb2_2_1 lb2_2_1 ∧ Ext w w9 ∧ Box w9.heap b1 27 [.int .i64 p0.T.Dev, .int .i64 p0.T.Size, .slice A1 p0.T.List_.length c_1, .slice A2 p0.A.length c_2] ∧ Box w9.heap b2 24 [.int .i64 ib2_0_1, .int .i64 ib2_1_1, .slice Ab2_2_1 lb2_2_1.length cb2_2_1] ∧ hermitagelaw8_TableBack.l0 p0 k y2 n1 lt5_1 lt6_1 it7_1 it8_1 ib2_0_1 ib2_1_1 lb2_2_1 = some r) k ?_ ?_
   have h15 := h13.ext x7
   have h16 := (((((h4.ext x2).ext x3).ext x4).turnB x5 h10 ⟨.inr (by omega), trivial⟩).ext x6).ext x7
   have h17 := (((((h5.ext x2).ext x3).ext x4).turnB x5 h10 ⟨.inr (by omega), trivial⟩).ext x6).ext x7
   have h18 := Ext.trans (Ext.trans (Ext.turnB (Ext.trans (Ext.trans (Ext.trans (Ext.trans x0 x1) x2) x3) x4) x5 (by omega)) x6) x7
   have h19 := ((((h8.ext x3).ext x4).turnB x5 (by omega)).ext x6).ext x7
   have h20 := (h12.ext x6).ext x7
   · exact fun a ha => ⟨(List.replicate (w64 (1 + y2)).toNat (⟨0, 0⟩ : Ptr)), (some ⟨b3, 0, none⟩), ((w64 (1 + y2)).toNat), (List.replicate (w64 (1 + y2)).toNat false), (some ⟨b4, 0, none⟩), ((w64 (1 + y2)).toNat), 0, 0, 1, (w64 (1 + y2)), ([] : List Entry), none, 0, ha.sub ⟨rfl, rfl, rfl, rfl, rfl, rfl, rfl, trivial⟩, by omega, (h15.sub ⟨(.inl ⟨by omega, by omega, rfl⟩), trivial⟩ trivial), (h14.sub ⟨(.inl ⟨by omega, by omega, rfl⟩), trivial⟩ trivial), h16, h17, Ow.nil, h18, h19, h20, H⟩
   intro n1 a w9 hI hp
   obtain ⟨lt5_1, At5_1, ct5_1, lt6_1, At6_1, ct6_1, it7_1, it8_1, ib2_0_1, ib2_1_1, lb2_2_1, Ab2_2_1, cb2_2_1, hS, hle, ft5_1, ft6_1, gF1_1, gF2_1, fb2_2_1, x0_1, gb1_1, gb2_1, H⟩ := hI
   cases n1 with
   | zero => cases H
   | succ n1 =>
    rw [hermitagelaw8_TableBack.l0] at H
    refine CW.go hp hS ?_
    have h21 : Ow kEntry 45 w9.heap (okL [(w7.heap.size, some w9.heap.size, some 45)]) (okL []) Ab2_2_1 cb2_2_1 lb2_2_1 := fb2_2_1.close
    refine CW.seq ?_
    refine CW.seqJ (fun a w10 => ∃ (bt46_2 : Bool), Sat 249 [(1, .pointer (some ⟨b1, 0, none⟩)), (3, .int .i64 (w64 (1 + y2))), (4, .pointer (some ⟨b2, 0, none⟩)), (5, .slice At5_1 lt5_1.length ct5_1), (6, .slice At6_1 lt6_1.length ct6_1), (7, .int .i64 it7_1), (8, .int .i64 it8_1), (46, .bool bt46_2)] a ∧ w9.heap.size ≤ w10.heap.size ∧ Sl kEntry w10.heap (okL [(0, some w.heap.size, none)]) A1 p0.T.List_ ∧ Sl khermitagelaw8Act w10.heap (okL [(0, some w.heap.size, none)]) A2 p0.A ∧ Ow kEntry 45 w10.heap (okL [(w7.heap.size, some w9.heap.size, some 45)]) (okL []) Ab2_2_1 cb2_2_1 lb2_2_1 ∧ Ow kPtr 33 w10.heap (okL [(w5.heap.size, some w6.heap.size, some 33)]) (okL []) At5_1 ct5_1 lt5_1 ∧ Ow Kd.bool 4 w10.heap (okL [(w6.heap.size, some w7.heap.size, some 4)]) (okL []) At6_1 ct6_1 lt6_1 ∧ Ext w w10 ∧ Box w10.heap b1 27 [.int .i64 p0.T.Dev, .int .i64 p0.T.Size, .slice A1 p0.T.List_.length c_1, .slice A2 p0.A.length c_2] ∧ Box w10.heap b2 24 [.int .i64 ib2_0_1, .int .i64 ib2_1_1, .slice Ab2_2_1 lb2_2_1.length cb2_2_1] ∧ hermitagelaw8_TableBack.j1 p0 k y2 it7_1 it8_1 lt5_1 lt6_1 ib2_0_1 ib2_1_1 lb2_2_1 (hermitagelaw8_TableBack.l0 p0 k y2 n1) bt46_2 = some r) ?_ ?_
    ·
     refine CW.lex [.W, .W, .L, .W, .W, .W, .W, .W, .W, .W] rfl ?_
     refine RW.pure tabOk 2 rfl ?_
     refine RW.load tabOk [.slice A2 p0.A.length c_2] (gb1_1.at 3) ⟨rfl, rfl, rfl, rfl⟩ rfl rfl rfl rfl ?_
     refine RW.pure tabOk 3 rfl ?_
     by_cases c2 : it8_1 < (p0.A.length : Int)
     ·
      rw [if_pos c2] at H
      refine RW.bool 42 (b' := true) (decide_eq_true c2) rfl ?_
      refine RW.pure tabOk 4 rfl ?_
      refine RW.done ?_
      exact NW.J fun a ha => ⟨(decide (it7_1 < (w64 (1 + y2)))), ha.sub ⟨rfl, rfl, rfl, rfl, rfl, rfl, rfl, rfl, trivial⟩, by omega, gF1_1, gF2_1, h21, ft5_1, ft6_1, x0_1, gb1_1, gb2_1, H⟩
     ·
      rw [if_neg c2] at H
      refine RW.bool 42 (b' := false) (decide_eq_false c2) rfl ?_
      refine RW.pure tabOk 4 rfl ?_
      refine RW.done ?_
      exact NW.J fun a ha => ⟨false, ha.sub ⟨rfl, rfl, rfl, rfl, rfl, rfl, rfl, rfl, trivial⟩, by omega, gF1_1, gF2_1, h21, ft5_1, ft6_1, x0_1, gb1_1, gb2_1, H⟩
    intro a w10 hJ hp
    obtain ⟨bt46_2, hS, hle, gF1_2, gF2_2, gL1_b2_2_2, gL1_t5_2, gL1_t6_2, x0_2, gb1_2, gb2_2, H⟩ := hJ
    unfold hermitagelaw8_TableBack.j1 at H
    refine CW.go hp hS ?_
    by_cases c3 : bt46_2 = true
    ·
     rw [if_pos c3] at H
     refine CW.cond_t rfl (c3) ?_
     refine CW.skip ?_
     refine NW.next ?_
     refine CW.seq ?_
     refine CW.block ?_
     refine CW.seq ?_
     refine CW.lex [.W, .W, .L, .W, .W, .W, .L, .X, .W, .W] rfl ?_
     refine RW.pure tabOk 2 rfl ?_
     refine RW.load tabOk [.slice A2 p0.A.length c_2] (gb1_2.at 3) ⟨rfl, rfl, rfl, rfl⟩ rfl rfl rfl rfl ?_
     refine RW.pure tabOk 1 rfl ?_
     obtain ⟨g3, H⟩ := guard_some H
     obtain ⟨ad1, e1, a1⟩ := khermitagelaw8Act_at gF2_2 g3.1 g3.2
     refine RW.index tabOk g3.1 g3.2 e1 ⟨rfl, rfl, rfl, rfl⟩ rfl rfl rfl rfl rfl rfl ?_
     refine RW.pure tabOk 1 rfl ?_
     refine RW.load tabOk [.int .i64 ((rd p0.A it8_1).M)] ((a1.fld 2).take 1 rfl) ⟨rfl, rfl, rfl, rfl⟩ rfl rfl rfl rfl ?_
     obtain ⟨y3, h22, H⟩ := bind_some H
     refine RW.callF (.inl rfl) ent11 ⟨rfl, rfl, rfl, rfl⟩ rfl rfl (hermitagelaw0_Within.calls ((rd p0.A it8_1).M) 3 _ _ h22) ?_
     rintro _ w11 ⟨rfl, x8⟩
     refine ⟨_, rfl, x8, ?_⟩
     have sx8 := x8.size
     refine RW.pure tabOk 2 rfl ?_
     refine RW.done ?_
     refine NW.next ?_
     refine CW.seq ?_
     refine CW.seq ?_
     refine CW.lex [.W, .W, .W] rfl ?_
     refine RW.pure tabOk 3 rfl ?_
     refine RW.done ?_
     refine NW.next ?_
     by_cases c4 : (w64 (1 + y2)) ≤ (w64 (it7_1 + y3))
     ·
      rw [if_pos c4] at H
      refine CW.cond_t rfl (decide_eq_true c4) ?_
      refine CW.exit ?_
      refine NW.exit_then (NW.exit_miss rfl (NW.exit_then (NW.exit_then (NW.exit_hit ?_))))
      have h23 := gL1_t5_2.ext x8
      have h24 := gL1_t6_2.ext x8
      have h25 := gL1_b2_2_2.ext x8
      have h26 := Ext.trans x0_2 x8
      have h27 := gb2_2.ext x8
      exact NW.J fun a ha => ⟨lt5_1, At5_1, ct5_1, lt6_1, At6_1, ct6_1, ib2_0_1, ib2_1_1, lb2_2_1, Ab2_2_1, cb2_2_1, ha.sub ⟨rfl, rfl, rfl, rfl, trivial⟩, by omega, (h23.sub ⟨(.inl ⟨by omega, by omega, rfl⟩), trivial⟩ trivial), (h24.sub ⟨(.inl ⟨by omega, by omega, rfl⟩), trivial⟩ trivial), (h25.sub ⟨(.inl ⟨by omega, trivial, rfl⟩), trivial⟩ trivial), h26, h27, H⟩
     ·
      rw [if_neg c4] at H
      refine CW.cond_f rfl (decide_eq_false c4) ?_
      refine CW.skip ?_
      refine NW.next ?_
      refine CW.seqJ (fun a w12 => ∃ (bk9_3 : Nat) (ibk9_3_0_3 : Int) (ibk9_3_1_3 : Int), Sat 249 [(1, .pointer (some ⟨b1, 0, none⟩)), (3, .int .i64 (w64 (1 + y2))), (4, .pointer (some ⟨b2, 0, none⟩)), (5, .slice At5_1 lt5_1.length ct5_1), (6, .slice At6_1 lt6_1.length ct6_1), (7, .int .i64 (w64 (it7_1 + y3))), (8, .int .i64 it8_1), (9, .pointer (some ⟨bk9_3, 0, none⟩))] a ∧ w11.heap.size ≤ w12.heap.size ∧ Sl kEntry w12.heap (okL [(0, some w.heap.size, none)]) A1 p0.T.List_ ∧ Sl khermitagelaw8Act w12.heap (okL [(0, some w.heap.size, none)]) A2 p0.A ∧ Ow kEntry 45 w12.heap (okL [(w7.heap.size, some w9.heap.size, some 45)]) (okL []) Ab2_2_1 cb2_2_1 lb2_2_1 ∧ Ow kPtr 33 w12.heap (okL [(w5.heap.size, some w6.heap.size, some 33)]) (okL []) At5_1 ct5_1 lt5_1 ∧ Ow Kd.bool 4 w12.heap (okL [(w6.heap.size, some w7.heap.size, some 4)]) (okL []) At6_1 ct6_1 lt6_1 ∧ Ext w w12 ∧ Box w12.heap b1 27 [.int .i64 p0.T.Dev, .int .i64 p0.T.Size, .slice A1 p0.T.List_.length c_1, .slice A2 p0.A.length c_2] ∧ Box w12.heap b2 24 [.int .i64 ib2_0_1, .int .i64 ib2_1_1, .slice Ab2_2_1 lb2_2_1.length cb2_2_1] ∧ Box w12.heap bk9_3 33 [.int .i64 ibk9_3_0_3, .int .i64 ibk9_3_1_3] ∧ w11.heap.size ≤ bk9_3 ∧ hermitagelaw8_TableBack.j2 k it7_1 it8_1 lt5_1 lt6_1 ib2_0_1 ib2_1_1 lb2_2_1 y3 (hermitagelaw8_TableBack.l0 p0 k y2 n1) ibk9_3_0_3 ibk9_3_1_3 = some r) ?_ ?_
      ·
       refine CW.ord [0, 1, 0, 7, 15, 31, 63, 127, 0, 0, 512, 0, 3584, 7680, 15872, 32256, 65280, 130943, 262143, 0, 1048575] (ofL [(0, .W), (2, .W), (8, .W), (9, .W), (11, .W), (1, .L), (3, .W), (4, .W), (5, .L), (10, .L), (12, .W), (13, .W), (14, .L), (15, .W), (16, .W)] (.two 6 .X (ofL [(7, .W)] (.two 17 .X (ofL [(18, .W), (19, .X), (20, .M)] .nil) 19 .X (ofL [(17, .X), (18, .W), (20, .M)] .nil))) 19 .X (ofL [(6, .X), (7, .W), (17, .X), (18, .W), (20, .M)] .nil))) mixed (by kernel_rfl) ?_
       intro w13 x9
       have sx9 := x9.size
       refine RW.pure tabOk 5 rfl ?_
       have h28 := (gb1_2.ext x8).ext x9
       refine RW.load tabOk [.slice A2 p0.A.length c_2] (h28.at 3) ⟨rfl, rfl, rfl, rfl⟩ rfl rfl rfl rfl ?_
       obtain ⟨g4, H⟩ := guard_some H
       have h29 := (gF2_2.ext x8).ext x9
       obtain ⟨ad2, e2, a2⟩ := khermitagelaw8Act_at h29 g4.1 g4.2
       refine RW.index tabOk g4.1 g4.2 e2 ⟨rfl, rfl, rfl, rfl⟩ rfl rfl rfl rfl rfl rfl ?_
       refine RW.pure tabOk 1 rfl ?_
       refine RW.load tabOk [.int .i64 ((rd p0.A it8_1).N)] ((a2.fld 1).take 1 rfl) ⟨rfl, rfl, rfl, rfl⟩ rfl rfl rfl rfl ?_
       refine RW.load tabOk [.slice A2 p0.A.length c_2] (h28.at 3) ⟨rfl, rfl, rfl, rfl⟩ rfl rfl rfl rfl ?_
       obtain ⟨g5, H⟩ := guard_some H
       obtain ⟨ad3, e3, a3⟩ := khermitagelaw8Act_at h29 g5.1 g5.2
       refine RW.index tabOk g5.1 g5.2 e3 ⟨rfl, rfl, rfl, rfl⟩ rfl rfl rfl rfl rfl rfl ?_
       refine RW.pure tabOk 1 rfl ?_
       refine RW.load tabOk [.int .i64 ((rd p0.A it8_1).Do)] ((a3.fld 0).take 1 rfl) ⟨rfl, rfl, rfl, rfl⟩ rfl rfl rfl rfl ?_
       refine RW.div (by decide) ⟨rfl, rfl, rfl, rfl⟩ rfl rfl rfl rfl ?_
       refine RW.pure tabOk 1 rfl ?_
       refine RW.two ?_ ?_
       ·
        obtain ⟨y4, h30, H⟩ := bind_some H
        refine RW.callF (.inl rfl) ent11 ⟨rfl, rfl, rfl, rfl⟩ rfl rfl (hermitagelaw0_Within.calls ((rd p0.A it8_1).N) 2 _ _ h30) ?_
        rintro _ w14 ⟨rfl, x10⟩
        refine ⟨_, rfl, x10, ?_⟩
        have sx10 := x10.size
        refine RW.pure tabOk 1 rfl ?_
        refine RW.two ?_ ?_
        ·
         obtain ⟨y5, h31, H⟩ := bind_some H
         refine RW.callF (.inl rfl) ent11 ⟨rfl, rfl, rfl, rfl⟩ rfl rfl (hermitagelaw0_Within.calls (w64 ((w64 (it7_1 + y3)) + (w64 (((rd p0.A it8_1).Do).tdiv 3)))) 64 _ _ h31) ?_
         rintro _ w15 ⟨rfl, x11⟩
         refine ⟨_, rfl, x11, ?_⟩
         have sx11 := x11.size
         refine RW.pure tabOk 1 rfl ?_
         refine RW.alloc tabOk (.inl rfl) ⟨rfl, rfl, rfl, rfl⟩ rfl rfl ?_
         intro b5 w16 x12 l5 h32
         have sx12 := x12.size
         have ltb5 := h32.lt
         refine RW.storeBox tabOk h32 [.int .i64 (w64 (2 + y4)), .int .i64 y5] ⟨rfl, rfl, rfl⟩ rfl rfl rfl rfl rfl rfl rfl rfl ?_
         intro w17 x13 h33
         have h34 : Box w17.heap b5 33 [.int .i64 (w64 (2 + y4)), .int .i64 y5] := h33
         have sx13 := x13.size
         refine RW.done ?_
         have h35 := (((((gF1_2.ext x8).ext x9).ext x10).ext x11).ext x12).turnB x13 h32 ⟨.inr (by omega), trivial⟩
         have h36 := (((h29.ext x10).ext x11).ext x12).turnB x13 h32 ⟨.inr (by omega), trivial⟩
         have h37 := (((((gL1_b2_2_2.ext x8).ext x9).ext x10).ext x11).ext x12).turnB x13 h32 ⟨.inl (show (45 : Nat) ≠ 33 by decide), trivial⟩ trivial
         have h38 := (((((gL1_t5_2.ext x8).ext x9).ext x10).ext x11).ext x12).turnB x13 h32 ⟨.inr (by omega), trivial⟩ trivial
         have h39 := (((((gL1_t6_2.ext x8).ext x9).ext x10).ext x11).ext x12).turnB x13 h32 ⟨.inl (show (4 : Nat) ≠ 33 by decide), trivial⟩ trivial
         have h40 := Ext.turnB (Ext.trans (Ext.trans (Ext.trans (Ext.trans (Ext.trans x0_2 x8) x9) x10) x11) x12) x13 (by omega)
         have h41 := (((h28.ext x10).ext x11).ext x12).turnB x13 (by omega)
         have h42 := (((((gb2_2.ext x8).ext x9).ext x10).ext x11).ext x12).turnB x13 (by omega)
         exact NW.J fun a ha => ⟨b5, (w64 (2 + y4)), y5, ha.sub ⟨rfl, rfl, rfl, rfl, rfl, rfl, rfl, rfl, trivial⟩, by omega, h35, h36, h37, h38, h39, h40, h41, h42, h34, by omega, H⟩
        ·
         refine RW.alloc tabOk (.inl rfl) ⟨rfl, rfl, rfl, rfl⟩ rfl rfl ?_
         intro b5 w15 x11 l5 h31
         have sx11 := x11.size
         have ltb5 := h31.lt
         obtain ⟨y5, h32, H⟩ := bind_some H
         refine RW.callF (.inl rfl) ent11 ⟨rfl, rfl, rfl, rfl⟩ rfl rfl (hermitagelaw0_Within.calls (w64 ((w64 (it7_1 + y3)) + (w64 (((rd p0.A it8_1).Do).tdiv 3)))) 64 _ _ h32) ?_
         rintro _ w16 ⟨rfl, x12⟩
         refine ⟨_, rfl, x12, ?_⟩
         have sx12 := x12.size
         refine RW.pure tabOk 1 rfl ?_
         have h33 := h31.ext x12
         refine RW.storeBox tabOk h33 [.int .i64 (w64 (2 + y4)), .int .i64 y5] ⟨rfl, rfl, rfl⟩ rfl rfl rfl rfl rfl rfl rfl rfl ?_
         intro w17 x13 h34
         have h35 : Box w17.heap b5 33 [.int .i64 (w64 (2 + y4)), .int .i64 y5] := h34
         have sx13 := x13.size
         refine RW.done ?_
         have h36 := (((((gF1_2.ext x8).ext x9).ext x10).ext x11).ext x12).turnB x13 h33 ⟨.inr (by omega), trivial⟩
         have h37 := (((h29.ext x10).ext x11).ext x12).turnB x13 h33 ⟨.inr (by omega), trivial⟩
         have h38 := (((((gL1_b2_2_2.ext x8).ext x9).ext x10).ext x11).ext x12).turnB x13 h33 ⟨.inl (show (45 : Nat) ≠ 33 by decide), trivial⟩ trivial
         have h39 := (((((gL1_t5_2.ext x8).ext x9).ext x10).ext x11).ext x12).turnB x13 h33 ⟨.inr (by omega), trivial⟩ trivial
         have h40 := (((((gL1_t6_2.ext x8).ext x9).ext x10).ext x11).ext x12).turnB x13 h33 ⟨.inl (show (4 : Nat) ≠ 33 by decide), trivial⟩ trivial
         have h41 := Ext.turnB (Ext.trans (Ext.trans (Ext.trans (Ext.trans (Ext.trans x0_2 x8) x9) x10) x11) x12) x13 (by omega)
         have h42 := (((h28.ext x10).ext x11).ext x12).turnB x13 (by omega)
         have h43 := (((((gb2_2.ext x8).ext x9).ext x10).ext x11).ext x12).turnB x13 (by omega)
         exact NW.J fun a ha => ⟨b5, (w64 (2 + y4)), y5, ha.sub ⟨rfl, rfl, rfl, rfl, rfl, rfl, rfl, rfl, trivial⟩, by omega, h36, h37, h38, h39, h40, h41, h42, h43, h35, by omega, H⟩
       ·
        refine RW.alloc tabOk (.inl rfl) ⟨rfl, rfl, rfl, rfl⟩ rfl rfl ?_
        intro b5 w14 x10 l5 h30
        have sx10 := x10.size
        have ltb5 := h30.lt
        obtain ⟨y4, h31, H⟩ := bind_some H
        refine RW.callF (.inl rfl) ent11 ⟨rfl, rfl, rfl, rfl⟩ rfl rfl (hermitagelaw0_Within.calls ((rd p0.A it8_1).N) 2 _ _ h31) ?_
        rintro _ w15 ⟨rfl, x11⟩
        refine ⟨_, rfl, x11, ?_⟩
        have sx11 := x11.size
        refine RW.pure tabOk 1 rfl ?_
        obtain ⟨y5, h32, H⟩ := bind_some H
        refine RW.callF (.inl rfl) ent11 ⟨rfl, rfl, rfl, rfl⟩ rfl rfl (hermitagelaw0_Within.calls (w64 ((w64 (it7_1 + y3)) + (w64 (((rd p0.A it8_1).Do).tdiv 3)))) 64 _ _ h32) ?_
        rintro _ w16 ⟨rfl, x12⟩
        refine ⟨_, rfl, x12, ?_⟩
        have sx12 := x12.size
        refine RW.pure tabOk 1 rfl ?_
        have h33 := (h30.ext x11).ext x12
        refine RW.storeBox tabOk h33 [.int .i64 (w64 (2 + y4)), .int .i64 y5] ⟨rfl, rfl, rfl⟩ rfl rfl rfl rfl rfl rfl rfl rfl ?_
        intro w17 x13 h34
        have h35 : Box w17.heap b5 33 [.int .i64 (w64 (2 + y4)), .int .i64 y5] := h34
        have sx13 := x13.size
        refine RW.done ?_
        have h36 := (((((gF1_2.ext x8).ext x9).ext x10).ext x11).ext x12).turnB x13 h33 ⟨.inr (by omega), trivial⟩
        have h37 := (((h29.ext x10).ext x11).ext x12).turnB x13 h33 ⟨.inr (by omega), trivial⟩
        have h38 := (((((gL1_b2_2_2.ext x8).ext x9).ext x10).ext x11).ext x12).turnB x13 h33 ⟨.inl (show (45 : Nat) ≠ 33 by decide), trivial⟩ trivial
        have h39 := (((((gL1_t5_2.ext x8).ext x9).ext x10).ext x11).ext x12).turnB x13 h33 ⟨.inr (by omega), trivial⟩ trivial
        have h40 := (((((gL1_t6_2.ext x8).ext x9).ext x10).ext x11).ext x12).turnB x13 h33 ⟨.inl (show (4 : Nat) ≠ 33 by decide), trivial⟩ trivial
        have h41 := Ext.turnB (Ext.trans (Ext.trans (Ext.trans (Ext.trans (Ext.trans x0_2 x8) x9) x10) x11) x12) x13 (by omega)
        have h42 := (((h28.ext x10).ext x11).ext x12).turnB x13 (by omega)
        have h43 := (((((gb2_2.ext x8).ext x9).ext x10).ext x11).ext x12).turnB x13 (by omega)
        exact NW.J fun a ha => ⟨b5, (w64 (2 + y4)), y5, ha.sub ⟨rfl, rfl, rfl, rfl, rfl, rfl, rfl, rfl, trivial⟩, by omega, h36, h37, h38, h39, h40, h41, h42, h43, h35, by omega, H⟩
      intro a w12 hJ hp
      obtain ⟨bk9_3, ibk9_3_0_3, ibk9_3_1_3, hS, hle, gF1_3, gF2_3, gL1_b2_2_3, gL1_t5_3, gL1_t6_3, x0_3, gb1_3, gb2_3, gbk9_3_3, lobk9_3, H⟩ := hJ
      have ltbk9_3 := gbk9_3_3.lt
      unfold hermitagelaw8_TableBack.j2 at H
      refine CW.go hp hS ?_
      refine CW.seq ?_
      refine CW.lex [.L, .W, .L, .X, .W, .W, .W, .X, .M, .W] rfl ?_
      refine RW.load tabOk [.int .i64 ib2_0_1, .int .i64 ib2_1_1, .slice Ab2_2_1 lb2_2_1.length cb2_2_1] (gb2_3.at 0) ⟨rfl, rfl, rfl, rfl⟩ rfl rfl rfl rfl ?_
      refine RW.pure tabOk 1 rfl ?_
      refine RW.load tabOk [.int .i64 ibk9_3_0_3, .int .i64 ibk9_3_1_3] (gbk9_3_3.at 0) ⟨rfl, rfl, rfl, rfl⟩ rfl rfl rfl rfl ?_
      obtain ⟨y6, h44, H⟩ := bind_some H
      refine RW.callF (.inl rfl) ent12 ⟨rfl, rfl, rfl, rfl⟩ rfl rfl (table_Add.calls k (⟨ib2_0_1, ib2_1_1, lb2_2_1⟩ : Table) Ab2_2_1 cb2_2_1 (w64 (it7_1 + y3)) (⟨ibk9_3_0_3, ibk9_3_1_3⟩ : Ptr) _ _ gL1_b2_2_3.all gL1_b2_2_3.len h44) ?_
      rintro _ w18 ⟨A3, c_3, rfl, x14, h45⟩
      refine ⟨_, rfl, x14, ?_⟩
      have sx14 := x14.size
      have h46 : Ow kEntry 45 w18.heap (okL [(w12.heap.size, some w18.heap.size, some 45)]) (okL []) A3 c_3 y6.1.List_ := h45.close
      refine RW.pure tabOk 3 rfl ?_
      refine RW.alloc tabOk (.inl rfl) ⟨rfl, rfl, rfl, rfl⟩ rfl rfl ?_
      intro b6 w19 x15 l6 h47
      have sx15 := x15.size
      have ltb6 := h47.lt
      refine RW.storeBox tabOk h47 [.int .i64 y6.1.Dev, .int .i64 y6.1.Size, .slice A3 y6.1.List_.length c_3] ⟨rfl, rfl, rfl⟩ rfl rfl rfl rfl rfl rfl rfl rfl ?_
      intro w20 x16 h48
      have h49 : Box w20.heap b6 24 [.int .i64 y6.1.Dev, .int .i64 y6.1.Size, .slice A3 y6.1.List_.length c_3] := h48
      have sx16 := x16.size
      refine RW.pure tabOk 1 rfl ?_
      refine RW.done ?_
      refine NW.next ?_
      refine CW.seq ?_
      refine CW.seq ?_
      refine CW.lex [.W, .X, .W] rfl ?_
      refine RW.pure tabOk 1 rfl ?_
      obtain ⟨y7, h50, H⟩ := bind_some H
      refine RW.callF (.inl rfl) ent13 ⟨rfl, rfl, rfl, rfl⟩ rfl rfl (hermitagelaw8_num.calls y6.2 _ _ h50) ?_
      rintro _ w21 ⟨rfl, x17⟩
      refine ⟨_, rfl, x17, ?_⟩
      have sx17 := x17.size
      refine RW.pure tabOk 1 rfl ?_
      refine RW.done ?_
      refine NW.next ?_
      by_cases c5 : y7 = 0
      ·
       rw [if_pos c5] at H
       refine CW.cond_f rfl (bne_f c5) ?_
       refine CW.skip ?_
       refine NW.next ?_
       refine CW.seq ?_
       refine CW.lex [.L, .M] rfl ?_
       have h51 := h49.ext x17
       refine RW.load tabOk [.int .i64 y6.1.Dev, .int .i64 y6.1.Size, .slice A3 y6.1.List_.length c_3] (h51.at 0) ⟨rfl, rfl, rfl, rfl⟩ rfl rfl rfl rfl ?_
       have h52 := (((gb2_3.ext x14).ext x15).turnB x16 (by omega)).ext x17
       refine RW.storeBox tabOk h52 [.int .i64 y6.1.Dev, .int .i64 y6.1.Size, .slice A3 y6.1.List_.length c_3] ⟨rfl, rfl, rfl⟩ rfl rfl rfl rfl rfl rfl rfl rfl ?_
       intro w22 x18 h53
       have h54 : Box w22.heap b2 24 [.int .i64 y6.1.Dev, .int .i64 y6.1.Size, .slice A3 y6.1.List_.length c_3] := h53
       have sx18 := x18.size
       refine RW.done ?_
       refine NW.next ?_
       refine CW.seq ?_
       refine CW.lex [.W, .W, .W, .W, .L, .W, .M, .W, .M] rfl ?_
       refine RW.pure tabOk 4 rfl ?_
       have h55 := ((((gbk9_3_3.ext x14).ext x15).turnB x16 (by omega)).ext x17).turnB x18 (by omega)
       refine RW.load tabOk [.int .i64 ibk9_3_0_3, .int .i64 ibk9_3_1_3] (h55.at 0) ⟨rfl, rfl, rfl, rfl⟩ rfl rfl rfl rfl ?_
       obtain ⟨g6, H⟩ := guard_some H
       have h56 := ((((gL1_t5_3.ext x14).ext x15).turnB x16 h47 ⟨.inl (show (33 : Nat) ≠ 24 by decide), trivial⟩ trivial).ext x17).turnB x18 h52 ⟨.inl (show (33 : Nat) ≠ 24 by decide), trivial⟩ trivial
       obtain ⟨ad4, e4, a4⟩ := kPtr_at h56.slL g6.1 g6.2
       refine RW.index tabOk g6.1 g6.2 e4 ⟨rfl, rfl, rfl, rfl⟩ rfl rfl rfl rfl rfl rfl ?_
       refine RW.storeElL0 (y := (⟨ibk9_3_0_3, ibk9_3_1_3⟩ : Ptr)) (lv := []) tabOk h56 (j := (w64 (it7_1 + y3)).toNat) (by have := g6; omega) default [.int .i64 ibk9_3_0_3, .int .i64 ibk9_3_1_3] (fun cs ok' hr => by obtain rfl := kPtr_open hr; exact ⟨by simp, kPtr_mk (⟨ibk9_3_0_3, ibk9_3_1_3⟩ : Ptr)⟩) trivial ⟨rfl, rfl, rfl⟩ rfl rfl e4 rfl rfl rfl rfl rfl ?_
       intro w23 x19 h57
       have sx19 := x19.size
       have h58 := h57.sub (l' := [(w5.heap.size, some w6.heap.size, some 33)]) (li' := []) ⟨(.inl ⟨by omega, by omega, rfl⟩), trivial⟩ trivial
       refine RW.tell 5 (v' := .slice At5_1 (lt5_1.set (w64 (it7_1 + y3)).toNat (⟨ibk9_3_0_3, ibk9_3_1_3⟩ : Ptr)).length ct5_1) (by simp only [List.length_set]) rfl ?_
       obtain ⟨g7, H⟩ := guard_some H
       have h59 := (((((gL1_t6_3.ext x14).ext x15).turnB x16 h47 ⟨.inl (show (4 : Nat) ≠ 24 by decide), trivial⟩ trivial).ext x17).turnB x18 h52 ⟨.inl (show (4 : Nat) ≠ 24 by decide), trivial⟩ trivial).turnL x19 ⟨⟨.inl (show (4 : Nat) ≠ 33 by decide), trivial⟩, trivial⟩ trivial
       obtain ⟨ad5, e5, a5⟩ := at_bool h59.slL g7.1 g7.2
       refine RW.index tabOk g7.1 g7.2 e5 ⟨rfl, rfl, rfl, rfl⟩ rfl rfl rfl rfl rfl rfl ?_
       refine RW.storeElL0 (y := true) (lv := []) tabOk h59 (j := (w64 (it7_1 + y3)).toNat) (by have := g7; omega) default [.bool true] (fun cs ok' hr => by cases hr; exact ⟨by simp, rfl⟩) trivial ⟨rfl, rfl, rfl⟩ rfl rfl e5 rfl rfl rfl rfl rfl ?_
       intro w24 x20 h60
       have sx20 := x20.size
       have h61 := h60.sub (l' := [(w6.heap.size, some w7.heap.size, some 4)]) (li' := []) ⟨(.inl ⟨by omega, by omega, rfl⟩), trivial⟩ trivial
       refine RW.tell 6 (v' := .slice At6_1 (lt6_1.set (w64 (it7_1 + y3)).toNat true).length ct6_1) (by simp only [List.length_set]) rfl ?_
       refine RW.done ?_
       refine NW.next ?_
       refine CW.lex [.W, .W, .W] rfl ?_
       refine RW.pure tabOk 3 rfl ?_
       refine RW.done ?_
       refine NW.norm_block (NW.next ?_)
       refine CW.lex [.W, .W, .W] rfl ?_
       refine RW.pure tabOk 3 rfl ?_
       refine RW.done ?_
       have h62 := h58.turnL x20 ⟨⟨.inl (show (33 : Nat) ≠ 4 by decide), trivial⟩, trivial⟩ trivial
       have h63 := ((((((gF1_3.ext x14).ext x15).turnB x16 h47 ⟨.inr (by omega), trivial⟩).ext x17).turnB x18 h52 ⟨.inr (by omega), trivial⟩).turnL x19 ⟨⟨.inr (.inl (by omega)), trivial⟩, trivial⟩).turnL x20 ⟨⟨.inr (.inl (by omega)), trivial⟩, trivial⟩
       have h64 := ((((((gF2_3.ext x14).ext x15).turnB x16 h47 ⟨.inr (by omega), trivial⟩).ext x17).turnB x18 h52 ⟨.inr (by omega), trivial⟩).turnL x19 ⟨⟨.inr (.inl (by omega)), trivial⟩, trivial⟩).turnL x20 ⟨⟨.inr (.inl (by omega)), trivial⟩, trivial⟩
       have h65 := (((((h46.ext x15).turnB x16 h47 ⟨.inl (show (45 : Nat) ≠ 24 by decide), trivial⟩ trivial).ext x17).turnB x18 h52 ⟨.inl (show (45 : Nat) ≠ 24 by decide), trivial⟩ trivial).turnL x19 ⟨⟨.inl (show (45 : Nat) ≠ 33 by decide), trivial⟩, trivial⟩ trivial).turnL x20 ⟨⟨.inl (show (45 : Nat) ≠ 4 by decide), trivial⟩, trivial⟩ trivial
       have h66 := Ext.turn (Ext.turn (Ext.turnB (Ext.trans (Ext.turnB (Ext.trans (Ext.trans x0_3 x14) x15) x16 (by omega)) x17) x18 (by omega)) x19 ⟨by omega, trivial⟩) x20 ⟨by omega, trivial⟩
       have h67 := ((((((gb1_3.ext x14).ext x15).turnB x16 (by omega)).ext x17).turnB x18 (by omega)).turnL x19 (.inl (by decide))).turnL x20 (.inl (by decide))
       have h68 := (h54.turnL x19 (.inl (by decide))).turnL x20 (.inl (by decide))
       exact NW.J fun a ha => ⟨n1, Nat.lt_succ_self n1, (lt5_1.set (w64 (it7_1 + y3)).toNat (⟨ibk9_3_0_3, ibk9_3_1_3⟩ : Ptr)), At5_1, ct5_1, (lt6_1.set (w64 (it7_1 + y3)).toNat true), At6_1, ct6_1, (w64 ((w64 (it7_1 + y3)) + 1)), (w64 (it8_1 + 1)), y6.1.Dev, y6.1.Size, y6.1.List_, A3, c_3, ha.sub ⟨rfl, rfl, rfl, rfl, rfl, rfl, rfl, trivial⟩, by omega, (h62.sub ⟨(.inl ⟨by omega, by omega, rfl⟩), trivial⟩ trivial), (h61.sub ⟨(.inl ⟨by omega, by omega, rfl⟩), trivial⟩ trivial), h63, h64, (h65.sub ⟨(.inl ⟨by omega, trivial, rfl⟩), trivial⟩ trivial), h66, h67, h68, H⟩
      ·
       rw [if_neg c5] at H
       refine CW.cond_t rfl (bne_t c5) ?_
       refine CW.seq ?_
       refine CW.lex [.W] rfl ?_
       refine RW.pure tabOk 1 rfl ?_
       refine RW.done ?_
       refine NW.next ?_
       refine CW.ret ?_
       refine NW.ret_then (NW.ret_block (NW.ret_then (NW.ret_then (NW.ret_block (NW.ret_then ?_)))))
       obtain rfl := Option.some.inj H
       have h69 := Ext.trans (Ext.turnB (Ext.trans (Ext.trans x0_3 x14) x15) x16 (by omega)) x17
       exact NW.ret1 rfl (by rfl) ⟨rfl, h69⟩
    ·
     rw [if_neg c3] at H
     refine CW.cond_f rfl (bool_f c3) ?_
     refine CW.exit ?_
     refine NW.exit_then (NW.exit_then (NW.exit_hit ?_))
     exact NW.J fun a ha => ⟨lt5_1, At5_1, ct5_1, lt6_1, At6_1, ct6_1, ib2_0_1, ib2_1_1, lb2_2_1, Ab2_2_1, cb2_2_1, ha.sub ⟨rfl, rfl, rfl, rfl, trivial⟩, by omega, (gL1_t5_2.sub ⟨(.inl ⟨by omega, by omega, rfl⟩), trivial⟩ trivial), (gL1_t6_2.sub ⟨(.inl ⟨by omega, by omega, rfl⟩), trivial⟩ trivial), (gL1_b2_2_2.sub ⟨(.inl ⟨by omega, trivial, rfl⟩), trivial⟩ trivial), x0_2, gb2_2, H⟩
  intro a w8 hJ hp
  obtain ⟨lt5_0, At5_0, ct5_0, lt6_0, At6_0, ct6_0, ib2_0_0, ib2_1_0, lb2_2_0, Ab2_2_0, cb2_2_0, hS, hle, ft5_0, ft6_0, fb2_2_0, x0_0, gb2_0, H⟩ := hJ
  unfold hermitagelaw8_TableBack.j0 at H
  refine CW.go hp hS ?_
  have h70 : Ow kEntry 45 w8.heap (okL [(w7.heap.size, some w8.heap.size, some 45)]) (okL []) Ab2_2_0 cb2_2_0 lb2_2_0 := fb2_2_0.close
  refine CW.seq ?_
  refine CW.lex [.L, .W, .X, .W, .W, .W, .W, .W] rfl ?_
  refine RW.load tabOk [.int .i64 ib2_0_0, .int .i64 ib2_1_0, .slice Ab2_2_0 lb2_2_0.length cb2_2_0] (gb2_0.at 0) ⟨rfl, rfl, rfl, rfl⟩ rfl rfl rfl rfl ?_
  refine RW.pure tabOk 1 rfl ?_
  obtain ⟨y8, h71, H⟩ := bind_some H
  refine RW.callF (.inl rfl) ent14 ⟨rfl, rfl, rfl, rfl⟩ rfl rfl (table_Range.calls k (⟨ib2_0_0, ib2_1_0, lb2_2_0⟩ : Table) Ab2_2_0 cb2_2_0 0 (w64 (1 + y2)) _ _ h70.all h70.len h71) ?_
  rintro _ w25 ⟨A4, c_4, rfl, x21, h72⟩
  refine ⟨_, rfl, x21, ?_⟩
  have sx21 := x21.size
  have h73 : Ow kEntry 45 w25.heap (okL [(w8.heap.size, some w25.heap.size, some 45)]) (okL []) A4 c_4 y8.1 := h72.close
  refine RW.pure tabOk 5 rfl ?_
  refine RW.done ?_
  refine NW.next ?_
  refine CW.seq ?_
  refine CW.seq ?_
  refine CW.lex [.W, .X, .W] rfl ?_
  refine RW.pure tabOk 1 rfl ?_
  obtain ⟨y9, h74, H⟩ := bind_some H
  refine RW.callF (.inl rfl) ent13 ⟨rfl, rfl, rfl, rfl⟩ rfl rfl (hermitagelaw8_num.calls y8.2 _ _ h74) ?_
  rintro _ w26 ⟨rfl, x22⟩
  refine ⟨_, rfl, x22, ?_⟩
  have sx22 := x22.size
  refine RW.pure tabOk 1 rfl ?_
  refine RW.done ?_
  refine NW.next ?_
  by_cases c6 : y9 = 0
  ·
   rw [if_pos c6] at H
   refine CW.cond_f rfl (bne_f c6) ?_
   refine CW.skip ?_
   refine NW.next ?_
   refine CW.seq ?_
   refine CW.lex [.W] rfl ?_
   refine RW.pure tabOk 1 rfl ?_
   refine RW.done ?_
   refine NW.next ?_
   refine CW.seq ?_
   refine CW.seq ?_
   refine CW.lex [.W] rfl ?_
   refine RW.pure tabOk 1 rfl ?_
   refine RW.done ?_
   refine NW.next ?_
   refine CW.block ?_
   refine CW.loop (fun n2 a w27 => ∃ (it14_4 : Int) (it15_4 : Int) (ib2_0_4 : Int) (ib2_1_4 : Int) (lb2_2_4 : List Entry) (Ab2_2_4 : Option Addr) (cb2_2_4 : Nat), Sat 249 [(3, .int .i64 (w64 (1 + y2))), (4, .pointer (some ⟨b2, 0, none⟩)), (5, .slice At5_0 lt5_0.length ct5_0), (6, .slice At6_0 lt6_0.length ct6_0), (12, .slice A4 y8.1.length c_4), (14, .int .i64 it14_4), (15, .int .i64 it15_4)] a ∧ w26.heap.size ≤ w27.heap.size ∧ Ow kEntry 45 w27.heap (okL [(w7.heap.size, none, some 45)]) (okL []) Ab2_2_4 cb2_2_4 lb2_2_4 ∧ Ow kPtr 33 w27.heap (okL [(w5.heap.size, some w6.heap.size, some 33)]) (okL []) At5_0 ct5_0 lt5_0 ∧ Ow Kd.bool 4 w27.heap (okL [(w6.heap.size, some w7.heap.size, some 4)]) (okL []) At6_0 ct6_0 lt6_0 ∧ Ow kEntry 45 w27.heap (okL [(w8.heap.size, some w25.heap.size, some 45)]) (okL []) A4 c_4 y8.1 ∧ Ext w w27 ∧ Box w27.heap b2 24 [.int .i64 ib2_0_4, .int .i64 ib2_1_4, .slice Ab2_2_4 lb2_2_4.length cb2_2_4] ∧ hermitagelaw8_TableBack.l1 k y2 lt5_0 lt6_0 y8 n2 it14_4 it15_4 ib2_0_4 ib2_1_4 lb2_2_4 = some r) k ?_ ?_
   have h75 := (h70.ext x21).ext x22
   have h76 := (ft5_0.ext x21).ext x22
   have h77 := (ft6_0.ext x21).ext x22
   have h78 := h73.ext x22
   have h79 := Ext.trans (Ext.trans x0_0 x21) x22
   have h80 := (gb2_0.ext x21).ext x22
   · exact fun a ha => ⟨0, 0, ib2_0_0, ib2_1_0, lb2_2_0, Ab2_2_0, cb2_2_0, ha.sub ⟨rfl, rfl, rfl, rfl, rfl, rfl, rfl, trivial⟩, by omega, (h75.sub ⟨(.inl ⟨by omega, trivial, rfl⟩), trivial⟩ trivial), h76, h77, h78, h79, h80, H⟩
   intro n2 a w27 hI hp
   obtain ⟨it14_4, it15_4, ib2_0_4, ib2_1_4, lb2_2_4, Ab2_2_4, cb2_2_4, hS, hle, fb2_2_4, gL0_t5_4, gL0_t6_4, gF8_4, x0_4, gb2_4, H⟩ := hI
   cases n2 with
   | zero => cases H
   | succ n2 =>
    rw [hermitagelaw8_TableBack.l1] at H
    refine CW.go hp hS ?_
    have h81 : Ow kEntry 45 w27.heap (okL [(w7.heap.size, some w27.heap.size, some 45)]) (okL []) Ab2_2_4 cb2_2_4 lb2_2_4 := fb2_2_4.close
    refine CW.seq ?_
    refine CW.seq ?_
    refine CW.lex [.W, .W, .W] rfl ?_
    refine RW.pure tabOk 3 rfl ?_
    refine RW.done ?_
    refine NW.next ?_
    by_cases c7 : it15_4 < (w64 (1 + y2))
    ·
     rw [if_pos c7] at H
     refine CW.cond_t rfl (decide_eq_true c7) ?_
     refine CW.skip ?_
     refine NW.next ?_
     refine CW.seqJ (fun a w28 => ∃ (it14_5 : Int) (ib2_0_5 : Int) (ib2_1_5 : Int) (lb2_2_5 : List Entry) (Ab2_2_5 : Option Addr) (cb2_2_5 : Nat), Sat 249 [(3, .int .i64 (w64 (1 + y2))), (4, .pointer (some ⟨b2, 0, none⟩)), (5, .slice At5_0 lt5_0.length ct5_0), (6, .slice At6_0 lt6_0.length ct6_0), (12, .slice A4 y8.1.length c_4), (14, .int .i64 it14_5), (15, .int .i64 it15_4)] a ∧ w27.heap.size ≤ w28.heap.size ∧ Ow kEntry 45 w28.heap (okL [(w7.heap.size, some w27.heap.size, some 45), (w27.heap.size, none, some 45)]) (okL []) Ab2_2_5 cb2_2_5 lb2_2_5 ∧ Ow kPtr 33 w28.heap (okL [(w5.heap.size, some w6.heap.size, some 33)]) (okL []) At5_0 ct5_0 lt5_0 ∧ Ow Kd.bool 4 w28.heap (okL [(w6.heap.size, some w7.heap.size, some 4)]) (okL []) At6_0 ct6_0 lt6_0 ∧ Ow kEntry 45 w28.heap (okL [(w8.heap.size, some w25.heap.size, some 45)]) (okL []) A4 c_4 y8.1 ∧ Ext w w28 ∧ Box w28.heap b2 24 [.int .i64 ib2_0_5, .int .i64 ib2_1_5, .slice Ab2_2_5 lb2_2_5.length cb2_2_5] ∧ hermitagelaw8_TableBack.j3 it15_4 (hermitagelaw8_TableBack.l1 k y2 lt5_0 lt6_0 y8 n2) it14_5 ib2_0_5 ib2_1_5 lb2_2_5 = some r) ?_ ?_
     ·
      refine CW.block ?_
      refine CW.seq ?_
      refine CW.lex [.L, .W, .X, .W, .W, .W, .X, .M, .W] rfl ?_
      refine RW.load tabOk [.int .i64 ib2_0_4, .int .i64 ib2_1_4, .slice Ab2_2_4 lb2_2_4.length cb2_2_4] (gb2_4.at 0) ⟨rfl, rfl, rfl, rfl⟩ rfl rfl rfl rfl ?_
      refine RW.pure tabOk 1 rfl ?_
      obtain ⟨y10, h82, H⟩ := bind_some H
      refine RW.callF (.inl rfl) ent15 ⟨rfl, rfl, rfl, rfl⟩ rfl rfl (table_Look.calls k (⟨ib2_0_4, ib2_1_4, lb2_2_4⟩ : Table) Ab2_2_4 cb2_2_4 it15_4 _ _ h81.all h81.len h82) ?_
      rintro _ w29 ⟨rfl, x23⟩
      refine ⟨_, rfl, x23, ?_⟩
      have sx23 := x23.size
      refine RW.pure tabOk 3 rfl ?_
      refine RW.alloc tabOk (.inl rfl) ⟨rfl, rfl, rfl, rfl⟩ rfl rfl ?_
      intro b7 w30 x24 l7 h83
      have sx24 := x24.size
      have ltb7 := h83.lt
      refine RW.storeBox tabOk h83 [.int .i64 y10.1.Dev, .int .i64 y10.1.At] ⟨rfl, rfl, rfl⟩ rfl rfl rfl rfl rfl rfl rfl rfl ?_
      intro w31 x25 h84
      have h85 : Box w31.heap b7 33 [.int .i64 y10.1.Dev, .int .i64 y10.1.At] := h84
      have sx25 := x25.size
      refine RW.pure tabOk 1 rfl ?_
      refine RW.done ?_
      refine NW.next ?_
      refine CW.seq ?_
      refine CW.seqJ (fun a w32 => ∃ (bt141_6 : Bool), Sat 249 [(3, .int .i64 (w64 (1 + y2))), (4, .pointer (some ⟨b2, 0, none⟩)), (5, .slice At5_0 lt5_0.length ct5_0), (6, .slice At6_0 lt6_0.length ct6_0), (12, .slice A4 y8.1.length c_4), (14, .int .i64 it14_4), (15, .int .i64 it15_4), (16, .pointer (some ⟨b7, 0, none⟩)), (141, .bool bt141_6)] a ∧ w31.heap.size ≤ w32.heap.size ∧ Ow kEntry 45 w32.heap (okL [(w7.heap.size, some w27.heap.size, some 45)]) (okL []) Ab2_2_4 cb2_2_4 lb2_2_4 ∧ Ow kPtr 33 w32.heap (okL [(w5.heap.size, some w6.heap.size, some 33)]) (okL []) At5_0 ct5_0 lt5_0 ∧ Ow Kd.bool 4 w32.heap (okL [(w6.heap.size, some w7.heap.size, some 4)]) (okL []) At6_0 ct6_0 lt6_0 ∧ Ow kEntry 45 w32.heap (okL [(w8.heap.size, some w25.heap.size, some 45)]) (okL []) A4 c_4 y8.1 ∧ Ext w w32 ∧ Box w32.heap b2 24 [.int .i64 ib2_0_4, .int .i64 ib2_1_4, .slice Ab2_2_4 lb2_2_4.length cb2_2_4] ∧ Box w32.heap b7 33 [.int .i64 y10.1.Dev, .int .i64 y10.1.At] ∧ hermitagelaw8_TableBack.j4 k lt6_0 y8 it14_4 it15_4 ib2_0_4 ib2_1_4 lb2_2_4 y10 (hermitagelaw8_TableBack.l1 k y2 lt5_0 lt6_0 y8 n2) bt141_6 = some r) ?_ ?_
      ·
       refine CW.ord [0, 1, 3, 0, 0, 24, 56, 127, 255, 511, 511, 2047, 4095, 8191, 16383, 16383, 16383, 114687, 245759, 524287, 1048575, 2097151] (ofL [(0, .W), (3, .W), (4, .W), (5, .W), (6, .L), (1, .X), (2, .W), (7, .W), (8, .W), (9, .W), (10, .W), (11, .W), (12, .L), (13, .W), (15, .W), (16, .W), (17, .W), (14, .L), (18, .L), (19, .W), (20, .W), (21, .W)] .nil) mixed (by kernel_rfl) ?_
       intro w33 x26
       have sx26 := x26.size
       refine RW.pure tabOk 3 rfl ?_
       obtain ⟨g8, H⟩ := guard_some H
       have h86 := (((gL0_t6_4.ext x23).ext x24).turnB x25 h83 ⟨.inl (show (4 : Nat) ≠ 33 by decide), trivial⟩ trivial).ext x26
       obtain ⟨ad6, e6, a6⟩ := at_bool h86.slL g8.1 g8.2
       refine RW.index tabOk g8.1 g8.2 e6 ⟨rfl, rfl, rfl, rfl⟩ rfl rfl rfl rfl rfl rfl ?_
       refine RW.load tabOk [.bool (rd lt6_0 it15_4)] a6 ⟨rfl, rfl, rfl, rfl⟩ rfl rfl rfl rfl ?_
       obtain ⟨y11, h87, H⟩ := bind_some H
       refine RW.callF (.inl rfl) ent13 ⟨rfl, rfl, rfl, rfl⟩ rfl rfl (hermitagelaw8_num.calls y10.2 _ _ h87) ?_
       rintro _ w34 ⟨rfl, x27⟩
       refine ⟨_, rfl, x27, ?_⟩
       have sx27 := x27.size
       refine RW.pure tabOk 3 rfl ?_
       by_cases c8 : ((y11 == 0) == (rd lt6_0 it15_4)) = true
       ·
        rw [if_pos c8] at H
        refine RW.bool 128 (b' := false) (not_f (c8)) rfl ?_
        refine RW.pure tabOk 2 rfl ?_
        obtain ⟨g9, H⟩ := guard_some H
        have h88 := h86.ext x27
        obtain ⟨ad7, e7, a7⟩ := at_bool h88.slL g9.1 g9.2
        refine RW.index tabOk g9.1 g9.2 e7 ⟨rfl, rfl, rfl, rfl⟩ rfl rfl rfl rfl rfl rfl ?_
        refine RW.load tabOk [.bool (rd lt6_0 it15_4)] a7 ⟨rfl, rfl, rfl, rfl⟩ rfl rfl rfl rfl ?_
        refine RW.pure tabOk 1 rfl ?_
        by_cases c9 : (rd lt6_0 it15_4) = true
        ·
         rw [if_pos c9] at H
         refine RW.bool 133 (b' := true) (c9) rfl ?_
         refine RW.pure tabOk 2 rfl ?_
         obtain ⟨g10, H⟩ := guard_some H
         have h89 := ((((gL0_t5_4.ext x23).ext x24).turnB x25 h83 ⟨.inr (by omega), trivial⟩ trivial).ext x26).ext x27
         obtain ⟨ad8, e8, a8⟩ := kPtr_at h89.slL g10.1 g10.2
         refine RW.index tabOk g10.1 g10.2 e8 ⟨rfl, rfl, rfl, rfl⟩ rfl rfl rfl rfl rfl rfl ?_
         have h90 := (h85.ext x26).ext x27
         refine RW.load tabOk [.int .i64 y10.1.Dev, .int .i64 y10.1.At] (h90.at 0) ⟨rfl, rfl, rfl, rfl⟩ rfl rfl rfl rfl ?_
         refine RW.load tabOk [.int .i64 ((rd lt5_0 it15_4).Dev), .int .i64 ((rd lt5_0 it15_4).At)] a8 ⟨rfl, rfl, rfl, rfl⟩ rfl rfl rfl rfl ?_
         refine RW.eqAgg eqgPtr (eqPtr y10.1 (rd lt5_0 it15_4)) ⟨rfl, rfl, rfl, rfl⟩ rfl rfl rfl rfl ?_
         refine RW.pure tabOk 2 rfl ?_
         refine RW.done ?_
         have h91 := ((((h81.ext x23).ext x24).turnB x25 h83 ⟨.inl (show (45 : Nat) ≠ 33 by decide), trivial⟩ trivial).ext x26).ext x27
         have h92 := ((((gF8_4.ext x23).ext x24).turnB x25 h83 ⟨.inl (show (45 : Nat) ≠ 33 by decide), trivial⟩ trivial).ext x26).ext x27
         have h93 := Ext.trans (Ext.trans (Ext.turnB (Ext.trans (Ext.trans x0_4 x23) x24) x25 (by omega)) x26) x27
         have h94 := ((((gb2_4.ext x23).ext x24).turnB x25 (by omega)).ext x26).ext x27
         exact NW.J fun a ha => ⟨(!(decide (y10.1 = (rd lt5_0 it15_4)))), ha.sub ⟨rfl, rfl, rfl, rfl, rfl, rfl, rfl, rfl, rfl, trivial⟩, by omega, h91, h89, h88, h92, h93, h94, h90, H⟩
        ·
         rw [if_neg c9] at H
         refine RW.bool 133 (b' := false) (bool_f c9) rfl ?_
         refine RW.pure tabOk 8 rfl ?_
         refine RW.done ?_
         have h95 := ((((h81.ext x23).ext x24).turnB x25 h83 ⟨.inl (show (45 : Nat) ≠ 33 by decide), trivial⟩ trivial).ext x26).ext x27
         have h96 := ((((gL0_t5_4.ext x23).ext x24).turnB x25 h83 ⟨.inr (by omega), trivial⟩ trivial).ext x26).ext x27
         have h97 := ((((gF8_4.ext x23).ext x24).turnB x25 h83 ⟨.inl (show (45 : Nat) ≠ 33 by decide), trivial⟩ trivial).ext x26).ext x27
         have h98 := Ext.trans (Ext.trans (Ext.turnB (Ext.trans (Ext.trans x0_4 x23) x24) x25 (by omega)) x26) x27
         have h99 := ((((gb2_4.ext x23).ext x24).turnB x25 (by omega)).ext x26).ext x27
         have h100 := (h85.ext x26).ext x27
         exact NW.J fun a ha => ⟨false, ha.sub ⟨rfl, rfl, rfl, rfl, rfl, rfl, rfl, rfl, rfl, trivial⟩, by omega, h95, h96, h88, h97, h98, h99, h100, H⟩
       ·
        rw [if_neg c8] at H
        refine RW.bool 128 (b' := true) (not_t (bool_f c8)) rfl ?_
        refine RW.pure tabOk 13 rfl ?_
        refine RW.done ?_
        have h101 := ((((h81.ext x23).ext x24).turnB x25 h83 ⟨.inl (show (45 : Nat) ≠ 33 by decide), trivial⟩ trivial).ext x26).ext x27
        have h102 := ((((gL0_t5_4.ext x23).ext x24).turnB x25 h83 ⟨.inr (by omega), trivial⟩ trivial).ext x26).ext x27
        have h103 := h86.ext x27
        have h104 := ((((gF8_4.ext x23).ext x24).turnB x25 h83 ⟨.inl (show (45 : Nat) ≠ 33 by decide), trivial⟩ trivial).ext x26).ext x27
        have h105 := Ext.trans (Ext.trans (Ext.turnB (Ext.trans (Ext.trans x0_4 x23) x24) x25 (by omega)) x26) x27
        have h106 := ((((gb2_4.ext x23).ext x24).turnB x25 (by omega)).ext x26).ext x27
        have h107 := (h85.ext x26).ext x27
        exact NW.J fun a ha => ⟨true, ha.sub ⟨rfl, rfl, rfl, rfl, rfl, rfl, rfl, rfl, rfl, trivial⟩, by omega, h101, h102, h103, h104, h105, h106, h107, H⟩
      intro a w32 hJ hp
      obtain ⟨bt141_6, hS, hle, gL4_b2_2_6, gL0_t5_6, gL0_t6_6, gF8_6, x0_6, gb2_6, gb7_6, H⟩ := hJ
      unfold hermitagelaw8_TableBack.j4 at H
      refine CW.go hp hS ?_
      by_cases c10 : bt141_6 = true
      ·
       rw [if_pos c10] at H
       refine CW.cond_t rfl (c10) ?_
       refine CW.seq ?_
       refine CW.lex [.W] rfl ?_
       refine RW.pure tabOk 1 rfl ?_
       refine RW.done ?_
       refine NW.next ?_
       refine CW.ret ?_
       refine NW.ret_then (NW.ret_block (NW.ret_then (NW.ret_then (NW.ret_block (NW.ret_then ?_)))))
       obtain rfl := Option.some.inj H
       exact NW.ret1 rfl (by rfl) ⟨rfl, x0_6⟩
      ·
       rw [if_neg c10] at H
       refine CW.cond_f rfl (bool_f c10) ?_
       refine CW.skip ?_
       refine NW.next ?_
       refine CW.seq ?_
       refine CW.seq ?_
       refine CW.lex [.W, .W, .W, .L, .W] rfl ?_
       refine RW.pure tabOk 2 rfl ?_
       obtain ⟨g11, H⟩ := guard_some H
       obtain ⟨ad9, e9, a9⟩ := at_bool gL0_t6_6.slL g11.1 g11.2
       refine RW.index tabOk g11.1 g11.2 e9 ⟨rfl, rfl, rfl, rfl⟩ rfl rfl rfl rfl rfl rfl ?_
       refine RW.load tabOk [.bool (rd lt6_0 it15_4)] a9 ⟨rfl, rfl, rfl, rfl⟩ rfl rfl rfl rfl ?_
       refine RW.pure tabOk 1 rfl ?_
       refine RW.done ?_
       refine NW.next ?_
       by_cases c11 : (rd lt6_0 it15_4) = true
       ·
        rw [if_pos c11] at H
        refine CW.cond_f rfl (not_f (c11)) ?_
        refine CW.skip ?_
        refine NW.next ?_
        refine CW.seq ?_
        refine CW.block ?_
        refine CW.loop (fun n3 a w35 => ∃ (it14_7 : Int), Sat 249 [(3, .int .i64 (w64 (1 + y2))), (4, .pointer (some ⟨b2, 0, none⟩)), (5, .slice At5_0 lt5_0.length ct5_0), (6, .slice At6_0 lt6_0.length ct6_0), (12, .slice A4 y8.1.length c_4), (14, .int .i64 it14_7), (15, .int .i64 it15_4), (16, .pointer (some ⟨b7, 0, none⟩))] a ∧ w32.heap.size ≤ w35.heap.size ∧ Ow kEntry 45 w35.heap (okL [(w7.heap.size, some w27.heap.size, some 45)]) (okL []) Ab2_2_4 cb2_2_4 lb2_2_4 ∧ Ow kPtr 33 w35.heap (okL [(w5.heap.size, some w6.heap.size, some 33)]) (okL []) At5_0 ct5_0 lt5_0 ∧ Ow Kd.bool 4 w35.heap (okL [(w6.heap.size, some w7.heap.size, some 4)]) (okL []) At6_0 ct6_0 lt6_0 ∧ Ow kEntry 45 w35.heap (okL [(w8.heap.size, some w25.heap.size, some 45)]) (okL []) A4 c_4 y8.1 ∧ Ext w w35 ∧ Box w35.heap b2 24 [.int .i64 ib2_0_4, .int .i64 ib2_1_4, .slice Ab2_2_4 lb2_2_4.length cb2_2_4] ∧ Box w35.heap b7 33 [.int .i64 y10.1.Dev, .int .i64 y10.1.At] ∧ hermitagelaw8_TableBack.l2 k y8 it15_4 ib2_0_4 ib2_1_4 lb2_2_4 y10 (hermitagelaw8_TableBack.l1 k y2 lt5_0 lt6_0 y8 n2) n3 it14_7 = some r) k ?_ ?_
        · exact fun a ha => ⟨it14_4, ha.sub ⟨rfl, rfl, rfl, rfl, rfl, rfl, rfl, rfl, trivial⟩, by omega, gL4_b2_2_6, gL0_t5_6, gL0_t6_6, gF8_6, x0_6, gb2_6, gb7_6, H⟩
        intro n3 a w35 hI hp
        obtain ⟨it14_7, hS, hle, gL4_b2_2_7, gL0_t5_7, gL0_t6_7, gF8_7, x0_7, gb2_7, gb7_7, H⟩ := hI
        cases n3 with
        | zero => cases H
        | succ n3 =>
         rw [hermitagelaw8_TableBack.l2] at H
         refine CW.go hp hS ?_
         refine CW.seq ?_
         refine CW.seqJ (fun a w36 => ∃ (bt165_8 : Bool), Sat 249 [(3, .int .i64 (w64 (1 + y2))), (4, .pointer (some ⟨b2, 0, none⟩)), (5, .slice At5_0 lt5_0.length ct5_0), (6, .slice At6_0 lt6_0.length ct6_0), (12, .slice A4 y8.1.length c_4), (14, .int .i64 it14_7), (15, .int .i64 it15_4), (16, .pointer (some ⟨b7, 0, none⟩)), (165, .bool bt165_8)] a ∧ w35.heap.size ≤ w36.heap.size ∧ Ow kEntry 45 w36.heap (okL [(w7.heap.size, some w27.heap.size, some 45)]) (okL []) Ab2_2_4 cb2_2_4 lb2_2_4 ∧ Ow kPtr 33 w36.heap (okL [(w5.heap.size, some w6.heap.size, some 33)]) (okL []) At5_0 ct5_0 lt5_0 ∧ Ow Kd.bool 4 w36.heap (okL [(w6.heap.size, some w7.heap.size, some 4)]) (okL []) At6_0 ct6_0 lt6_0 ∧ Ow kEntry 45 w36.heap (okL [(w8.heap.size, some w25.heap.size, some 45)]) (okL []) A4 c_4 y8.1 ∧ Ext w w36 ∧ Box w36.heap b2 24 [.int .i64 ib2_0_4, .int .i64 ib2_1_4, .slice Ab2_2_4 lb2_2_4.length cb2_2_4] ∧ Box w36.heap b7 33 [.int .i64 y10.1.Dev, .int .i64 y10.1.At] ∧ hermitagelaw8_TableBack.j5 k y8 it15_4 ib2_0_4 ib2_1_4 lb2_2_4 y10 it14_7 (hermitagelaw8_TableBack.l1 k y2 lt5_0 lt6_0 y8 n2) (hermitagelaw8_TableBack.l2 k y8 it15_4 ib2_0_4 ib2_1_4 lb2_2_4 y10 (hermitagelaw8_TableBack.l1 k y2 lt5_0 lt6_0 y8 n2) n3) bt165_8 = some r) ?_ ?_
         ·
          refine CW.ord [0, 0, 2, 7, 15, 31, 31, 127, 255, 511, 31, 31, 3103, 7199, 15391, 32767, 31, 131071, 262143] (ofL [(0, .W), (1, .W), (2, .W), (3, .W), (4, .W), (5, .W), (6, .W), (7, .W), (8, .W), (10, .W), (11, .W), (12, .W), (13, .W), (16, .W), (9, .L), (14, .L), (15, .W), (17, .W), (18, .W)] .nil) mixed (by kernel_rfl) ?_
          intro w37 x28
          have sx28 := x28.size
          refine RW.pure tabOk 5 rfl ?_
          by_cases c12 : it14_7 < (y8.1.length : Int)
          ·
           rw [if_pos c12] at H
           refine RW.bool 151 (b' := true) (decide_eq_true c12) rfl ?_
           refine RW.pure tabOk 2 rfl ?_
           obtain ⟨g12, H⟩ := guard_some H
           have h108 := gF8_7.ext x28
           obtain ⟨ad10, e10, a10⟩ := kEntry_at h108.slL g12.1 g12.2
           refine RW.index tabOk g12.1 g12.2 e10 ⟨rfl, rfl, rfl, rfl⟩ rfl rfl rfl rfl rfl rfl ?_
           refine RW.pure tabOk 3 rfl ?_
           obtain ⟨g13, H⟩ := guard_some H
           obtain ⟨ad11, e11, a11⟩ := kEntry_at h108.slL g13.1 g13.2
           refine RW.index tabOk g13.1 g13.2 e11 ⟨rfl, rfl, rfl, rfl⟩ rfl rfl rfl rfl rfl rfl ?_
           refine RW.pure tabOk 2 rfl ?_
           refine RW.load tabOk [.int .i64 ((rd y8.1 it14_7).From)] ((a10.fld 0).take 1 rfl) ⟨rfl, rfl, rfl, rfl⟩ rfl rfl rfl rfl ?_
           refine RW.load tabOk [.int .i64 ((rd y8.1 it14_7).Len)] ((a11.fld 1).take 1 rfl) ⟨rfl, rfl, rfl, rfl⟩ rfl rfl rfl rfl ?_
           refine RW.pure tabOk 3 rfl ?_
           refine RW.done ?_
           have h109 := gL4_b2_2_7.ext x28
           have h110 := gL0_t5_7.ext x28
           have h111 := gL0_t6_7.ext x28
           have h112 := Ext.trans x0_7 x28
           have h113 := gb2_7.ext x28
           have h114 := gb7_7.ext x28
           exact NW.J fun a ha => ⟨(decide ((w64 (((rd y8.1 it14_7).From) + ((rd y8.1 it14_7).Len))) ≤ it15_4)), ha.sub ⟨rfl, rfl, rfl, rfl, rfl, rfl, rfl, rfl, rfl, trivial⟩, by omega, h109, h110, h111, h108, h112, h113, h114, H⟩
          ·
           rw [if_neg c12] at H
           refine RW.bool 151 (b' := false) (decide_eq_false c12) rfl ?_
           refine RW.pure tabOk 14 rfl ?_
           refine RW.done ?_
           have h115 := gL4_b2_2_7.ext x28
           have h116 := gL0_t5_7.ext x28
           have h117 := gL0_t6_7.ext x28
           have h118 := gF8_7.ext x28
           have h119 := Ext.trans x0_7 x28
           have h120 := gb2_7.ext x28
           have h121 := gb7_7.ext x28
           exact NW.J fun a ha => ⟨false, ha.sub ⟨rfl, rfl, rfl, rfl, rfl, rfl, rfl, rfl, rfl, trivial⟩, by omega, h115, h116, h117, h118, h119, h120, h121, H⟩
         intro a w36 hJ hp
         obtain ⟨bt165_8, hS, hle, gL4_b2_2_8, gL0_t5_8, gL0_t6_8, gF8_8, x0_8, gb2_8, gb7_8, H⟩ := hJ
         unfold hermitagelaw8_TableBack.j5 at H
         refine CW.go hp hS ?_
         by_cases c13 : bt165_8 = true
         ·
          rw [if_pos c13] at H
          refine CW.cond_t rfl (c13) ?_
          refine CW.skip ?_
          refine NW.next ?_
          refine CW.block ?_
          refine CW.lex [.W, .W, .W] rfl ?_
          refine RW.pure tabOk 3 rfl ?_
          refine RW.done ?_
          refine NW.norm_block ?_
          exact NW.J fun a ha => ⟨n3, Nat.lt_succ_self n3, (w64 (it14_7 + 1)), ha.sub ⟨rfl, rfl, rfl, rfl, rfl, rfl, rfl, rfl, trivial⟩, by omega, gL4_b2_2_8, gL0_t5_8, gL0_t6_8, gF8_8, x0_8, gb2_8, gb7_8, H⟩
         ·
          rw [if_neg c13] at H
          refine CW.cond_f rfl (bool_f c13) ?_
          refine CW.exit ?_
          refine NW.exit_then (NW.exit_then (NW.exit_hit ?_))
          refine NW.next ?_
          refine CW.seq ?_
          refine CW.seqJ (fun a w38 => ∃ (bt203_9 : Bool), Sat 249 [(3, .int .i64 (w64 (1 + y2))), (4, .pointer (some ⟨b2, 0, none⟩)), (5, .slice At5_0 lt5_0.length ct5_0), (6, .slice At6_0 lt6_0.length ct6_0), (12, .slice A4 y8.1.length c_4), (14, .int .i64 it14_7), (15, .int .i64 it15_4), (203, .bool bt203_9)] a ∧ w36.heap.size ≤ w38.heap.size ∧ Ow kEntry 45 w38.heap (okL [(w7.heap.size, some w27.heap.size, some 45)]) (okL []) Ab2_2_4 cb2_2_4 lb2_2_4 ∧ Ow kPtr 33 w38.heap (okL [(w5.heap.size, some w6.heap.size, some 33)]) (okL []) At5_0 ct5_0 lt5_0 ∧ Ow Kd.bool 4 w38.heap (okL [(w6.heap.size, some w7.heap.size, some 4)]) (okL []) At6_0 ct6_0 lt6_0 ∧ Ow kEntry 45 w38.heap (okL [(w8.heap.size, some w25.heap.size, some 45)]) (okL []) A4 c_4 y8.1 ∧ Ext w w38 ∧ Box w38.heap b2 24 [.int .i64 ib2_0_4, .int .i64 ib2_1_4, .slice Ab2_2_4 lb2_2_4.length cb2_2_4] ∧ hermitagelaw8_TableBack.j6 k it15_4 ib2_0_4 ib2_1_4 lb2_2_4 it14_7 (hermitagelaw8_TableBack.l1 k y2 lt5_0 lt6_0 y8 n2) bt203_9 = some r) ?_ ?_
          ·
           refine CW.ord [0, 0, 2, 7, 15, 31, 31, 127, 255, 511, 31, 2047, 4095, 8191, 16383, 16383, 16383, 114687, 245759, 507903, 16383, 16383, 3162111, 7356415, 15745023, 16383, 66076671, 16383, 16383, 402669567, 939540479, 2013282303, 4293935103, 8589918207, 17179869183, 34359738367] (ofL [(0, .W), (1, .W), (2, .W), (3, .W), (4, .W), (5, .W), (6, .W), (7, .W), (8, .W), (10, .W), (9, .L), (11, .W), (12, .W), (13, .W), (15, .W), (16, .W), (17, .W), (18, .W), (20, .W), (21, .W), (22, .W), (23, .W), (25, .W), (27, .W), (28, .W), (29, .W), (30, .W), (14, .L), (19, .L), (24, .L), (26, .W), (31, .L), (32, .W), (33, .W), (34, .W), (35, .W)] .nil) mixed (by kernel_rfl) ?_
           intro w39 x29
           have sx29 := x29.size
           refine RW.pure tabOk 5 rfl ?_
           by_cases c14 : (y8.1.length : Int) ≤ it14_7
           ·
            rw [if_pos c14] at H
            refine RW.bool 172 (b' := true) (decide_eq_true c14) rfl ?_
            refine RW.pure tabOk 31 rfl ?_
            refine RW.done ?_
            have h122 := gL4_b2_2_8.ext x29
            have h123 := gL0_t5_8.ext x29
            have h124 := gL0_t6_8.ext x29
            have h125 := gF8_8.ext x29
            have h126 := Ext.trans x0_8 x29
            have h127 := gb2_8.ext x29
            exact NW.J fun a ha => ⟨true, ha.sub ⟨rfl, rfl, rfl, rfl, rfl, rfl, rfl, rfl, trivial⟩, by omega, h122, h123, h124, h125, h126, h127, H⟩
           ·
            rw [if_neg c14] at H
            refine RW.bool 172 (b' := false) (decide_eq_false c14) rfl ?_
            refine RW.pure tabOk 2 rfl ?_
            obtain ⟨g14, H⟩ := guard_some H
            have h128 := gF8_8.ext x29
            obtain ⟨ad12, e12, a12⟩ := kEntry_at h128.slL g14.1 g14.2
            refine RW.index tabOk g14.1 g14.2 e12 ⟨rfl, rfl, rfl, rfl⟩ rfl rfl rfl rfl rfl rfl ?_
            refine RW.pure tabOk 2 rfl ?_
            refine RW.load tabOk [.int .i64 ((rd y8.1 it14_7).From)] ((a12.fld 0).take 1 rfl) ⟨rfl, rfl, rfl, rfl⟩ rfl rfl rfl rfl ?_
            refine RW.pure tabOk 3 rfl ?_
            by_cases c15 : it15_4 < ((rd y8.1 it14_7).From)
            ·
             rw [if_pos c15] at H
             refine RW.bool 181 (b' := true) (decide_eq_true c15) rfl ?_
             refine RW.pure tabOk 22 rfl ?_
             refine RW.done ?_
             have h129 := gL4_b2_2_8.ext x29
             have h130 := gL0_t5_8.ext x29
             have h131 := gL0_t6_8.ext x29
             have h132 := Ext.trans x0_8 x29
             have h133 := gb2_8.ext x29
             exact NW.J fun a ha => ⟨true, ha.sub ⟨rfl, rfl, rfl, rfl, rfl, rfl, rfl, rfl, trivial⟩, by omega, h129, h130, h131, h128, h132, h133, H⟩
            ·
             rw [if_neg c15] at H
             refine RW.bool 181 (b' := false) (decide_eq_false c15) rfl ?_
             refine RW.pure tabOk 2 rfl ?_
             obtain ⟨g15, H⟩ := guard_some H
             obtain ⟨ad13, e13, a13⟩ := kEntry_at h128.slL g15.1 g15.2
             refine RW.index tabOk g15.1 g15.2 e13 ⟨rfl, rfl, rfl, rfl⟩ rfl rfl rfl rfl rfl rfl ?_
             refine RW.pure tabOk 3 rfl ?_
             obtain ⟨g16, H⟩ := guard_some H
             obtain ⟨ad14, e14, a14⟩ := kEntry_at h128.slL g16.1 g16.2
             refine RW.index tabOk g16.1 g16.2 e14 ⟨rfl, rfl, rfl, rfl⟩ rfl rfl rfl rfl rfl rfl ?_
             refine RW.pure tabOk 4 rfl ?_
             obtain ⟨g17, H⟩ := guard_some H
             obtain ⟨ad15, e15, a15⟩ := kEntry_at h128.slL g17.1 g17.2
             refine RW.index tabOk g17.1 g17.2 e15 ⟨rfl, rfl, rfl, rfl⟩ rfl rfl rfl rfl rfl rfl ?_
             refine RW.pure tabOk 1 rfl ?_
             have h134 := gb7_8.ext x29
             refine RW.load tabOk [.int .i64 y10.1.Dev, .int .i64 y10.1.At] (h134.at 0) ⟨rfl, rfl, rfl, rfl⟩ rfl rfl rfl rfl ?_
             refine RW.load tabOk [.int .i64 ((rd y8.1 it14_7).Dev)] ((a13.fld 2).take 1 rfl) ⟨rfl, rfl, rfl, rfl⟩ rfl rfl rfl rfl ?_
             refine RW.load tabOk [.int .i64 ((rd y8.1 it14_7).To)] ((a14.fld 3).take 1 rfl) ⟨rfl, rfl, rfl, rfl⟩ rfl rfl rfl rfl ?_
             refine RW.pure tabOk 1 rfl ?_
             refine RW.load tabOk [.int .i64 ((rd y8.1 it14_7).From)] ((a15.fld 0).take 1 rfl) ⟨rfl, rfl, rfl, rfl⟩ rfl rfl rfl rfl ?_
             refine RW.pure tabOk 2 rfl ?_
             refine RW.eqAgg eqgPtr (eqPtr y10.1 (⟨(rd y8.1 it14_7).Dev, w64 ((w64 (((rd y8.1 it14_7).To) + it15_4)) - ((rd y8.1 it14_7).From))⟩ : Ptr)) ⟨rfl, rfl, rfl, rfl⟩ rfl rfl rfl rfl ?_
             refine RW.pure tabOk 1 rfl ?_
             refine RW.done ?_
             have h135 := gL4_b2_2_8.ext x29
             have h136 := gL0_t5_8.ext x29
             have h137 := gL0_t6_8.ext x29
             have h138 := Ext.trans x0_8 x29
             have h139 := gb2_8.ext x29
             exact NW.J fun a ha => ⟨(!(decide (y10.1 = (⟨(rd y8.1 it14_7).Dev, w64 ((w64 (((rd y8.1 it14_7).To) + it15_4)) - ((rd y8.1 it14_7).From))⟩ : Ptr)))), ha.sub ⟨rfl, rfl, rfl, rfl, rfl, rfl, rfl, rfl, trivial⟩, by omega, h135, h136, h137, h128, h138, h139, H⟩
          intro a w38 hJ hp
          obtain ⟨bt203_9, hS, hle, gL4_b2_2_9, gL0_t5_9, gL0_t6_9, gF8_9, x0_9, gb2_9, H⟩ := hJ
          unfold hermitagelaw8_TableBack.j6 at H
          refine CW.go hp hS ?_
          by_cases c16 : bt203_9 = true
          ·
           rw [if_pos c16] at H
           refine CW.cond_t rfl (c16) ?_
           refine CW.seq ?_
           refine CW.lex [.W] rfl ?_
           refine RW.pure tabOk 1 rfl ?_
           refine RW.done ?_
           refine NW.next ?_
           refine CW.ret ?_
           refine NW.ret_then (NW.ret_block (NW.ret_then (NW.ret_then (NW.ret_block (NW.ret_then ?_)))))
           obtain rfl := Option.some.inj H
           exact NW.ret1 rfl (by rfl) ⟨rfl, x0_9⟩
          ·
           rw [if_neg c16] at H
           refine CW.cond_f rfl (bool_f c16) ?_
           refine CW.skip ?_
           refine NW.next ?_
           refine CW.seq ?_
           refine CW.lex [.L, .W, .X, .W, .W, .W, .X, .M, .W] rfl ?_
           refine RW.load tabOk [.int .i64 ib2_0_4, .int .i64 ib2_1_4, .slice Ab2_2_4 lb2_2_4.length cb2_2_4] (gb2_9.at 0) ⟨rfl, rfl, rfl, rfl⟩ rfl rfl rfl rfl ?_
           refine RW.pure tabOk 1 rfl ?_
           obtain ⟨y12, h140, H⟩ := bind_some H
           refine RW.callF (.inl rfl) ent16 ⟨rfl, rfl, rfl, rfl⟩ rfl rfl (table_Lose.calls k (⟨ib2_0_4, ib2_1_4, lb2_2_4⟩ : Table) Ab2_2_4 cb2_2_4 it15_4 _ _ gL4_b2_2_9.all gL4_b2_2_9.len h140) ?_
           rintro _ w40 ⟨A5, c_5, rfl, x30, h141⟩
           refine ⟨_, rfl, x30, ?_⟩
           have sx30 := x30.size
           have h142 : Ow kEntry 45 w40.heap (okL [(w38.heap.size, some w40.heap.size, some 45)]) (okL []) A5 c_5 y12.1.List_ := h141.close
           refine RW.pure tabOk 3 rfl ?_
           refine RW.alloc tabOk (.inl rfl) ⟨rfl, rfl, rfl, rfl⟩ rfl rfl ?_
           intro b8 w41 x31 l8 h143
           have sx31 := x31.size
           have ltb8 := h143.lt
           refine RW.storeBox tabOk h143 [.int .i64 y12.1.Dev, .int .i64 y12.1.Size, .slice A5 y12.1.List_.length c_5] ⟨rfl, rfl, rfl⟩ rfl rfl rfl rfl rfl rfl rfl rfl ?_
           intro w42 x32 h144
           have h145 : Box w42.heap b8 24 [.int .i64 y12.1.Dev, .int .i64 y12.1.Size, .slice A5 y12.1.List_.length c_5] := h144
           have sx32 := x32.size
           refine RW.pure tabOk 1 rfl ?_
           refine RW.done ?_
           refine NW.next ?_
           refine CW.seq ?_
           refine CW.seq ?_
           refine CW.lex [.W, .X, .W] rfl ?_
           refine RW.pure tabOk 1 rfl ?_
           obtain ⟨y13, h146, H⟩ := bind_some H
           refine RW.callF (.inl rfl) ent13 ⟨rfl, rfl, rfl, rfl⟩ rfl rfl (hermitagelaw8_num.calls y12.2 _ _ h146) ?_
           rintro _ w43 ⟨rfl, x33⟩
           refine ⟨_, rfl, x33, ?_⟩
           have sx33 := x33.size
           refine RW.pure tabOk 1 rfl ?_
           refine RW.done ?_
           refine NW.next ?_
           by_cases c17 : y13 = 0
           ·
            rw [if_pos c17] at H
            refine CW.cond_f rfl (bne_f c17) ?_
            refine CW.skip ?_
            refine NW.next ?_
            refine CW.lex [.L, .M] rfl ?_
            have h147 := h145.ext x33
            refine RW.load tabOk [.int .i64 y12.1.Dev, .int .i64 y12.1.Size, .slice A5 y12.1.List_.length c_5] (h147.at 0) ⟨rfl, rfl, rfl, rfl⟩ rfl rfl rfl rfl ?_
            have h148 := (((gb2_9.ext x30).ext x31).turnB x32 (by omega)).ext x33
            refine RW.storeBox tabOk h148 [.int .i64 y12.1.Dev, .int .i64 y12.1.Size, .slice A5 y12.1.List_.length c_5] ⟨rfl, rfl, rfl⟩ rfl rfl rfl rfl rfl rfl rfl rfl ?_
            intro w44 x34 h149
            have h150 : Box w44.heap b2 24 [.int .i64 y12.1.Dev, .int .i64 y12.1.Size, .slice A5 y12.1.List_.length c_5] := h149
            have sx34 := x34.size
            refine RW.done ?_
            refine NW.norm_block ?_
            have h151 := (((h142.ext x31).turnB x32 h143 ⟨.inl (show (45 : Nat) ≠ 24 by decide), trivial⟩ trivial).ext x33).turnB x34 h148 ⟨.inl (show (45 : Nat) ≠ 24 by decide), trivial⟩ trivial
            have h152 := ((((gL0_t5_9.ext x30).ext x31).turnB x32 h143 ⟨.inl (show (33 : Nat) ≠ 24 by decide), trivial⟩ trivial).ext x33).turnB x34 h148 ⟨.inl (show (33 : Nat) ≠ 24 by decide), trivial⟩ trivial
            have h153 := ((((gL0_t6_9.ext x30).ext x31).turnB x32 h143 ⟨.inl (show (4 : Nat) ≠ 24 by decide), trivial⟩ trivial).ext x33).turnB x34 h148 ⟨.inl (show (4 : Nat) ≠ 24 by decide), trivial⟩ trivial
            have h154 := ((((gF8_9.ext x30).ext x31).turnB x32 h143 ⟨.inl (show (45 : Nat) ≠ 24 by decide), trivial⟩ trivial).ext x33).turnB x34 h148 ⟨.inl (show (45 : Nat) ≠ 24 by decide), trivial⟩ trivial
            have h155 := Ext.turnB (Ext.trans (Ext.turnB (Ext.trans (Ext.trans x0_9 x30) x31) x32 (by omega)) x33) x34 (by omega)
            exact NW.J fun a ha => ⟨it14_7, y12.1.Dev, y12.1.Size, y12.1.List_, A5, c_5, ha.sub ⟨rfl, rfl, rfl, rfl, rfl, rfl, rfl, trivial⟩, by omega, (h151.sub ⟨(.inr (.inl ⟨by omega, trivial, rfl⟩)), trivial⟩ trivial), h152, h153, h154, h155, h150, H⟩
           ·
            rw [if_neg c17] at H
            refine CW.cond_t rfl (bne_t c17) ?_
            refine CW.seq ?_
            refine CW.lex [.W] rfl ?_
            refine RW.pure tabOk 1 rfl ?_
            refine RW.done ?_
            refine NW.next ?_
            refine CW.ret ?_
            refine NW.ret_then (NW.ret_block (NW.ret_then (NW.ret_then (NW.ret_block (NW.ret_then ?_)))))
            obtain rfl := Option.some.inj H
            have h156 := Ext.trans (Ext.turnB (Ext.trans (Ext.trans x0_9 x30) x31) x32 (by omega)) x33
            exact NW.ret1 rfl (by rfl) ⟨rfl, h156⟩
       ·
        rw [if_neg c11] at H
        refine CW.cond_t rfl (not_t (bool_f c11)) ?_
        refine CW.exit ?_
        refine NW.exit_then (NW.exit_hit ?_)
        exact NW.J fun a ha => ⟨it14_4, ib2_0_4, ib2_1_4, lb2_2_4, Ab2_2_4, cb2_2_4, ha.sub ⟨rfl, rfl, rfl, rfl, rfl, rfl, rfl, trivial⟩, by omega, (gL4_b2_2_6.sub ⟨(.inl ⟨by omega, by omega, rfl⟩), trivial⟩ trivial), gL0_t5_6, gL0_t6_6, gF8_6, x0_6, gb2_6, H⟩
     intro a w28 hJ hp
     obtain ⟨it14_5, ib2_0_5, ib2_1_5, lb2_2_5, Ab2_2_5, cb2_2_5, hS, hle, fb2_2_5, gL0_t5_5, gL0_t6_5, gF8_5, x0_5, gb2_5, H⟩ := hJ
     unfold hermitagelaw8_TableBack.j3 at H
     refine CW.go hp hS ?_
     have h157 : Ow kEntry 45 w28.heap (okL [(w7.heap.size, some w27.heap.size, some 45), (w27.heap.size, some w28.heap.size, some 45)]) (okL []) Ab2_2_5 cb2_2_5 lb2_2_5 := fb2_2_5.close
     refine CW.lex [.W, .W, .W] rfl ?_
     refine RW.pure tabOk 3 rfl ?_
     refine RW.done ?_
     exact NW.J fun a ha => ⟨n2, Nat.lt_succ_self n2, it14_5, (w64 (it15_4 + 1)), ib2_0_5, ib2_1_5, lb2_2_5, Ab2_2_5, cb2_2_5, ha.sub ⟨rfl, rfl, rfl, rfl, rfl, rfl, rfl, trivial⟩, by omega, (h157.sub ⟨(.inl ⟨by omega, trivial, rfl⟩), ⟨(.inl ⟨by omega, trivial, rfl⟩), trivial⟩⟩ trivial), gL0_t5_5, gL0_t6_5, gF8_5, x0_5, gb2_5, H⟩
    ·
     rw [if_neg c7] at H
     refine CW.cond_f rfl (decide_eq_false c7) ?_
     refine CW.exit ?_
     refine NW.exit_then (NW.exit_then (NW.exit_hit ?_))
     refine NW.next ?_
     refine CW.seq ?_
     refine CW.lex [.L, .X, .W, .W, .W, .X, .M, .W] rfl ?_
     refine RW.load tabOk [.int .i64 ib2_0_4, .int .i64 ib2_1_4, .slice Ab2_2_4 lb2_2_4.length cb2_2_4] (gb2_4.at 0) ⟨rfl, rfl, rfl, rfl⟩ rfl rfl rfl rfl ?_
     obtain ⟨y14, h158, H⟩ := bind_some H
     refine RW.callF (.inl rfl) ent17 ⟨rfl, rfl, rfl, rfl⟩ rfl rfl (table_Tidy.calls k (⟨ib2_0_4, ib2_1_4, lb2_2_4⟩ : Table) Ab2_2_4 cb2_2_4 _ _ h81.all h81.len h158) ?_
     rintro _ w45 ⟨A6, c_6, rfl, x35, h159⟩
     refine ⟨_, rfl, x35, ?_⟩
     have sx35 := x35.size
     have h160 : Ow kEntry 45 w45.heap (okL [(w27.heap.size, some w45.heap.size, some 45)]) (okL []) A6 c_6 y14.1.List_ := h159.close
     refine RW.pure tabOk 3 rfl ?_
     refine RW.alloc tabOk (.inl rfl) ⟨rfl, rfl, rfl, rfl⟩ rfl rfl ?_
     intro b9 w46 x36 l9 h161
     have sx36 := x36.size
     have ltb9 := h161.lt
     refine RW.storeBox tabOk h161 [.int .i64 y14.1.Dev, .int .i64 y14.1.Size, .slice A6 y14.1.List_.length c_6] ⟨rfl, rfl, rfl⟩ rfl rfl rfl rfl rfl rfl rfl rfl ?_
     intro w47 x37 h162
     have h163 : Box w47.heap b9 24 [.int .i64 y14.1.Dev, .int .i64 y14.1.Size, .slice A6 y14.1.List_.length c_6] := h162
     have sx37 := x37.size
     refine RW.pure tabOk 1 rfl ?_
     refine RW.done ?_
     refine NW.next ?_
     refine CW.seq ?_
     refine CW.lex [.L, .X, .W, .W, .W, .W, .W] rfl ?_
     have h164 := ((gb2_4.ext x35).ext x36).turnB x37 (by omega)
     refine RW.load tabOk [.int .i64 ib2_0_4, .int .i64 ib2_1_4, .slice Ab2_2_4 lb2_2_4.length cb2_2_4] (h164.at 0) ⟨rfl, rfl, rfl, rfl⟩ rfl rfl rfl rfl ?_
     have h165 := ((h81.ext x35).ext x36).turnB x37 h161 ⟨.inl (show (45 : Nat) ≠ 24 by decide), trivial⟩ trivial
     obtain ⟨y15, h166, H⟩ := bind_some H
     refine RW.callF (.inl rfl) ent18 ⟨rfl, rfl, rfl, rfl⟩ rfl rfl (table_Live.calls k (⟨ib2_0_4, ib2_1_4, lb2_2_4⟩ : Table) Ab2_2_4 cb2_2_4 _ _ h165.all h165.len h166) ?_
     rintro _ w48 ⟨rfl, x38⟩
     refine ⟨_, rfl, x38, ?_⟩
     have sx38 := x38.size
     refine RW.pure tabOk 5 rfl ?_
     refine RW.done ?_
     refine NW.next ?_
     refine CW.seq ?_
     refine CW.lex [.W, .X, .W, .W, .W, .X, .W, .W, .W, .W, .W, .W, .W, .W, .L, .W, .W, .W, .W, .L, .X, .W, .W, .X, .W, .W] rfl ?_
     refine RW.pure tabOk 1 rfl ?_
     obtain ⟨y16, h167, H⟩ := bind_some H
     refine RW.callF (.inl rfl) ent13 ⟨rfl, rfl, rfl, rfl⟩ rfl rfl (hermitagelaw8_num.calls y14.2 _ _ h167) ?_
     rintro _ w49 ⟨rfl, x39⟩
     refine ⟨_, rfl, x39, ?_⟩
     have sx39 := x39.size
     refine RW.pure tabOk 2 rfl ?_
     by_cases c18 : y16 = 0
     ·
      rw [if_pos c18] at H
      refine RW.bool 227 (b' := true) (beq_t c18) rfl ?_
      refine RW.pure tabOk 1 rfl ?_
      obtain ⟨y17, h168, H⟩ := bind_some H
      refine RW.callF (.inl rfl) ent13 ⟨rfl, rfl, rfl, rfl⟩ rfl rfl (hermitagelaw8_num.calls y15.2 _ _ h168) ?_
      rintro _ w50 ⟨rfl, x40⟩
      refine ⟨_, rfl, x40, ?_⟩
      have sx40 := x40.size
      refine RW.pure tabOk 3 rfl ?_
      by_cases c19 : y17 = 0
      ·
       rw [if_pos c19] at H
       refine RW.bool 232 (b' := true) (beq_t c19) rfl ?_
       refine RW.pure tabOk 4 rfl ?_
       by_cases c20 : y15.1 = 0
       ·
        rw [if_pos c20] at H
        refine RW.bool 236 (b' := true) (beq_t c20) rfl ?_
        refine RW.pure tabOk 1 rfl ?_
        have h169 := ((h163.ext x38).ext x39).ext x40
        refine RW.load tabOk [.slice A6 y14.1.List_.length c_6] (h169.at 2) ⟨rfl, rfl, rfl, rfl⟩ rfl rfl rfl rfl ?_
        refine RW.pure tabOk 4 rfl ?_
        by_cases c21 : (y14.1.List_.length : Int) = 0
        ·
         rw [if_pos c21] at H
         refine RW.bool 242 (b' := true) (beq_t c21) rfl ?_
         refine RW.load tabOk [.int .i64 y14.1.Dev, .int .i64 y14.1.Size, .slice A6 y14.1.List_.length c_6] (h169.at 0) ⟨rfl, rfl, rfl, rfl⟩ rfl rfl rfl rfl ?_
         have h170 := ((((h160.ext x36).turnB x37 h161 ⟨.inl (show (45 : Nat) ≠ 24 by decide), trivial⟩ trivial).ext x38).ext x39).ext x40
         obtain ⟨y18, h171, H⟩ := bind_some H
         refine RW.callF (.inl rfl) ent19 ⟨rfl, rfl, rfl, rfl⟩ rfl rfl (hermitageref7_Table.calls k y14.1 A6 c_6 _ _ h170.all h170.len h171) ?_
         rintro _ w51 ⟨rfl, x41⟩
         refine ⟨_, rfl, x41, ?_⟩
         have sx41 := x41.size
         refine RW.pure tabOk 2 rfl ?_
         by_cases c22 : y18 = true
         ·
          rw [if_pos c22] at H
          refine RW.bool 246 (b' := true) (c22) rfl ?_
          obtain ⟨y19, h172, H⟩ := bind_some H
          refine RW.callF (.inl rfl) ent20 ⟨rfl, rfl, rfl, rfl⟩ rfl rfl (hermitagelaw8_wakes.calls k _ _ h172) ?_
          rintro _ w52 ⟨rfl, x42⟩
          refine ⟨_, rfl, x42, ?_⟩
          have sx42 := x42.size
          refine RW.pure tabOk 2 rfl ?_
          refine RW.done ?_
          refine NW.next ?_
          refine CW.ret ?_
          obtain rfl := Option.some.inj H
          have h173 := Ext.trans (Ext.trans (Ext.trans (Ext.trans (Ext.trans (Ext.turnB (Ext.trans (Ext.trans x0_4 x35) x36) x37 (by omega)) x38) x39) x40) x41) x42
          exact NW.ret1 rfl (by rfl) ⟨rfl, h173⟩
         ·
          rw [if_neg c22] at H
          refine RW.bool 246 (b' := false) (bool_f c22) rfl ?_
          refine RW.pure tabOk 3 rfl ?_
          refine RW.done ?_
          refine NW.next ?_
          refine CW.ret ?_
          obtain rfl := Option.some.inj H
          have h174 := Ext.trans (Ext.trans (Ext.trans (Ext.trans (Ext.turnB (Ext.trans (Ext.trans x0_4 x35) x36) x37 (by omega)) x38) x39) x40) x41
          exact NW.ret1 rfl (by rfl) ⟨rfl, h174⟩
        ·
         rw [if_neg c21] at H
         refine RW.bool 242 (b' := false) (beq_f c21) rfl ?_
         refine RW.pure tabOk 7 rfl ?_
         refine RW.done ?_
         refine NW.next ?_
         refine CW.ret ?_
         obtain rfl := Option.some.inj H
         have h175 := Ext.trans (Ext.trans (Ext.trans (Ext.turnB (Ext.trans (Ext.trans x0_4 x35) x36) x37 (by omega)) x38) x39) x40
         exact NW.ret1 rfl (by rfl) ⟨rfl, h175⟩
       ·
        rw [if_neg c20] at H
        refine RW.bool 236 (b' := false) (beq_f c20) rfl ?_
        refine RW.pure tabOk 13 rfl ?_
        refine RW.done ?_
        refine NW.next ?_
        refine CW.ret ?_
        obtain rfl := Option.some.inj H
        have h176 := Ext.trans (Ext.trans (Ext.trans (Ext.turnB (Ext.trans (Ext.trans x0_4 x35) x36) x37 (by omega)) x38) x39) x40
        exact NW.ret1 rfl (by rfl) ⟨rfl, h176⟩
      ·
       rw [if_neg c19] at H
       refine RW.bool 232 (b' := false) (beq_f c19) rfl ?_
       refine RW.pure tabOk 17 rfl ?_
       refine RW.done ?_
       refine NW.next ?_
       refine CW.ret ?_
       obtain rfl := Option.some.inj H
       have h177 := Ext.trans (Ext.trans (Ext.trans (Ext.turnB (Ext.trans (Ext.trans x0_4 x35) x36) x37 (by omega)) x38) x39) x40
       exact NW.ret1 rfl (by rfl) ⟨rfl, h177⟩
     ·
      rw [if_neg c18] at H
      refine RW.bool 227 (b' := false) (beq_f c18) rfl ?_
      refine RW.pure tabOk 22 rfl ?_
      refine RW.done ?_
      refine NW.next ?_
      refine CW.ret ?_
      obtain rfl := Option.some.inj H
      have h178 := Ext.trans (Ext.trans (Ext.turnB (Ext.trans (Ext.trans x0_4 x35) x36) x37 (by omega)) x38) x39
      exact NW.ret1 rfl (by rfl) ⟨rfl, h178⟩
  ·
   rw [if_neg c6] at H
   refine CW.cond_t rfl (bne_t c6) ?_
   refine CW.seq ?_
   refine CW.lex [.W] rfl ?_
   refine RW.pure tabOk 1 rfl ?_
   refine RW.done ?_
   refine NW.next ?_
   refine CW.ret ?_
   refine NW.ret_then ?_
   obtain rfl := Option.some.inj H
   have h179 := Ext.trans (Ext.trans x0_0 x21) x22
   exact NW.ret1 rfl (by rfl) ⟨rfl, h179⟩

set_option maxHeartbeats 4000000 in
set_option maxRecDepth 100000 in
theorem hermitageref0_CopyEntries.calls (k : Nat) (A1 : Option Addr) (c_1 : Nat) (p0 : List Entry) (r : (List Entry)) (w : World) (hs1 : Sl kEntry w.heap okAll A1 p0) (hl1 : p0.length ≤ c_1) (H : hermitageref0_CopyEntries.f k p0 = some r) :
    Calls Try.prog 51 #[.slice A1 p0.length c_1] w fun e w' => ∃ (B1 : Option Addr) (d1 : Nat), e = .returned (.slice B1 r.length d1) ∧ Ext w w' ∧ Ow kEntry 45 w'.heap (okL [(w.heap.size, none, some 45)]) (okL []) B1 d1 r := by
 have h1 : Sl kEntry w.heap (okL [(0, some w.heap.size, none)]) A1 p0 := hs1.old _ rfl
 have x0 : Ext w w := Upd.refl _ w
 unfold hermitageref0_CopyEntries.f at H
 refine calls_start Try.func51 rfl 19 rfl [.slice A1 p0.length c_1] rfl ?_
 refine CW.seq ?_
 refine CW.lex [.W] rfl ?_
 refine RW.pure tabOk 1 rfl ?_
 refine RW.done ?_
 refine NW.next ?_
 refine CW.seq ?_
 refine CW.lex [.W] rfl ?_
 refine RW.pure tabOk 1 rfl ?_
 refine RW.done ?_
 refine NW.next ?_
 refine CW.seq ?_
 refine CW.seq ?_
 refine CW.lex [.W] rfl ?_
 refine RW.pure tabOk 1 rfl ?_
 refine RW.done ?_
 refine NW.next ?_
 refine CW.block ?_
 refine CW.loop (fun n1 a w1 => ∃ (lt3_0 : List Entry) (At3_0 : Option Addr) (ct3_0 : Nat) (it4_0 : Int), Sat 19 [(0, .slice A1 p0.length c_1), (3, .slice At3_0 lt3_0.length ct3_0), (4, .int .i64 it4_0)] a ∧ w.heap.size ≤ w1.heap.size ∧ Ow kEntry 45 w1.heap (okL [(w.heap.size, none, some 45)]) (okL []) At3_0 ct3_0 lt3_0 ∧ Sl kEntry w1.heap (okL [(0, some w.heap.size, none)]) A1 p0 ∧ Ext w w1 ∧ hermitageref0_CopyEntries.l0 p0 n1 lt3_0 it4_0 = some r) k ?_ ?_
 · exact fun a ha => ⟨([] : List Entry), none, 0, 0, ha.sub ⟨rfl, rfl, rfl, trivial⟩, by omega, Ow.nil, h1, x0, H⟩
 intro n1 a w1 hI hp
 obtain ⟨lt3_0, At3_0, ct3_0, it4_0, hS, hle, ft3_0, gF1_0, x0_0, H⟩ := hI
 cases n1 with
 | zero => cases H
 | succ n1 =>
  rw [hermitageref0_CopyEntries.l0] at H
  refine CW.go hp hS ?_
  have h2 : Ow kEntry 45 w1.heap (okL [(w.heap.size, some w1.heap.size, some 45)]) (okL []) At3_0 ct3_0 lt3_0 := ft3_0.close
  refine CW.seq ?_
  refine CW.seq ?_
  refine CW.lex [.W, .W, .W, .W] rfl ?_
  refine RW.pure tabOk 4 rfl ?_
  refine RW.done ?_
  refine NW.next ?_
  by_cases c1 : it4_0 < (p0.length : Int)
  ·
   rw [if_pos c1] at H
   refine CW.cond_t rfl (decide_eq_true c1) ?_
   refine CW.skip ?_
   refine NW.next ?_
   refine CW.seq ?_
   refine CW.block ?_
   refine CW.lex [.W, .W, .W, .W, .L, .X, .M, .W] rfl ?_
   refine RW.pure tabOk 3 rfl ?_
   obtain ⟨g1, H⟩ := guard_some H
   obtain ⟨ad1, e1, a1⟩ := kEntry_at gF1_0 g1.1 g1.2
   refine RW.index tabOk g1.1 g1.2 e1 ⟨rfl, rfl, rfl, rfl⟩ rfl rfl rfl rfl rfl rfl ?_
   refine RW.load tabOk [.int .i64 ((rd p0 it4_0).From), .int .i64 ((rd p0 it4_0).Len), .int .i64 ((rd p0 it4_0).Dev), .int .i64 ((rd p0 it4_0).To), .int .i64 ((rd p0 it4_0).Stale)] a1 ⟨rfl, rfl, rfl, rfl⟩ rfl rfl rfl rfl ?_
   refine RW.buildSlice (cs := [.int .i64 ((rd p0 it4_0).From), .int .i64 ((rd p0 it4_0).Len), .int .i64 ((rd p0 it4_0).Dev), .int .i64 ((rd p0 it4_0).To), .int .i64 ((rd p0 it4_0).Stale)]) tabOk (.inl rfl) ⟨rfl, rfl, rfl, rfl⟩ rfl rfl rfl rfl rfl rfl rfl ?_
   intro b1 w2 x1 l1 h3
   have sx1 := x1.size
   have ltb1 := h3.lt
   have h4 := h2.ext x1
   obtain ⟨g2, H⟩ := guard_some H
   refine RW.append1L (d := kEntry) (v := (rd p0 it4_0)) (l := [(w.heap.size, some w1.heap.size, some 45)]) (li := []) (ly := []) (xs := lt3_0) tabOk h4 h3 (kEntry_mk (rd p0 it4_0)) trivial (by simp only [maxLen]; omega) g2 ⟨rfl, rfl, rfl, rfl⟩ rfl rfl rfl rfl rfl rfl rfl ?_
   intro A2 c_2 w3 x2 h5
   have sx2 := x2.size
   have h6 := h5.close.sub (l' := [(w.heap.size, some w3.heap.size, some 45)]) (li' := []) ⟨(.inl ⟨by omega, by omega, rfl⟩), ⟨(.inl ⟨by omega, by omega, rfl⟩), trivial⟩⟩ trivial
   refine RW.pure tabOk 1 rfl ?_
   refine RW.done ?_
   refine NW.norm_block (NW.next ?_)
   refine CW.lex [.W, .W, .W] rfl ?_
   refine RW.pure tabOk 3 rfl ?_
   refine RW.done ?_
   have h7 := (gF1_0.ext x1).turnL x2 ⟨⟨.inr (.inl (by omega)), trivial⟩, trivial⟩
   have h8 := Ext.turn (Ext.trans x0_0 x1) x2 ⟨by omega, trivial⟩
   exact NW.J fun a ha => ⟨n1, Nat.lt_succ_self n1, (lt3_0 ++ [(rd p0 it4_0)]), A2, c_2, (w64 (it4_0 + 1)), ha.sub ⟨rfl, rfl, rfl, trivial⟩, by omega, (h6.sub ⟨(.inl ⟨by omega, trivial, rfl⟩), trivial⟩ trivial), h7, h8, H⟩
  ·
   rw [if_neg c1] at H
   refine CW.cond_f rfl (decide_eq_false c1) ?_
   refine CW.exit ?_
   refine NW.exit_then (NW.exit_then (NW.exit_hit ?_))
   refine NW.next ?_
   refine CW.seq ?_
   refine CW.lex [.W, .W] rfl ?_
   refine RW.pure tabOk 2 rfl ?_
   refine RW.done ?_
   refine NW.next ?_
   refine CW.ret ?_
   obtain rfl := Option.some.inj H
   exact NW.ret1 rfl (by rfl) ⟨At3_0, ct3_0, rfl, x0_0, (h2.sub (l' := [(w.heap.size, none, some 45)]) (li' := []) ⟨(.inl ⟨by omega, trivial, rfl⟩), trivial⟩ trivial)⟩

set_option maxHeartbeats 4000000 in
set_option maxRecDepth 100000 in
theorem hermitageref0_CopyTable.calls (k : Nat) (p0 : Table) (A1 : Option Addr) (c_1 : Nat) (r : Table) (w : World) (hs1 : Sl kEntry w.heap okAll A1 p0.List_) (hl1 : p0.List_.length ≤ c_1) (H : hermitageref0_CopyTable.f k p0 = some r) :
    Calls Try.prog 21 #[.agg #[.int .i64 p0.Dev, .int .i64 p0.Size, .slice A1 p0.List_.length c_1]] w fun e w' => ∃ (B1 : Option Addr) (d1 : Nat), e = .returned (.agg #[.int .i64 r.Dev, .int .i64 r.Size, .slice B1 r.List_.length d1]) ∧ Ext w w' ∧ Ow kEntry 45 w'.heap (okL [(w.heap.size, none, some 45)]) (okL []) B1 d1 r.List_ := by
 have h1 : Sl kEntry w.heap (okL [(0, some w.heap.size, none)]) A1 p0.List_ := hs1.old _ rfl
 have x0 : Ext w w := Upd.refl _ w
 unfold hermitageref0_CopyTable.f at H
 refine calls_start Try.func21 rfl 10 rfl [.agg #[.int .i64 p0.Dev, .int .i64 p0.Size, .slice A1 p0.List_.length c_1]] rfl ?_
 refine CW.seq ?_
 refine CW.lex [.X, .X] rfl ?_
 refine RW.box (cs := [.int .i64 p0.Dev, .int .i64 p0.Size, .slice A1 p0.List_.length c_1]) (.inl rfl) ⟨rfl, rfl, rfl, rfl⟩ rfl rfl rfl ?_
 intro b1 w1 x1 l1 h2
 have sx1 := x1.size
 have ltb1 := h2.lt
 refine RW.alloc tabOk (.inl rfl) ⟨rfl, rfl, rfl, rfl⟩ rfl rfl ?_
 intro b2 w2 x2 l2 h3
 have sx2 := x2.size
 have ltb2 := h3.lt
 refine RW.done ?_
 refine NW.next ?_
 refine CW.seq ?_
 refine CW.lex [.L, .X, .M] rfl ?_
 have h4 := h2.ext x2
 refine RW.load tabOk [.int .i64 p0.Dev, .int .i64 p0.Size, .slice A1 p0.List_.length c_1] (h4.at 0) ⟨rfl, rfl, rfl, rfl⟩ rfl rfl rfl rfl ?_
 refine RW.alloc tabOk (.inl rfl) ⟨rfl, rfl, rfl, rfl⟩ rfl rfl ?_
 intro b3 w3 x3 l3 h5
 have sx3 := x3.size
 have ltb3 := h5.lt
 refine RW.storeBox tabOk h5 [.int .i64 p0.Dev, .int .i64 p0.Size, .slice A1 p0.List_.length c_1] ⟨rfl, rfl, rfl⟩ rfl rfl rfl rfl rfl rfl rfl rfl ?_
 intro w4 x4 h6
 have h7 : Box w4.heap b3 24 [.int .i64 p0.Dev, .int .i64 p0.Size, .slice A1 p0.List_.length c_1] := h6
 have sx4 := x4.size
 refine RW.done ?_
 refine NW.next ?_
 refine CW.seq ?_
 refine CW.lex [.W, .L, .X, .W, .M] rfl ?_
 refine RW.pure tabOk 1 rfl ?_
 have h8 := (h4.ext x3).turnB x4 (by omega)
 refine RW.load tabOk [.slice A1 p0.List_.length c_1] (h8.at 2) ⟨rfl, rfl, rfl, rfl⟩ rfl rfl rfl rfl ?_
 have h9 := (((h1.ext x1).ext x2).ext x3).turnB x4 h5 ⟨.inr (by omega), trivial⟩
 obtain ⟨y1, h10, H⟩ := bind_some H
 refine RW.callF (.inl rfl) ent51 ⟨rfl, rfl, rfl, rfl⟩ rfl rfl (hermitageref0_CopyEntries.calls k A1 c_1 p0.List_ _ _ h9.all hl1 h10) ?_
 rintro _ w5 ⟨A2, c_2, rfl, x5, h11⟩
 refine ⟨_, rfl, x5, ?_⟩
 have sx5 := x5.size
 have h12 : Ow kEntry 45 w5.heap (okL [(w4.heap.size, some w5.heap.size, some 45)]) (okL []) A2 c_2 y1 := h11.close
 refine RW.pure tabOk 1 rfl ?_
 have h13 := h7.ext x5
 refine RW.storeBox tabOk h13 [.slice A2 y1.length c_2] ⟨rfl, rfl, rfl⟩ rfl rfl rfl rfl rfl rfl rfl rfl ?_
 intro w6 x6 h14
 have h15 : Box w6.heap b3 24 [.int .i64 p0.Dev, .int .i64 p0.Size, .slice A2 y1.length c_2] := h14
 have sx6 := x6.size
 refine RW.done ?_
 refine NW.next ?_
 refine CW.seq ?_
 refine CW.lex [.L, .M] rfl ?_
 refine RW.load tabOk [.int .i64 p0.Dev, .int .i64 p0.Size, .slice A2 y1.length c_2] (h15.at 0) ⟨rfl, rfl, rfl, rfl⟩ rfl rfl rfl rfl ?_
 have h16 := (((h3.ext x3).turnB x4 (by omega)).ext x5).turnB x6 (by omega)
 refine RW.storeBox tabOk h16 [.int .i64 p0.Dev, .int .i64 p0.Size, .slice A2 y1.length c_2] ⟨rfl, rfl, rfl⟩ rfl rfl rfl rfl rfl rfl rfl rfl ?_
 intro w7 x7 h17
 have h18 : Box w7.heap b2 24 [.int .i64 p0.Dev, .int .i64 p0.Size, .slice A2 y1.length c_2] := h17
 have sx7 := x7.size
 refine RW.done ?_
 refine NW.next ?_
 refine CW.ret ?_
 have h19 := (h12.turnB x6 h13 ⟨.inl (show (45 : Nat) ≠ 24 by decide), trivial⟩ trivial).turnB x7 h16 ⟨.inl (show (45 : Nat) ≠ 24 by decide), trivial⟩ trivial
 obtain rfl := Option.some.inj H
 have h20 := Ext.turnB (Ext.turnB (Ext.trans (Ext.turnB (Ext.trans (Ext.trans (Ext.trans x0 x1) x2) x3) x4 (by omega)) x5) x6 (by omega)) x7 (by omega)
 exact NW.ret1 rfl (resOne_cell tabOk (h18.at 0) rfl rfl rfl) ⟨A2, c_2, rfl, h20, (h19.sub (l' := [(w.heap.size, none, some 45)]) (li' := []) ⟨(.inl ⟨by omega, trivial, rfl⟩), trivial⟩ trivial)⟩

set_option maxHeartbeats 4000000 in
set_option maxRecDepth 100000 in
theorem hermitageref7_End.calls (p0 : Table) (A1 : Option Addr) (c_1 : Nat) (r : Int) (w : World) (hs1 : Sl kEntry w.heap okAll A1 p0.List_) (hl1 : p0.List_.length ≤ c_1) (H : hermitageref7_End.f p0 = some r) :
    Calls Try.prog 52 #[.agg #[.int .i64 p0.Dev, .int .i64 p0.Size, .slice A1 p0.List_.length c_1]] w fun e w' => e = .returned (.int .i64 r) ∧ Ext w w' := by
 have h1 : Sl kEntry w.heap (okL [(0, some w.heap.size, none)]) A1 p0.List_ := hs1.old _ rfl
 have x0 : Ext w w := Upd.refl _ w
 unfold hermitageref7_End.f at H
 refine calls_start Try.func52 rfl 21 rfl [.agg #[.int .i64 p0.Dev, .int .i64 p0.Size, .slice A1 p0.List_.length c_1]] rfl ?_
 refine CW.seq ?_
 refine CW.lex [.X, .W] rfl ?_
 refine RW.box (cs := [.int .i64 p0.Dev, .int .i64 p0.Size, .slice A1 p0.List_.length c_1]) (.inl rfl) ⟨rfl, rfl, rfl, rfl⟩ rfl rfl rfl ?_
 intro b1 w1 x1 l1 h2
 have sx1 := x1.size
 have ltb1 := h2.lt
 refine RW.pure tabOk 1 rfl ?_
 refine RW.done ?_
 refine NW.next ?_
 refine CW.seq ?_
 refine CW.seq ?_
 refine CW.lex [.W, .L, .W, .W] rfl ?_
 refine RW.pure tabOk 1 rfl ?_
 refine RW.load tabOk [.slice A1 p0.List_.length c_1] (h2.at 2) ⟨rfl, rfl, rfl, rfl⟩ rfl rfl rfl rfl ?_
 refine RW.pure tabOk 2 rfl ?_
 refine RW.done ?_
 refine NW.next ?_
 by_cases c1 : (p0.List_.length : Int) = 0
 ·
  rw [if_pos c1] at H
  refine CW.cond_t rfl (beq_t c1) ?_
  refine CW.seq ?_
  refine CW.lex [.W] rfl ?_
  refine RW.pure tabOk 1 rfl ?_
  refine RW.done ?_
  refine NW.next ?_
  refine CW.ret ?_
  refine NW.ret_then ?_
  obtain rfl := Option.some.inj H
  have h3 := Ext.trans x0 x1
  exact NW.ret1 rfl (by rfl) ⟨rfl, h3⟩
 ·
  rw [if_neg c1] at H
  refine CW.cond_f rfl (beq_f c1) ?_
  refine CW.skip ?_
  refine NW.next ?_
  refine CW.seq ?_
  refine CW.lex [.W, .L, .W, .L, .W, .W, .W, .L, .X, .M] rfl ?_
  refine RW.pure tabOk 1 rfl ?_
  refine RW.load tabOk [.slice A1 p0.List_.length c_1] (h2.at 2) ⟨rfl, rfl, rfl, rfl⟩ rfl rfl rfl rfl ?_
  refine RW.pure tabOk 1 rfl ?_
  refine RW.load tabOk [.slice A1 p0.List_.length c_1] (h2.at 2) ⟨rfl, rfl, rfl, rfl⟩ rfl rfl rfl rfl ?_
  refine RW.pure tabOk 2 rfl ?_
  obtain ⟨g1, H⟩ := guard_some H
  have h4 := h1.ext x1
  obtain ⟨ad1, e1, a1⟩ := kEntry_at h4 g1.1 g1.2
  refine RW.index tabOk g1.1 g1.2 e1 ⟨rfl, rfl, rfl, rfl⟩ rfl rfl rfl rfl rfl rfl ?_
  refine RW.load tabOk [.int .i64 ((rd p0.List_ (w64 ((p0.List_.length : Int) - 1))).From), .int .i64 ((rd p0.List_ (w64 ((p0.List_.length : Int) - 1))).Len), .int .i64 ((rd p0.List_ (w64 ((p0.List_.length : Int) - 1))).Dev), .int .i64 ((rd p0.List_ (w64 ((p0.List_.length : Int) - 1))).To), .int .i64 ((rd p0.List_ (w64 ((p0.List_.length : Int) - 1))).Stale)] a1 ⟨rfl, rfl, rfl, rfl⟩ rfl rfl rfl rfl ?_
  refine RW.alloc tabOk (.inl rfl) ⟨rfl, rfl, rfl, rfl⟩ rfl rfl ?_
  intro b2 w2 x2 l2 h5
  have sx2 := x2.size
  have ltb2 := h5.lt
  refine RW.storeBox tabOk h5 [.int .i64 ((rd p0.List_ (w64 ((p0.List_.length : Int) - 1))).From), .int .i64 ((rd p0.List_ (w64 ((p0.List_.length : Int) - 1))).Len), .int .i64 ((rd p0.List_ (w64 ((p0.List_.length : Int) - 1))).Dev), .int .i64 ((rd p0.List_ (w64 ((p0.List_.length : Int) - 1))).To), .int .i64 ((rd p0.List_ (w64 ((p0.List_.length : Int) - 1))).Stale)] ⟨rfl, rfl, rfl⟩ rfl rfl rfl rfl rfl rfl rfl rfl ?_
  intro w3 x3 h6
  have h7 : Box w3.heap b2 45 [.int .i64 ((rd p0.List_ (w64 ((p0.List_.length : Int) - 1))).From), .int .i64 ((rd p0.List_ (w64 ((p0.List_.length : Int) - 1))).Len), .int .i64 ((rd p0.List_ (w64 ((p0.List_.length : Int) - 1))).Dev), .int .i64 ((rd p0.List_ (w64 ((p0.List_.length : Int) - 1))).To), .int .i64 ((rd p0.List_ (w64 ((p0.List_.length : Int) - 1))).Stale)] := h6
  have sx3 := x3.size
  refine RW.done ?_
  refine NW.next ?_
  refine CW.seq ?_
  refine CW.lex [.W, .L, .W, .L, .W, .W] rfl ?_
  refine RW.pure tabOk 1 rfl ?_
  refine RW.load tabOk [.int .i64 ((rd p0.List_ (w64 ((p0.List_.length : Int) - 1))).From)] ((h7.at 0).take 1 rfl) ⟨rfl, rfl, rfl, rfl⟩ rfl rfl rfl rfl ?_
  refine RW.pure tabOk 1 rfl ?_
  refine RW.load tabOk [.int .i64 ((rd p0.List_ (w64 ((p0.List_.length : Int) - 1))).Len)] ((h7.at 1).take 1 rfl) ⟨rfl, rfl, rfl, rfl⟩ rfl rfl rfl rfl ?_
  refine RW.pure tabOk 2 rfl ?_
  refine RW.done ?_
  refine NW.next ?_
  refine CW.ret ?_
  obtain rfl := Option.some.inj H
  have h8 := Ext.turnB (Ext.trans (Ext.trans x0 x1) x2) x3 (by omega)
  exact NW.ret1 rfl (by rfl) ⟨rfl, h8⟩

set_option maxHeartbeats 4000000 in
set_option maxRecDepth 100000 in
theorem hermitageref7_Add.calls (k : Nat) (p0 : Table) (A1 : Option Addr) (c_1 : Nat) (p1 : Int) (p2 : Ptr) (r : Table) (w : World) (hs1 : Sl kEntry w.heap okAll A1 p0.List_) (hl1 : p0.List_.length ≤ c_1) (H : hermitageref7_Add.f k p0 p1 p2 = some r) :
    Calls Try.prog 53 #[.agg #[.int .i64 p0.Dev, .int .i64 p0.Size, .slice A1 p0.List_.length c_1], .int .i64 p1, .agg #[.int .i64 p2.Dev, .int .i64 p2.At]] w fun e w' => ∃ (B1 : Option Addr) (d1 : Nat), e = .returned (.agg #[.int .i64 r.Dev, .int .i64 r.Size, .slice B1 r.List_.length d1]) ∧ Ext w w' ∧ Ow kEntry 45 w'.heap (okL [(w.heap.size, none, some 45)]) (okL []) B1 d1 r.List_ := by
 have h1 : Sl kEntry w.heap (okL [(0, some w.heap.size, none)]) A1 p0.List_ := hs1.old _ rfl
 have x0 : Ext w w := Upd.refl _ w
 unfold hermitageref7_Add.f at H
 refine calls_start Try.func53 rfl 68 rfl [.agg #[.int .i64 p0.Dev, .int .i64 p0.Size, .slice A1 p0.List_.length c_1], .int .i64 p1, .agg #[.int .i64 p2.Dev, .int .i64 p2.At]] rfl ?_
 refine CW.seq ?_
 refine CW.lex [.X, .X, .X] rfl ?_
 refine RW.box (cs := [.int .i64 p0.Dev, .int .i64 p0.Size, .slice A1 p0.List_.length c_1]) (.inl rfl) ⟨rfl, rfl, rfl, rfl⟩ rfl rfl rfl ?_
 intro b1 w1 x1 l1 h2
 have sx1 := x1.size
 have ltb1 := h2.lt
 refine RW.box (cs := [.int .i64 p2.Dev, .int .i64 p2.At]) (.inl rfl) ⟨rfl, rfl, rfl, rfl⟩ rfl rfl rfl ?_
 intro b2 w2 x2 l2 h3
 have sx2 := x2.size
 have ltb2 := h3.lt
 refine RW.alloc tabOk (.inl rfl) ⟨rfl, rfl, rfl, rfl⟩ rfl rfl ?_
 intro b3 w3 x3 l3 h4
 have sx3 := x3.size
 have ltb3 := h4.lt
 refine RW.done ?_
 refine NW.next ?_
 refine CW.seq ?_
 refine CW.lex [.L, .X, .M] rfl ?_
 have h5 := (h2.ext x2).ext x3
 refine RW.load tabOk [.int .i64 p0.Dev, .int .i64 p0.Size, .slice A1 p0.List_.length c_1] (h5.at 0) ⟨rfl, rfl, rfl, rfl⟩ rfl rfl rfl rfl ?_
 have h6 := ((h1.ext x1).ext x2).ext x3
 obtain ⟨y1, h7, H⟩ := bind_some H
 refine RW.callF (.inl rfl) ent21 ⟨rfl, rfl, rfl, rfl⟩ rfl rfl (hermitageref0_CopyTable.calls k p0 A1 c_1 _ _ h6.all hl1 h7) ?_
 rintro _ w4 ⟨A2, c_2, rfl, x4, h8⟩
 refine ⟨_, rfl, x4, ?_⟩
 have sx4 := x4.size
 have h9 : Ow kEntry 45 w4.heap (okL [(w3.heap.size, some w4.heap.size, some 45)]) (okL []) A2 c_2 y1.List_ := h8.close
 have h10 := h5.ext x4
 refine RW.storeBox tabOk h10 [.int .i64 y1.Dev, .int .i64 y1.Size, .slice A2 y1.List_.length c_2] ⟨rfl, rfl, rfl⟩ rfl rfl rfl rfl rfl rfl rfl rfl ?_
 intro w5 x5 h11
 have h12 : Box w5.heap b1 24 [.int .i64 y1.Dev, .int .i64 y1.Size, .slice A2 y1.List_.length c_2] := h11
 have sx5 := x5.size
 refine RW.done ?_
 refine NW.next ?_
 refine CW.seq ?_
 refine CW.lex [.W, .L, .W, .W, .W] rfl ?_
 refine RW.pure tabOk 1 rfl ?_
 refine RW.load tabOk [.slice A2 y1.List_.length c_2] (h12.at 2) ⟨rfl, rfl, rfl, rfl⟩ rfl rfl rfl rfl ?_
 refine RW.pure tabOk 3 rfl ?_
 refine RW.done ?_
 refine NW.next ?_
 refine CW.seqJ (fun a w6 => Sat 68 [(1, .int .i64 p1), (3, .pointer (some ⟨b1, 0, none⟩)), (5, .pointer (some ⟨b2, 0, none⟩)), (6, .pointer (some ⟨b3, 0, none⟩))] a ∧ w5.heap.size ≤ w6.heap.size ∧ Ow kEntry 45 w6.heap (okL [(w3.heap.size, some w4.heap.size, some 45)]) (okL []) A2 c_2 y1.List_ ∧ Ext w w6 ∧ Box w6.heap b1 24 [.int .i64 y1.Dev, .int .i64 y1.Size, .slice A2 y1.List_.length c_2] ∧ Box w6.heap b2 33 [.int .i64 p2.Dev, .int .i64 p2.At] ∧ Box w6.heap b3 24 [.int .i64 0, .int .i64 0, .slice none 0 0] ∧ hermitageref7_Add.j0 p1 p2 y1 = some r) ?_ ?_
 ·
  refine CW.seq ?_
  refine CW.lex [.W, .W] rfl ?_
  refine RW.pure tabOk 2 rfl ?_
  refine RW.done ?_
  refine NW.next ?_
  by_cases c1 : 0 ≤ (w64 ((y1.List_.length : Int) - 1))
  ·
   rw [if_pos c1] at H
   refine CW.cond_t rfl (decide_eq_true c1) ?_
   refine CW.seq ?_
   refine CW.lex [.W, .L, .W, .W, .L, .X, .M] rfl ?_
   refine RW.pure tabOk 1 rfl ?_
   refine RW.load tabOk [.slice A2 y1.List_.length c_2] (h12.at 2) ⟨rfl, rfl, rfl, rfl⟩ rfl rfl rfl rfl ?_
   refine RW.pure tabOk 1 rfl ?_
   obtain ⟨g1, H⟩ := guard_some H
   have h13 := h9.turnB x5 h10 ⟨.inl (show (45 : Nat) ≠ 24 by decide), trivial⟩ trivial
   obtain ⟨ad1, e1, a1⟩ := kEntry_at h13.slL g1.1 g1.2
   refine RW.index tabOk g1.1 g1.2 e1 ⟨rfl, rfl, rfl, rfl⟩ rfl rfl rfl rfl rfl rfl ?_
   refine RW.load tabOk [.int .i64 ((rd y1.List_ (w64 ((y1.List_.length : Int) - 1))).From), .int .i64 ((rd y1.List_ (w64 ((y1.List_.length : Int) - 1))).Len), .int .i64 ((rd y1.List_ (w64 ((y1.List_.length : Int) - 1))).Dev), .int .i64 ((rd y1.List_ (w64 ((y1.List_.length : Int) - 1))).To), .int .i64 ((rd y1.List_ (w64 ((y1.List_.length : Int) - 1))).Stale)] a1 ⟨rfl, rfl, rfl, rfl⟩ rfl rfl rfl rfl ?_
   refine RW.alloc tabOk (.inl rfl) ⟨rfl, rfl, rfl, rfl⟩ rfl rfl ?_
   intro b4 w7 x6 l4 h14
   have sx6 := x6.size
   have ltb4 := h14.lt
   refine RW.storeBox tabOk h14 [.int .i64 ((rd y1.List_ (w64 ((y1.List_.length : Int) - 1))).From), .int .i64 ((rd y1.List_ (w64 ((y1.List_.length : Int) - 1))).Len), .int .i64 ((rd y1.List_ (w64 ((y1.List_.length : Int) - 1))).Dev), .int .i64 ((rd y1.List_ (w64 ((y1.List_.length : Int) - 1))).To), .int .i64 ((rd y1.List_ (w64 ((y1.List_.length : Int) - 1))).Stale)] ⟨rfl, rfl, rfl⟩ rfl rfl rfl rfl rfl rfl rfl rfl ?_
   intro w8 x7 h15
   have h16 : Box w8.heap b4 45 [.int .i64 ((rd y1.List_ (w64 ((y1.List_.length : Int) - 1))).From), .int .i64 ((rd y1.List_ (w64 ((y1.List_.length : Int) - 1))).Len), .int .i64 ((rd y1.List_ (w64 ((y1.List_.length : Int) - 1))).Dev), .int .i64 ((rd y1.List_ (w64 ((y1.List_.length : Int) - 1))).To), .int .i64 ((rd y1.List_ (w64 ((y1.List_.length : Int) - 1))).Stale)] := h15
   have sx7 := x7.size
   refine RW.done ?_
   refine NW.next ?_
   refine CW.seqJ (fun a w9 => ∃ (bt45_1 : Bool), Sat 68 [(1, .int .i64 p1), (3, .pointer (some ⟨b1, 0, none⟩)), (5, .pointer (some ⟨b2, 0, none⟩)), (6, .pointer (some ⟨b3, 0, none⟩)), (7, .int .i64 (w64 ((y1.List_.length : Int) - 1))), (45, .bool bt45_1)] a ∧ w8.heap.size ≤ w9.heap.size ∧ Ow kEntry 45 w9.heap (okL [(w3.heap.size, some w4.heap.size, some 45)]) (okL []) A2 c_2 y1.List_ ∧ Ext w w9 ∧ Box w9.heap b1 24 [.int .i64 y1.Dev, .int .i64 y1.Size, .slice A2 y1.List_.length c_2] ∧ Box w9.heap b2 33 [.int .i64 p2.Dev, .int .i64 p2.At] ∧ Box w9.heap b3 24 [.int .i64 0, .int .i64 0, .slice none 0 0] ∧ hermitageref7_Add.j1 p1 p2 y1 bt45_1 = some r) ?_ ?_
   ·
    refine CW.lex [.W, .L, .W, .L, .W, .W, .W, .W, .W, .L, .W, .L, .W, .W, .W, .W, .L, .W, .L, .W, .W, .L, .W, .W] rfl ?_
    refine RW.pure tabOk 1 rfl ?_
    refine RW.load tabOk [.int .i64 ((rd y1.List_ (w64 ((y1.List_.length : Int) - 1))).From)] ((h16.at 0).take 1 rfl) ⟨rfl, rfl, rfl, rfl⟩ rfl rfl rfl rfl ?_
    refine RW.pure tabOk 1 rfl ?_
    refine RW.load tabOk [.int .i64 ((rd y1.List_ (w64 ((y1.List_.length : Int) - 1))).Len)] ((h16.at 1).take 1 rfl) ⟨rfl, rfl, rfl, rfl⟩ rfl rfl rfl rfl ?_
    refine RW.pure tabOk 4 rfl ?_
    by_cases c2 : w64 (((rd y1.List_ (w64 ((y1.List_.length : Int) - 1))).From) + ((rd y1.List_ (w64 ((y1.List_.length : Int) - 1))).Len)) = p1
    ·
     rw [if_pos c2] at H
     refine RW.bool 29 (b' := true) (beq_t c2) rfl ?_
     refine RW.pure tabOk 1 rfl ?_
     refine RW.load tabOk [.int .i64 ((rd y1.List_ (w64 ((y1.List_.length : Int) - 1))).Dev)] ((h16.at 2).take 1 rfl) ⟨rfl, rfl, rfl, rfl⟩ rfl rfl rfl rfl ?_
     refine RW.pure tabOk 1 rfl ?_
     have h17 := ((((h3.ext x3).ext x4).turnB x5 (by omega)).ext x6).turnB x7 (by omega)
     refine RW.load tabOk [.int .i64 p2.Dev] ((h17.at 0).take 1 rfl) ⟨rfl, rfl, rfl, rfl⟩ rfl rfl rfl rfl ?_
     refine RW.pure tabOk 3 rfl ?_
     by_cases c3 : (rd y1.List_ (w64 ((y1.List_.length : Int) - 1))).Dev = p2.Dev
     ·
      rw [if_pos c3] at H
      refine RW.bool 36 (b' := true) (beq_t c3) rfl ?_
      refine RW.pure tabOk 1 rfl ?_
      refine RW.load tabOk [.int .i64 ((rd y1.List_ (w64 ((y1.List_.length : Int) - 1))).To)] ((h16.at 3).take 1 rfl) ⟨rfl, rfl, rfl, rfl⟩ rfl rfl rfl rfl ?_
      refine RW.pure tabOk 1 rfl ?_
      refine RW.load tabOk [.int .i64 ((rd y1.List_ (w64 ((y1.List_.length : Int) - 1))).Len)] ((h16.at 1).take 1 rfl) ⟨rfl, rfl, rfl, rfl⟩ rfl rfl rfl rfl ?_
      refine RW.pure tabOk 2 rfl ?_
      refine RW.load tabOk [.int .i64 p2.At] (h17.at 1) ⟨rfl, rfl, rfl, rfl⟩ rfl rfl rfl rfl ?_
      refine RW.pure tabOk 2 rfl ?_
      refine RW.done ?_
      have h18 := (h13.ext x6).turnB x7 h14 ⟨.inr (by omega), trivial⟩ trivial
      have h19 := Ext.turnB (Ext.trans (Ext.turnB (Ext.trans (Ext.trans (Ext.trans (Ext.trans x0 x1) x2) x3) x4) x5 (by omega)) x6) x7 (by omega)
      have h20 := (h12.ext x6).turnB x7 (by omega)
      have h21 := (((h4.ext x4).turnB x5 (by omega)).ext x6).turnB x7 (by omega)
      exact NW.J fun a ha => ⟨((w64 (((rd y1.List_ (w64 ((y1.List_.length : Int) - 1))).To) + ((rd y1.List_ (w64 ((y1.List_.length : Int) - 1))).Len))) == p2.At), ha.sub ⟨rfl, rfl, rfl, rfl, rfl, rfl, trivial⟩, by omega, h18, h19, h20, h17, h21, H⟩
     ·
      rw [if_neg c3] at H
      refine RW.bool 36 (b' := false) (beq_f c3) rfl ?_
      refine RW.pure tabOk 9 rfl ?_
      refine RW.done ?_
      have h22 := (h13.ext x6).turnB x7 h14 ⟨.inr (by omega), trivial⟩ trivial
      have h23 := Ext.turnB (Ext.trans (Ext.turnB (Ext.trans (Ext.trans (Ext.trans (Ext.trans x0 x1) x2) x3) x4) x5 (by omega)) x6) x7 (by omega)
      have h24 := (h12.ext x6).turnB x7 (by omega)
      have h25 := (((h4.ext x4).turnB x5 (by omega)).ext x6).turnB x7 (by omega)
      exact NW.J fun a ha => ⟨false, ha.sub ⟨rfl, rfl, rfl, rfl, rfl, rfl, trivial⟩, by omega, h22, h23, h24, h17, h25, H⟩
    ·
     rw [if_neg c2] at H
     refine RW.bool 29 (b' := false) (beq_f c2) rfl ?_
     refine RW.pure tabOk 16 rfl ?_
     refine RW.done ?_
     have h26 := (h13.ext x6).turnB x7 h14 ⟨.inr (by omega), trivial⟩ trivial
     have h27 := Ext.turnB (Ext.trans (Ext.turnB (Ext.trans (Ext.trans (Ext.trans (Ext.trans x0 x1) x2) x3) x4) x5 (by omega)) x6) x7 (by omega)
     have h28 := (h12.ext x6).turnB x7 (by omega)
     have h29 := ((((h3.ext x3).ext x4).turnB x5 (by omega)).ext x6).turnB x7 (by omega)
     have h30 := (((h4.ext x4).turnB x5 (by omega)).ext x6).turnB x7 (by omega)
     exact NW.J fun a ha => ⟨false, ha.sub ⟨rfl, rfl, rfl, rfl, rfl, rfl, trivial⟩, by omega, h26, h27, h28, h29, h30, H⟩
   intro a w9 hJ hp
   obtain ⟨bt45_1, hS, hle, gF2_1, x0_1, gb1_1, gb2_1, gb3_1, H⟩ := hJ
   unfold hermitageref7_Add.j1 at H
   refine CW.go hp hS ?_
   by_cases c4 : bt45_1 = true
   ·
    rw [if_pos c4] at H
    refine CW.cond_t rfl (c4) ?_
    refine CW.seq ?_
    refine CW.lex [.W, .L, .W, .W, .W, .L, .W, .W, .W, .M] rfl ?_
    refine RW.pure tabOk 1 rfl ?_
    refine RW.load tabOk [.slice A2 y1.List_.length c_2] (gb1_1.at 2) ⟨rfl, rfl, rfl, rfl⟩ rfl rfl rfl rfl ?_
    refine RW.pure tabOk 1 rfl ?_
    obtain ⟨g2, H⟩ := guard_some H
    obtain ⟨ad2, e2, a2⟩ := kEntry_at gF2_1.slL g2.1 g2.2
    refine RW.index tabOk g2.1 g2.2 e2 ⟨rfl, rfl, rfl, rfl⟩ rfl rfl rfl rfl rfl rfl ?_
    refine RW.pure tabOk 1 rfl ?_
    refine RW.load tabOk [.int .i64 ((rd y1.List_ (w64 ((y1.List_.length : Int) - 1))).Len)] ((a2.fld 1).take 1 rfl) ⟨rfl, rfl, rfl, rfl⟩ rfl rfl rfl rfl ?_
    refine RW.pure tabOk 1 rfl ?_
    obtain ⟨g3, H⟩ := guard_some H
    obtain ⟨ad3, e3, a3⟩ := kEntry_at gF2_1.slL g3.1 g3.2
    refine RW.index tabOk g3.1 g3.2 e3 ⟨rfl, rfl, rfl, rfl⟩ rfl rfl rfl rfl rfl rfl ?_
    refine RW.pure tabOk 1 rfl ?_
    refine RW.storeElL (y := (⟨(rd y1.List_ (w64 ((y1.List_.length : Int) - 1))).From, w64 (((rd y1.List_ (w64 ((y1.List_.length : Int) - 1))).Len) + 1), (rd y1.List_ (w64 ((y1.List_.length : Int) - 1))).Dev, (rd y1.List_ (w64 ((y1.List_.length : Int) - 1))).To, (rd y1.List_ (w64 ((y1.List_.length : Int) - 1))).Stale⟩ : Entry)) (lv := []) (k := 1) tabOk gF2_1 (j := (w64 ((y1.List_.length : Int) - 1)).toNat) (by have := g3; omega) default [.int .i64 (w64 (((rd y1.List_ (w64 ((y1.List_.length : Int) - 1))).Len) + 1))] (fun cs ok' hr => by obtain rfl := kEntry_open hr; exact ⟨by simp, kEntry_mk (⟨(rd y1.List_ (w64 ((y1.List_.length : Int) - 1))).From, w64 (((rd y1.List_ (w64 ((y1.List_.length : Int) - 1))).Len) + 1), (rd y1.List_ (w64 ((y1.List_.length : Int) - 1))).Dev, (rd y1.List_ (w64 ((y1.List_.length : Int) - 1))).To, (rd y1.List_ (w64 ((y1.List_.length : Int) - 1))).Stale⟩ : Entry)⟩) trivial ⟨rfl, rfl, rfl⟩ rfl rfl e3 rfl rfl rfl rfl rfl ?_
    intro w10 x8 h31
    have sx8 := x8.size
    have h32 := h31.sub (l' := [(w3.heap.size, some w4.heap.size, some 45)]) (li' := []) ⟨(.inl ⟨by omega, by omega, rfl⟩), trivial⟩ trivial
    have h33 := gb1_1.turnL x8 (.inl (by decide))
    have h34 : Box w10.heap b1 24 [.int .i64 y1.Dev, .int .i64 y1.Size, .slice A2 (y1.List_.set (w64 ((y1.List_.length : Int) - 1)).toNat (⟨(rd y1.List_ (w64 ((y1.List_.length : Int) - 1))).From, w64 (((rd y1.List_ (w64 ((y1.List_.length : Int) - 1))).Len) + 1), (rd y1.List_ (w64 ((y1.List_.length : Int) - 1))).Dev, (rd y1.List_ (w64 ((y1.List_.length : Int) - 1))).To, (rd y1.List_ (w64 ((y1.List_.length : Int) - 1))).Stale⟩ : Entry)).length c_2] := by simpa only [List.length_set] using h33
    refine RW.done ?_
    refine NW.next ?_
    refine CW.seq ?_
    refine CW.lex [.L, .M] rfl ?_
    refine RW.load tabOk [.int .i64 y1.Dev, .int .i64 y1.Size, .slice A2 (y1.List_.set (w64 ((y1.List_.length : Int) - 1)).toNat (⟨(rd y1.List_ (w64 ((y1.List_.length : Int) - 1))).From, w64 (((rd y1.List_ (w64 ((y1.List_.length : Int) - 1))).Len) + 1), (rd y1.List_ (w64 ((y1.List_.length : Int) - 1))).Dev, (rd y1.List_ (w64 ((y1.List_.length : Int) - 1))).To, (rd y1.List_ (w64 ((y1.List_.length : Int) - 1))).Stale⟩ : Entry)).length c_2] (h34.at 0) ⟨rfl, rfl, rfl, rfl⟩ rfl rfl rfl rfl ?_
    have h35 := gb3_1.turnL x8 (.inl (by decide))
    refine RW.storeBox tabOk h35 [.int .i64 y1.Dev, .int .i64 y1.Size, .slice A2 (y1.List_.set (w64 ((y1.List_.length : Int) - 1)).toNat (⟨(rd y1.List_ (w64 ((y1.List_.length : Int) - 1))).From, w64 (((rd y1.List_ (w64 ((y1.List_.length : Int) - 1))).Len) + 1), (rd y1.List_ (w64 ((y1.List_.length : Int) - 1))).Dev, (rd y1.List_ (w64 ((y1.List_.length : Int) - 1))).To, (rd y1.List_ (w64 ((y1.List_.length : Int) - 1))).Stale⟩ : Entry)).length c_2] ⟨rfl, rfl, rfl⟩ rfl rfl rfl rfl rfl rfl rfl rfl ?_
    intro w11 x9 h36
    have h37 : Box w11.heap b3 24 [.int .i64 y1.Dev, .int .i64 y1.Size, .slice A2 (y1.List_.set (w64 ((y1.List_.length : Int) - 1)).toNat (⟨(rd y1.List_ (w64 ((y1.List_.length : Int) - 1))).From, w64 (((rd y1.List_ (w64 ((y1.List_.length : Int) - 1))).Len) + 1), (rd y1.List_ (w64 ((y1.List_.length : Int) - 1))).Dev, (rd y1.List_ (w64 ((y1.List_.length : Int) - 1))).To, (rd y1.List_ (w64 ((y1.List_.length : Int) - 1))).Stale⟩ : Entry)).length c_2] := h36
    have sx9 := x9.size
    refine RW.done ?_
    refine NW.next ?_
    refine CW.ret ?_
    refine NW.ret_then ?_
    have h38 := h32.turnB x9 h35 ⟨.inl (show (45 : Nat) ≠ 24 by decide), trivial⟩ trivial
    obtain rfl := Option.some.inj H
    have h39 := Ext.turnB (Ext.turn x0_1 x8 ⟨by omega, trivial⟩) x9 (by omega)
    exact NW.ret1 rfl (resOne_cell tabOk (h37.at 0) rfl rfl rfl) ⟨A2, c_2, rfl, h39, (h38.sub (l' := [(w.heap.size, none, some 45)]) (li' := []) ⟨(.inl ⟨by omega, trivial, rfl⟩), trivial⟩ trivial)⟩
   ·
    rw [if_neg c4] at H
    refine CW.cond_f rfl (bool_f c4) ?_
    refine CW.skip ?_
    exact NW.J fun a ha => ⟨ha.sub ⟨rfl, rfl, rfl, rfl, trivial⟩, by omega, gF2_1, x0_1, gb1_1, gb2_1, gb3_1, H⟩
  ·
   rw [if_neg c1] at H
   refine CW.cond_f rfl (decide_eq_false c1) ?_
   refine CW.skip ?_
   have h40 := h9.turnB x5 h10 ⟨.inl (show (45 : Nat) ≠ 24 by decide), trivial⟩ trivial
   have h41 := Ext.turnB (Ext.trans (Ext.trans (Ext.trans (Ext.trans x0 x1) x2) x3) x4) x5 (by omega)
   have h42 := ((h3.ext x3).ext x4).turnB x5 (by omega)
   have h43 := (h4.ext x4).turnB x5 (by omega)
   exact NW.J fun a ha => ⟨ha.sub ⟨rfl, rfl, rfl, rfl, trivial⟩, by omega, h40, h41, h12, h42, h43, H⟩
 intro a w6 hJ hp
 obtain ⟨hS, hle, gF2_0, x0_0, gb1_0, gb2_0, gb3_0, H⟩ := hJ
 unfold hermitageref7_Add.j0 at H
 refine CW.go hp hS ?_
 refine CW.seq ?_
 refine CW.lex [.W, .L, .W, .W, .L, .W, .L, .W, .X, .M, .W, .M] rfl ?_
 refine RW.pure tabOk 1 rfl ?_
 refine RW.load tabOk [.slice A2 y1.List_.length c_2] (gb1_0.at 2) ⟨rfl, rfl, rfl, rfl⟩ rfl rfl rfl rfl ?_
 refine RW.pure tabOk 2 rfl ?_
 refine RW.load tabOk [.int .i64 p2.Dev] ((gb2_0.at 0).take 1 rfl) ⟨rfl, rfl, rfl, rfl⟩ rfl rfl rfl rfl ?_
 refine RW.pure tabOk 1 rfl ?_
 refine RW.load tabOk [.int .i64 p2.At] (gb2_0.at 1) ⟨rfl, rfl, rfl, rfl⟩ rfl rfl rfl rfl ?_
 refine RW.pure tabOk 1 rfl ?_
 refine RW.buildSlice (cs := [.int .i64 p1, .int .i64 1, .int .i64 p2.Dev, .int .i64 p2.At, .int .i64 0]) tabOk (.inl rfl) ⟨rfl, rfl, rfl, rfl⟩ rfl rfl rfl rfl rfl rfl rfl ?_
 intro b5 w12 x10 l5 h44
 have sx10 := x10.size
 have ltb5 := h44.lt
 have h45 := gF2_0.ext x10
 obtain ⟨g4, H⟩ := guard_some H
 refine RW.append1L (d := kEntry) (v := (⟨p1, 1, p2.Dev, p2.At, 0⟩ : Entry)) (l := [(w3.heap.size, some w4.heap.size, some 45)]) (li := []) (ly := []) (xs := y1.List_) tabOk h45 h44 (kEntry_mk (⟨p1, 1, p2.Dev, p2.At, 0⟩ : Entry)) trivial (by simp only [maxLen]; omega) g4 ⟨rfl, rfl, rfl, rfl⟩ rfl rfl rfl rfl rfl rfl rfl ?_
 intro A3 c_3 w13 x11 h46
 have sx11 := x11.size
 have h47 := h46.close.sub (l' := [(w3.heap.size, some w13.heap.size, some 45)]) (li' := []) ⟨(.inl ⟨by omega, by omega, rfl⟩), ⟨(.inl ⟨by omega, by omega, rfl⟩), trivial⟩⟩ trivial
 refine RW.pure tabOk 1 rfl ?_
 have h48 := (gb1_0.ext x10).turnL x11 (.inl (by decide))
 refine RW.storeBox tabOk h48 [.slice A3 (y1.List_ ++ [(⟨p1, 1, p2.Dev, p2.At, 0⟩ : Entry)]).length c_3] ⟨rfl, rfl, rfl⟩ rfl rfl rfl rfl rfl rfl rfl rfl ?_
 intro w14 x12 h49
 have h50 : Box w14.heap b1 24 [.int .i64 y1.Dev, .int .i64 y1.Size, .slice A3 (y1.List_ ++ [(⟨p1, 1, p2.Dev, p2.At, 0⟩ : Entry)]).length c_3] := h49
 have sx12 := x12.size
 refine RW.done ?_
 refine NW.next ?_
 refine CW.seq ?_
 refine CW.lex [.L, .M] rfl ?_
 refine RW.load tabOk [.int .i64 y1.Dev, .int .i64 y1.Size, .slice A3 (y1.List_ ++ [(⟨p1, 1, p2.Dev, p2.At, 0⟩ : Entry)]).length c_3] (h50.at 0) ⟨rfl, rfl, rfl, rfl⟩ rfl rfl rfl rfl ?_
 have h51 := ((gb3_0.ext x10).turnL x11 (.inl (by decide))).turnB x12 (by omega)
 refine RW.storeBox tabOk h51 [.int .i64 y1.Dev, .int .i64 y1.Size, .slice A3 (y1.List_ ++ [(⟨p1, 1, p2.Dev, p2.At, 0⟩ : Entry)]).length c_3] ⟨rfl, rfl, rfl⟩ rfl rfl rfl rfl rfl rfl rfl rfl ?_
 intro w15 x13 h52
 have h53 : Box w15.heap b3 24 [.int .i64 y1.Dev, .int .i64 y1.Size, .slice A3 (y1.List_ ++ [(⟨p1, 1, p2.Dev, p2.At, 0⟩ : Entry)]).length c_3] := h52
 have sx13 := x13.size
 refine RW.done ?_
 refine NW.next ?_
 refine CW.ret ?_
 have h54 := (h47.turnB x12 h48 ⟨.inl (show (45 : Nat) ≠ 24 by decide), trivial⟩ trivial).turnB x13 h51 ⟨.inl (show (45 : Nat) ≠ 24 by decide), trivial⟩ trivial
 obtain rfl := Option.some.inj H
 have h55 := Ext.turnB (Ext.turnB (Ext.turn (Ext.trans x0_0 x10) x11 ⟨by omega, trivial⟩) x12 (by omega)) x13 (by omega)
 exact NW.ret1 rfl (resOne_cell tabOk (h53.at 0) rfl rfl rfl) ⟨A3, c_3, rfl, h55, (h54.sub (l' := [(w.heap.size, none, some 45)]) (li' := []) ⟨(.inl ⟨by omega, trivial, rfl⟩), trivial⟩ trivial)⟩

set_option maxHeartbeats 4000000 in
set_option maxRecDepth 100000 in
theorem hermitageref7_In.calls (k : Nat) (p0 : Table) (A1 : Option Addr) (c_1 : Nat) (p1 : Int) (r : Int) (w : World) (hs1 : Sl kEntry w.heap okAll A1 p0.List_) (hl1 : p0.List_.length ≤ c_1) (H : hermitageref7_In.f k p0 p1 = some r) :
    Calls Try.prog 86 #[.agg #[.int .i64 p0.Dev, .int .i64 p0.Size, .slice A1 p0.List_.length c_1], .int .i64 p1] w fun e w' => e = .returned (.int .i64 r) ∧ Ext w w' := by
 have h1 : Sl kEntry w.heap (okL [(0, some w.heap.size, none)]) A1 p0.List_ := hs1.old _ rfl
 have x0 : Ext w w := Upd.refl _ w
 unfold hermitageref7_In.f at H
 refine calls_start Try.func86 rfl 39 rfl [.agg #[.int .i64 p0.Dev, .int .i64 p0.Size, .slice A1 p0.List_.length c_1], .int .i64 p1] rfl ?_
 refine CW.seq ?_
 refine CW.lex [.X, .W] rfl ?_
 refine RW.box (cs := [.int .i64 p0.Dev, .int .i64 p0.Size, .slice A1 p0.List_.length c_1]) (.inl rfl) ⟨rfl, rfl, rfl, rfl⟩ rfl rfl rfl ?_
 intro b1 w1 x1 l1 h2
 have sx1 := x1.size
 have ltb1 := h2.lt
 refine RW.pure tabOk 1 rfl ?_
 refine RW.done ?_
 refine NW.next ?_
 refine CW.seq ?_
 refine CW.seq ?_
 refine CW.lex [.W] rfl ?_
 refine RW.pure tabOk 1 rfl ?_
 refine RW.done ?_
 refine NW.next ?_
 refine CW.block ?_
 refine CW.loop (fun n1 a w2 => ∃ (it5_0 : Int), Sat 39 [(1, .int .i64 p1), (2, .pointer (some ⟨b1, 0, none⟩)), (5, .int .i64 it5_0)] a ∧ w1.heap.size ≤ w2.heap.size ∧ Sl kEntry w2.heap (okL [(0, some w.heap.size, none)]) A1 p0.List_ ∧ Ext w w2 ∧ Box w2.heap b1 24 [.int .i64 p0.Dev, .int .i64 p0.Size, .slice A1 p0.List_.length c_1] ∧ hermitageref7_In.l0 p0 p1 n1 it5_0 = some r) k ?_ ?_
 have h3 := h1.ext x1
 have h4 := Ext.trans x0 x1
 · exact fun a ha => ⟨0, ha.sub ⟨rfl, rfl, rfl, trivial⟩, by omega, h3, h4, h2, H⟩
 intro n1 a w2 hI hp
 obtain ⟨it5_0, hS, hle, gF1_0, x0_0, gb1_0, H⟩ := hI
 cases n1 with
 | zero => cases H
 | succ n1 =>
  rw [hermitageref7_In.l0] at H
  refine CW.go hp hS ?_
  refine CW.seq ?_
  refine CW.seq ?_
  refine CW.lex [.W, .W, .L, .W, .W] rfl ?_
  refine RW.pure tabOk 2 rfl ?_
  refine RW.load tabOk [.slice A1 p0.List_.length c_1] (gb1_0.at 2) ⟨rfl, rfl, rfl, rfl⟩ rfl rfl rfl rfl ?_
  refine RW.pure tabOk 2 rfl ?_
  refine RW.done ?_
  refine NW.next ?_
  by_cases c1 : it5_0 < (p0.List_.length : Int)
  ·
   rw [if_pos c1] at H
   refine CW.cond_t rfl (decide_eq_true c1) ?_
   refine CW.skip ?_
   refine NW.next ?_
   refine CW.seq ?_
   refine CW.block ?_
   refine CW.seqJ (fun a w3 => ∃ (bt37_1 : Bool), Sat 39 [(1, .int .i64 p1), (2, .pointer (some ⟨b1, 0, none⟩)), (5, .int .i64 it5_0), (37, .bool bt37_1)] a ∧ w2.heap.size ≤ w3.heap.size ∧ Sl kEntry w3.heap (okL [(0, some w.heap.size, none)]) A1 p0.List_ ∧ Ext w w3 ∧ Box w3.heap b1 24 [.int .i64 p0.Dev, .int .i64 p0.Size, .slice A1 p0.List_.length c_1] ∧ hermitageref7_In.j0 it5_0 (hermitageref7_In.l0 p0 p1 n1) bt37_1 = some r) ?_ ?_
   ·
    refine CW.ord [0, 0, 2, 0, 14, 30, 62, 127, 255, 511, 511, 1535, 511, 7679, 15871, 32255, 511, 66047, 511, 459263, 983551, 2032127, 4193791, 8388607, 16777215] (ofL [(0, .W), (1, .W), (3, .W), (2, .L), (4, .W), (5, .W), (6, .L), (7, .W), (8, .W), (9, .W), (10, .W), (12, .W), (16, .W), (18, .W), (11, .L), (13, .W), (14, .W), (15, .L), (17, .L), (19, .W), (20, .W), (21, .L), (22, .W), (23, .W), (24, .W)] .nil) mixed (by kernel_rfl) ?_
    intro w4 x2
    have sx2 := x2.size
    refine RW.pure tabOk 3 rfl ?_
    have h5 := gb1_0.ext x2
    refine RW.load tabOk [.slice A1 p0.List_.length c_1] (h5.at 2) ⟨rfl, rfl, rfl, rfl⟩ rfl rfl rfl rfl ?_
    obtain ⟨g1, H⟩ := guard_some H
    have h6 := gF1_0.ext x2
    obtain ⟨ad1, e1, a1⟩ := kEntry_at h6 g1.1 g1.2
    refine RW.index tabOk g1.1 g1.2 e1 ⟨rfl, rfl, rfl, rfl⟩ rfl rfl rfl rfl rfl rfl ?_
    refine RW.pure tabOk 1 rfl ?_
    refine RW.load tabOk [.int .i64 ((rd p0.List_ it5_0).From)] ((a1.fld 0).take 1 rfl) ⟨rfl, rfl, rfl, rfl⟩ rfl rfl rfl rfl ?_
    refine RW.pure tabOk 2 rfl ?_
    by_cases c2 : ((rd p0.List_ it5_0).From) ≤ p1
    ·
     rw [if_pos c2] at H
     refine RW.bool 21 (b' := true) (decide_eq_true c2) rfl ?_
     refine RW.pure tabOk 5 rfl ?_
     refine RW.load tabOk [.slice A1 p0.List_.length c_1] (h5.at 2) ⟨rfl, rfl, rfl, rfl⟩ rfl rfl rfl rfl ?_
     obtain ⟨g2, H⟩ := guard_some H
     obtain ⟨ad2, e2, a2⟩ := kEntry_at h6 g2.1 g2.2
     refine RW.index tabOk g2.1 g2.2 e2 ⟨rfl, rfl, rfl, rfl⟩ rfl rfl rfl rfl rfl rfl ?_
     refine RW.pure tabOk 1 rfl ?_
     refine RW.load tabOk [.int .i64 ((rd p0.List_ it5_0).From)] ((a2.fld 0).take 1 rfl) ⟨rfl, rfl, rfl, rfl⟩ rfl rfl rfl rfl ?_
     refine RW.load tabOk [.slice A1 p0.List_.length c_1] (h5.at 2) ⟨rfl, rfl, rfl, rfl⟩ rfl rfl rfl rfl ?_
     obtain ⟨g3, H⟩ := guard_some H
     obtain ⟨ad3, e3, a3⟩ := kEntry_at h6 g3.1 g3.2
     refine RW.index tabOk g3.1 g3.2 e3 ⟨rfl, rfl, rfl, rfl⟩ rfl rfl rfl rfl rfl rfl ?_
     refine RW.pure tabOk 1 rfl ?_
     refine RW.load tabOk [.int .i64 ((rd p0.List_ it5_0).Len)] ((a3.fld 1).take 1 rfl) ⟨rfl, rfl, rfl, rfl⟩ rfl rfl rfl rfl ?_
     refine RW.pure tabOk 3 rfl ?_
     refine RW.done ?_
     have h7 := Ext.trans x0_0 x2
     exact NW.J fun a ha => ⟨(decide (p1 < (w64 (((rd p0.List_ it5_0).From) + ((rd p0.List_ it5_0).Len))))), ha.sub ⟨rfl, rfl, rfl, rfl, trivial⟩, by omega, h6, h7, h5, H⟩
    ·
     rw [if_neg c2] at H
     refine RW.bool 21 (b' := false) (decide_eq_false c2) rfl ?_
     refine RW.pure tabOk 16 rfl ?_
     refine RW.done ?_
     have h8 := Ext.trans x0_0 x2
     exact NW.J fun a ha => ⟨false, ha.sub ⟨rfl, rfl, rfl, rfl, trivial⟩, by omega, h6, h8, h5, H⟩
   intro a w3 hJ hp
   obtain ⟨bt37_1, hS, hle, gF1_1, x0_1, gb1_1, H⟩ := hJ
   unfold hermitageref7_In.j0 at H
   refine CW.go hp hS ?_
   by_cases c3 : bt37_1 = true
   ·
    rw [if_pos c3] at H
    refine CW.cond_t rfl (c3) ?_
    refine CW.seq ?_
    refine CW.lex [.W, .W] rfl ?_
    refine RW.pure tabOk 2 rfl ?_
    refine RW.done ?_
    refine NW.next ?_
    refine CW.ret ?_
    refine NW.ret_block (NW.ret_then (NW.ret_then (NW.ret_block (NW.ret_then ?_))))
    obtain rfl := Option.some.inj H
    exact NW.ret1 rfl (by rfl) ⟨rfl, x0_1⟩
   ·
    rw [if_neg c3] at H
    refine CW.cond_f rfl (bool_f c3) ?_
    refine CW.skip ?_
    refine NW.norm_block (NW.next ?_)
    refine CW.lex [.W, .W, .W] rfl ?_
    refine RW.pure tabOk 3 rfl ?_
    refine RW.done ?_
    exact NW.J fun a ha => ⟨n1, Nat.lt_succ_self n1, (w64 (it5_0 + 1)), ha.sub ⟨rfl, rfl, rfl, trivial⟩, by omega, gF1_1, x0_1, gb1_1, H⟩
  ·
   rw [if_neg c1] at H
   refine CW.cond_f rfl (decide_eq_false c1) ?_
   refine CW.exit ?_
   refine NW.exit_then (NW.exit_then (NW.exit_hit ?_))
   refine NW.next ?_
   refine CW.seq ?_
   refine CW.lex [.W] rfl ?_
   refine RW.pure tabOk 1 rfl ?_
   refine RW.done ?_
   refine NW.next ?_
   refine CW.ret ?_
   obtain rfl := Option.some.inj H
   exact NW.ret1 rfl (by rfl) ⟨rfl, x0_0⟩

set_option maxHeartbeats 4000000 in
set_option maxRecDepth 100000 in
theorem hermitageref7_Lose.calls (k : Nat) (p0 : Table) (A1 : Option Addr) (c_1 : Nat) (p1 : Int) (r : Table × Int) (w : World) (hs1 : Sl kEntry w.heap okAll A1 p0.List_) (hl1 : p0.List_.length ≤ c_1) (H : hermitageref7_Lose.f k p0 p1 = some r) :
    Calls Try.prog 54 #[.agg #[.int .i64 p0.Dev, .int .i64 p0.Size, .slice A1 p0.List_.length c_1], .int .i64 p1] w fun e w' => ∃ (B1 : Option Addr) (d1 : Nat), e = .returned (.tuple #[.agg #[.int .i64 r.1.Dev, .int .i64 r.1.Size, .slice B1 r.1.List_.length d1], .int .i64 r.2]) ∧ Ext w w' ∧ Ow kEntry 45 w'.heap (okL [(w.heap.size, none, some 45)]) (okL []) B1 d1 r.1.List_ := by
 have h1 : Sl kEntry w.heap (okL [(0, some w.heap.size, none)]) A1 p0.List_ := hs1.old _ rfl
 have x0 : Ext w w := Upd.refl _ w
 unfold hermitageref7_Lose.f at H
 refine calls_start Try.func54 rfl 39 rfl [.agg #[.int .i64 p0.Dev, .int .i64 p0.Size, .slice A1 p0.List_.length c_1], .int .i64 p1] rfl ?_
 refine CW.seq ?_
 refine CW.lex [.X, .X, .W] rfl ?_
 refine RW.box (cs := [.int .i64 p0.Dev, .int .i64 p0.Size, .slice A1 p0.List_.length c_1]) (.inl rfl) ⟨rfl, rfl, rfl, rfl⟩ rfl rfl rfl ?_
 intro b1 w1 x1 l1 h2
 have sx1 := x1.size
 have ltb1 := h2.lt
 refine RW.alloc tabOk (.inl rfl) ⟨rfl, rfl, rfl, rfl⟩ rfl rfl ?_
 intro b2 w2 x2 l2 h3
 have sx2 := x2.size
 have ltb2 := h3.lt
 refine RW.pure tabOk 1 rfl ?_
 refine RW.done ?_
 refine NW.next ?_
 refine CW.seq ?_
 refine CW.lex [.L, .X, .M] rfl ?_
 have h4 := h2.ext x2
 refine RW.load tabOk [.int .i64 p0.Dev, .int .i64 p0.Size, .slice A1 p0.List_.length c_1] (h4.at 0) ⟨rfl, rfl, rfl, rfl⟩ rfl rfl rfl rfl ?_
 have h5 := (h1.ext x1).ext x2
 obtain ⟨y1, h6, H⟩ := bind_some H
 refine RW.callF (.inl rfl) ent21 ⟨rfl, rfl, rfl, rfl⟩ rfl rfl (hermitageref0_CopyTable.calls k p0 A1 c_1 _ _ h5.all hl1 h6) ?_
 rintro _ w3 ⟨A2, c_2, rfl, x3, h7⟩
 refine ⟨_, rfl, x3, ?_⟩
 have sx3 := x3.size
 have h8 : Ow kEntry 45 w3.heap (okL [(w2.heap.size, some w3.heap.size, some 45)]) (okL []) A2 c_2 y1.List_ := h7.close
 have h9 := h4.ext x3
 refine RW.storeBox tabOk h9 [.int .i64 y1.Dev, .int .i64 y1.Size, .slice A2 y1.List_.length c_2] ⟨rfl, rfl, rfl⟩ rfl rfl rfl rfl rfl rfl rfl rfl ?_
 intro w4 x4 h10
 have h11 : Box w4.heap b1 24 [.int .i64 y1.Dev, .int .i64 y1.Size, .slice A2 y1.List_.length c_2] := h10
 have sx4 := x4.size
 refine RW.done ?_
 refine NW.next ?_
 refine CW.seq ?_
 refine CW.lex [.L, .W, .X, .W] rfl ?_
 refine RW.load tabOk [.int .i64 y1.Dev, .int .i64 y1.Size, .slice A2 y1.List_.length c_2] (h11.at 0) ⟨rfl, rfl, rfl, rfl⟩ rfl rfl rfl rfl ?_
 refine RW.pure tabOk 1 rfl ?_
 have h12 := h8.turnB x4 h9 ⟨.inl (show (45 : Nat) ≠ 24 by decide), trivial⟩ trivial
 obtain ⟨y2, h13, H⟩ := bind_some H
 refine RW.callF (.inl rfl) ent86 ⟨rfl, rfl, rfl, rfl⟩ rfl rfl (hermitageref7_In.calls k y1 A2 c_2 p1 _ _ h12.all h12.len h13) ?_
 rintro _ w5 ⟨rfl, x5⟩
 refine ⟨_, rfl, x5, ?_⟩
 have sx5 := x5.size
 refine RW.pure tabOk 1 rfl ?_
 refine RW.done ?_
 refine NW.next ?_
 refine CW.seq ?_
 refine CW.seq ?_
 refine CW.lex [.W, .W] rfl ?_
 refine RW.pure tabOk 2 rfl ?_
 refine RW.done ?_
 refine NW.next ?_
 by_cases c1 : y2 < 0
 ·
  rw [if_pos c1] at H
  refine CW.cond_t rfl (decide_eq_true c1) ?_
  refine CW.seq ?_
  refine CW.lex [.W, .M, .W] rfl ?_
  refine RW.pure tabOk 1 rfl ?_
  have h14 := ((h3.ext x3).turnB x4 (by omega)).ext x5
  refine RW.storeBox tabOk h14 [.int .i64 0, .int .i64 0, .slice none 0 0] ⟨rfl, rfl, rfl⟩ rfl rfl rfl rfl rfl rfl rfl rfl ?_
  intro w6 x6 h15
  have h16 : Box w6.heap b2 24 [.int .i64 0, .int .i64 0, .slice none 0 0] := h15
  have sx6 := x6.size
  refine RW.pure tabOk 1 rfl ?_
  refine RW.done ?_
  refine NW.next ?_
  refine CW.ret ?_
  refine NW.ret_then ?_
  obtain rfl := Option.some.inj H
  have h17 := Ext.turnB (Ext.trans (Ext.turnB (Ext.trans (Ext.trans (Ext.trans x0 x1) x2) x3) x4 (by omega)) x5) x6 (by omega)
  exact NW.ret2 rfl (resOne_cell tabOk (h16.at 0) rfl rfl rfl) (by rfl) ⟨none, 0, rfl, h17, Ow.nil⟩
 ·
  rw [if_neg c1] at H
  refine CW.cond_f rfl (decide_eq_false c1) ?_
  refine CW.skip ?_
  refine NW.next ?_
  refine CW.seq ?_
  refine CW.seq ?_
  refine CW.ord [0, 1, 0, 7, 15, 31, 0, 64, 0, 448, 960, 1984, 4095] (ofL [(0, .W), (2, .W), (6, .W), (8, .W), (1, .L), (3, .W), (4, .W), (5, .L), (7, .L), (9, .W), (10, .W), (11, .L), (12, .W)] .nil) mixed (by kernel_rfl) ?_
  intro w7 x7
  have sx7 := x7.size
  refine RW.pure tabOk 4 rfl ?_
  have h18 := (h11.ext x5).ext x7
  refine RW.load tabOk [.slice A2 y1.List_.length c_2] (h18.at 2) ⟨rfl, rfl, rfl, rfl⟩ rfl rfl rfl rfl ?_
  obtain ⟨g1, H⟩ := guard_some H
  have h19 := (h12.ext x5).ext x7
  obtain ⟨ad1, e1, a1⟩ := kEntry_at h19.slL g1.1 g1.2
  refine RW.index tabOk g1.1 g1.2 e1 ⟨rfl, rfl, rfl, rfl⟩ rfl rfl rfl rfl rfl rfl ?_
  refine RW.pure tabOk 1 rfl ?_
  refine RW.load tabOk [.int .i64 ((rd y1.List_ y2).Stale)] (a1.fld 4) ⟨rfl, rfl, rfl, rfl⟩ rfl rfl rfl rfl ?_
  refine RW.load tabOk [.slice A2 y1.List_.length c_2] (h18.at 2) ⟨rfl, rfl, rfl, rfl⟩ rfl rfl rfl rfl ?_
  obtain ⟨g2, H⟩ := guard_some H
  obtain ⟨ad2, e2, a2⟩ := kEntry_at h19.slL g2.1 g2.2
  refine RW.index tabOk g2.1 g2.2 e2 ⟨rfl, rfl, rfl, rfl⟩ rfl rfl rfl rfl rfl rfl ?_
  refine RW.pure tabOk 1 rfl ?_
  refine RW.load tabOk [.int .i64 ((rd y1.List_ y2).Len)] ((a2.fld 1).take 1 rfl) ⟨rfl, rfl, rfl, rfl⟩ rfl rfl rfl rfl ?_
  refine RW.pure tabOk 1 rfl ?_
  refine RW.done ?_
  refine NW.next ?_
  by_cases c2 : ((rd y1.List_ y2).Len) ≤ ((rd y1.List_ y2).Stale)
  ·
   rw [if_pos c2] at H
   refine CW.cond_t rfl (decide_eq_true c2) ?_
   refine CW.seq ?_
   refine CW.lex [.W, .M, .W] rfl ?_
   refine RW.pure tabOk 1 rfl ?_
   have h20 := (((h3.ext x3).turnB x4 (by omega)).ext x5).ext x7
   refine RW.storeBox tabOk h20 [.int .i64 0, .int .i64 0, .slice none 0 0] ⟨rfl, rfl, rfl⟩ rfl rfl rfl rfl rfl rfl rfl rfl ?_
   intro w8 x8 h21
   have h22 : Box w8.heap b2 24 [.int .i64 0, .int .i64 0, .slice none 0 0] := h21
   have sx8 := x8.size
   refine RW.pure tabOk 1 rfl ?_
   refine RW.done ?_
   refine NW.next ?_
   refine CW.ret ?_
   refine NW.ret_then ?_
   obtain rfl := Option.some.inj H
   have h23 := Ext.turnB (Ext.trans (Ext.trans (Ext.turnB (Ext.trans (Ext.trans (Ext.trans x0 x1) x2) x3) x4 (by omega)) x5) x7) x8 (by omega)
   exact NW.ret2 rfl (resOne_cell tabOk (h22.at 0) rfl rfl rfl) (by rfl) ⟨none, 0, rfl, h23, Ow.nil⟩
  ·
   rw [if_neg c2] at H
   refine CW.cond_f rfl (decide_eq_false c2) ?_
   refine CW.skip ?_
   refine NW.next ?_
   refine CW.seq ?_
   refine CW.lex [.W, .L, .W, .W, .W, .L, .W, .W, .W, .M] rfl ?_
   refine RW.pure tabOk 1 rfl ?_
   refine RW.load tabOk [.slice A2 y1.List_.length c_2] (h18.at 2) ⟨rfl, rfl, rfl, rfl⟩ rfl rfl rfl rfl ?_
   refine RW.pure tabOk 1 rfl ?_
   obtain ⟨g3, H⟩ := guard_some H
   obtain ⟨ad3, e3, a3⟩ := kEntry_at h19.slL g3.1 g3.2
   refine RW.index tabOk g3.1 g3.2 e3 ⟨rfl, rfl, rfl, rfl⟩ rfl rfl rfl rfl rfl rfl ?_
   refine RW.pure tabOk 1 rfl ?_
   refine RW.load tabOk [.int .i64 ((rd y1.List_ y2).Stale)] (a3.fld 4) ⟨rfl, rfl, rfl, rfl⟩ rfl rfl rfl rfl ?_
   refine RW.pure tabOk 1 rfl ?_
   obtain ⟨g4, H⟩ := guard_some H
   obtain ⟨ad4, e4, a4⟩ := kEntry_at h19.slL g4.1 g4.2
   refine RW.index tabOk g4.1 g4.2 e4 ⟨rfl, rfl, rfl, rfl⟩ rfl rfl rfl rfl rfl rfl ?_
   refine RW.pure tabOk 1 rfl ?_
   refine RW.storeElL (y := (⟨(rd y1.List_ y2).From, (rd y1.List_ y2).Len, (rd y1.List_ y2).Dev, (rd y1.List_ y2).To, w64 (((rd y1.List_ y2).Stale) + 1)⟩ : Entry)) (lv := []) (k := 4) tabOk h19 (j := y2.toNat) (by have := g4; omega) default [.int .i64 (w64 (((rd y1.List_ y2).Stale) + 1))] (fun cs ok' hr => by obtain rfl := kEntry_open hr; exact ⟨by simp, kEntry_mk (⟨(rd y1.List_ y2).From, (rd y1.List_ y2).Len, (rd y1.List_ y2).Dev, (rd y1.List_ y2).To, w64 (((rd y1.List_ y2).Stale) + 1)⟩ : Entry)⟩) trivial ⟨rfl, rfl, rfl⟩ rfl rfl e4 rfl rfl rfl rfl rfl ?_
   intro w9 x9 h24
   have sx9 := x9.size
   have h25 := h24.sub (l' := [(w2.heap.size, some w3.heap.size, some 45)]) (li' := []) ⟨(.inl ⟨by omega, by omega, rfl⟩), trivial⟩ trivial
   have h26 := h18.turnL x9 (.inl (by decide))
   have h27 : Box w9.heap b1 24 [.int .i64 y1.Dev, .int .i64 y1.Size, .slice A2 (y1.List_.set y2.toNat (⟨(rd y1.List_ y2).From, (rd y1.List_ y2).Len, (rd y1.List_ y2).Dev, (rd y1.List_ y2).To, w64 (((rd y1.List_ y2).Stale) + 1)⟩ : Entry)).length c_2] := by simpa only [List.length_set] using h26
   refine RW.done ?_
   refine NW.next ?_
   refine CW.seq ?_
   refine CW.lex [.L, .M, .W] rfl ?_
   refine RW.load tabOk [.int .i64 y1.Dev, .int .i64 y1.Size, .slice A2 (y1.List_.set y2.toNat (⟨(rd y1.List_ y2).From, (rd y1.List_ y2).Len, (rd y1.List_ y2).Dev, (rd y1.List_ y2).To, w64 (((rd y1.List_ y2).Stale) + 1)⟩ : Entry)).length c_2] (h27.at 0) ⟨rfl, rfl, rfl, rfl⟩ rfl rfl rfl rfl ?_
   have h28 := ((((h3.ext x3).turnB x4 (by omega)).ext x5).ext x7).turnL x9 (.inl (by decide))
   refine RW.storeBox tabOk h28 [.int .i64 y1.Dev, .int .i64 y1.Size, .slice A2 (y1.List_.set y2.toNat (⟨(rd y1.List_ y2).From, (rd y1.List_ y2).Len, (rd y1.List_ y2).Dev, (rd y1.List_ y2).To, w64 (((rd y1.List_ y2).Stale) + 1)⟩ : Entry)).length c_2] ⟨rfl, rfl, rfl⟩ rfl rfl rfl rfl rfl rfl rfl rfl ?_
   intro w10 x10 h29
   have h30 : Box w10.heap b2 24 [.int .i64 y1.Dev, .int .i64 y1.Size, .slice A2 (y1.List_.set y2.toNat (⟨(rd y1.List_ y2).From, (rd y1.List_ y2).Len, (rd y1.List_ y2).Dev, (rd y1.List_ y2).To, w64 (((rd y1.List_ y2).Stale) + 1)⟩ : Entry)).length c_2] := h29
   have sx10 := x10.size
   refine RW.pure tabOk 1 rfl ?_
   refine RW.done ?_
   refine NW.next ?_
   refine CW.ret ?_
   have h31 := h25.turnB x10 h28 ⟨.inl (show (45 : Nat) ≠ 24 by decide), trivial⟩ trivial
   obtain rfl := Option.some.inj H
   have h32 := Ext.turnB (Ext.turn (Ext.trans (Ext.trans (Ext.turnB (Ext.trans (Ext.trans (Ext.trans x0 x1) x2) x3) x4 (by omega)) x5) x7) x9 ⟨by omega, trivial⟩) x10 (by omega)
   exact NW.ret2 rfl (resOne_cell tabOk (h30.at 0) rfl rfl rfl) (by rfl) ⟨A2, c_2, rfl, h32, (h31.sub (l' := [(w.heap.size, none, some 45)]) (li' := []) ⟨(.inl ⟨by omega, trivial, rfl⟩), trivial⟩ trivial)⟩

set_option maxHeartbeats 4000000 in
set_option maxRecDepth 100000 in
theorem hermitageref7_Tidy.calls (k : Nat) (p0 : Table) (A1 : Option Addr) (c_1 : Nat) (r : Table) (w : World) (hs1 : Sl kEntry w.heap okAll A1 p0.List_) (hl1 : p0.List_.length ≤ c_1) (H : hermitageref7_Tidy.f k p0 = some r) :
    Calls Try.prog 55 #[.agg #[.int .i64 p0.Dev, .int .i64 p0.Size, .slice A1 p0.List_.length c_1]] w fun e w' => ∃ (B1 : Option Addr) (d1 : Nat), e = .returned (.agg #[.int .i64 r.Dev, .int .i64 r.Size, .slice B1 r.List_.length d1]) ∧ Ext w w' ∧ Ow kEntry 45 w'.heap (okL [(w.heap.size, none, some 45)]) (okL []) B1 d1 r.List_ := by
 have h1 : Sl kEntry w.heap (okL [(0, some w.heap.size, none)]) A1 p0.List_ := hs1.old _ rfl
 have x0 : Ext w w := Upd.refl _ w
 unfold hermitageref7_Tidy.f at H
 refine calls_start Try.func55 rfl 41 rfl [.agg #[.int .i64 p0.Dev, .int .i64 p0.Size, .slice A1 p0.List_.length c_1]] rfl ?_
 refine CW.seq ?_
 refine CW.lex [.X, .X] rfl ?_
 refine RW.box (cs := [.int .i64 p0.Dev, .int .i64 p0.Size, .slice A1 p0.List_.length c_1]) (.inl rfl) ⟨rfl, rfl, rfl, rfl⟩ rfl rfl rfl ?_
 intro b1 w1 x1 l1 h2
 have sx1 := x1.size
 have ltb1 := h2.lt
 refine RW.alloc tabOk (.inl rfl) ⟨rfl, rfl, rfl, rfl⟩ rfl rfl ?_
 intro b2 w2 x2 l2 h3
 have sx2 := x2.size
 have ltb2 := h3.lt
 refine RW.done ?_
 refine NW.next ?_
 refine CW.seq ?_
 refine CW.lex [.W, .L, .W, .L, .W, .X, .M] rfl ?_
 refine RW.pure tabOk 1 rfl ?_
 have h4 := h2.ext x2
 refine RW.load tabOk [.int .i64 p0.Dev] ((h4.at 0).take 1 rfl) ⟨rfl, rfl, rfl, rfl⟩ rfl rfl rfl rfl ?_
 refine RW.pure tabOk 1 rfl ?_
 refine RW.load tabOk [.int .i64 p0.Size] ((h4.at 1).take 1 rfl) ⟨rfl, rfl, rfl, rfl⟩ rfl rfl rfl rfl ?_
 refine RW.pure tabOk 1 rfl ?_
 refine RW.alloc tabOk (.inl rfl) ⟨rfl, rfl, rfl, rfl⟩ rfl rfl ?_
 intro b3 w3 x3 l3 h5
 have sx3 := x3.size
 have ltb3 := h5.lt
 refine RW.storeBox tabOk h5 [.int .i64 p0.Dev, .int .i64 p0.Size, .slice none 0 0] ⟨rfl, rfl, rfl⟩ rfl rfl rfl rfl rfl rfl rfl rfl ?_
 intro w4 x4 h6
 have h7 : Box w4.heap b3 24 [.int .i64 p0.Dev, .int .i64 p0.Size, .slice none 0 0] := h6
 have sx4 := x4.size
 refine RW.done ?_
 refine NW.next ?_
 refine CW.seq ?_
 refine CW.seq ?_
 refine CW.lex [.W] rfl ?_
 refine RW.pure tabOk 1 rfl ?_
 refine RW.done ?_
 refine NW.next ?_
 refine CW.block ?_
 refine CW.loop (fun n1 a w5 => ∃ (it4_0 : Int) (lb3_2_0 : List Entry) (Ab3_2_0 : Option Addr) (cb3_2_0 : Nat), Sat 41 [(1, .pointer (some ⟨b1, 0, none⟩)), (2, .pointer (some ⟨b2, 0, none⟩)), (3, .pointer (some ⟨b3, 0, none⟩)), (4, .int .i64 it4_0)] a ∧ w4.heap.size ≤ w5.heap.size ∧ Sl kEntry w5.heap (okL [(0, some w.heap.size, none)]) A1 p0.List_ ∧ Ow kEntry 45 w5.heap (okL [(w4.heap.size, none, some 45)]) (okL []) Ab3_2_0 cb3_2_0 lb3_2_0 ∧ Ext w w5 ∧ Box w5.heap b1 24 [.int .i64 p0.Dev, .int .i64 p0.Size, .slice A1 p0.List_.length c_1] ∧ Box w5.heap b2 24 [.int .i64 0, .int .i64 0, .slice none 0 0] ∧ Box w5.heap b3 24 [.int .i64 p0.Dev, .int .i64 p0.Size, .slice Ab3_2_0 lb3_2_0.length cb3_2_0] ∧ hermitageref7_Tidy.l0 p0 n1 it4_0 lb3_2_0 = some r) k ?_ ?_
 have h8 := (((h1.ext x1).ext x2).ext x3).turnB x4 h5 ⟨.inr (by omega), trivial⟩
 have h9 := Ext.turnB (Ext.trans (Ext.trans (Ext.trans x0 x1) x2) x3) x4 (by omega)
 have h10 := (h4.ext x3).turnB x4 (by omega)
 have h11 := (h3.ext x3).turnB x4 (by omega)
 · exact fun a ha => ⟨0, ([] : List Entry), none, 0, ha.sub ⟨rfl, rfl, rfl, rfl, trivial⟩, by omega, h8, Ow.nil, h9, h10, h11, h7, H⟩
 intro n1 a w5 hI hp
 obtain ⟨it4_0, lb3_2_0, Ab3_2_0, cb3_2_0, hS, hle, gF1_0, fb3_2_0, x0_0, gb1_0, gb2_0, gb3_0, H⟩ := hI
 cases n1 with
 | zero => cases H
 | succ n1 =>
  rw [hermitageref7_Tidy.l0] at H
  refine CW.go hp hS ?_
  have h12 : Ow kEntry 45 w5.heap (okL [(w4.heap.size, some w5.heap.size, some 45)]) (okL []) Ab3_2_0 cb3_2_0 lb3_2_0 := fb3_2_0.close
  refine CW.seq ?_
  refine CW.seq ?_
  refine CW.lex [.W, .W, .L, .W, .W] rfl ?_
  refine RW.pure tabOk 2 rfl ?_
  refine RW.load tabOk [.slice A1 p0.List_.length c_1] (gb1_0.at 2) ⟨rfl, rfl, rfl, rfl⟩ rfl rfl rfl rfl ?_
  refine RW.pure tabOk 2 rfl ?_
  refine RW.done ?_
  refine NW.next ?_
  by_cases c1 : it4_0 < (p0.List_.length : Int)
  ·
   rw [if_pos c1] at H
   refine CW.cond_t rfl (decide_eq_true c1) ?_
   refine CW.skip ?_
   refine NW.next ?_
   refine CW.seqJ (fun a w6 => ∃ (lb3_2_1 : List Entry) (Ab3_2_1 : Option Addr) (cb3_2_1 : Nat), Sat 41 [(1, .pointer (some ⟨b1, 0, none⟩)), (2, .pointer (some ⟨b2, 0, none⟩)), (3, .pointer (some ⟨b3, 0, none⟩)), (4, .int .i64 it4_0)] a ∧ w5.heap.size ≤ w6.heap.size ∧ Sl kEntry w6.heap (okL [(0, some w.heap.size, none)]) A1 p0.List_ ∧ Ow kEntry 45 w6.heap (okL [(w4.heap.size, none, some 45)]) (okL []) Ab3_2_1 cb3_2_1 lb3_2_1 ∧ Ext w w6 ∧ Box w6.heap b1 24 [.int .i64 p0.Dev, .int .i64 p0.Size, .slice A1 p0.List_.length c_1] ∧ Box w6.heap b2 24 [.int .i64 0, .int .i64 0, .slice none 0 0] ∧ Box w6.heap b3 24 [.int .i64 p0.Dev, .int .i64 p0.Size, .slice Ab3_2_1 lb3_2_1.length cb3_2_1] ∧ hermitageref7_Tidy.j0 it4_0 (hermitageref7_Tidy.l0 p0 n1) lb3_2_1 = some r) ?_ ?_
   ·
    refine CW.block ?_
    refine CW.seq ?_
    refine CW.ord [0, 1, 0, 7, 15, 31, 0, 64, 0, 448, 960, 1984, 4095] (ofL [(0, .W), (2, .W), (6, .W), (8, .W), (1, .L), (3, .W), (4, .W), (5, .L), (7, .L), (9, .W), (10, .W), (11, .L), (12, .W)] .nil) mixed (by kernel_rfl) ?_
    intro w7 x5
    have sx5 := x5.size
    refine RW.pure tabOk 4 rfl ?_
    have h13 := gb1_0.ext x5
    refine RW.load tabOk [.slice A1 p0.List_.length c_1] (h13.at 2) ⟨rfl, rfl, rfl, rfl⟩ rfl rfl rfl rfl ?_
    obtain ⟨g1, H⟩ := guard_some H
    have h14 := gF1_0.ext x5
    obtain ⟨ad1, e1, a1⟩ := kEntry_at h14 g1.1 g1.2
    refine RW.index tabOk g1.1 g1.2 e1 ⟨rfl, rfl, rfl, rfl⟩ rfl rfl rfl rfl rfl rfl ?_
    refine RW.pure tabOk 1 rfl ?_
    refine RW.load tabOk [.int .i64 ((rd p0.List_ it4_0).Stale)] (a1.fld 4) ⟨rfl, rfl, rfl, rfl⟩ rfl rfl rfl rfl ?_
    refine RW.load tabOk [.slice A1 p0.List_.length c_1] (h13.at 2) ⟨rfl, rfl, rfl, rfl⟩ rfl rfl rfl rfl ?_
    obtain ⟨g2, H⟩ := guard_some H
    obtain ⟨ad2, e2, a2⟩ := kEntry_at h14 g2.1 g2.2
    refine RW.index tabOk g2.1 g2.2 e2 ⟨rfl, rfl, rfl, rfl⟩ rfl rfl rfl rfl rfl rfl ?_
    refine RW.pure tabOk 1 rfl ?_
    refine RW.load tabOk [.int .i64 ((rd p0.List_ it4_0).Len)] ((a2.fld 1).take 1 rfl) ⟨rfl, rfl, rfl, rfl⟩ rfl rfl rfl rfl ?_
    refine RW.pure tabOk 1 rfl ?_
    refine RW.done ?_
    refine NW.next ?_
    by_cases c2 : ((rd p0.List_ it4_0).Stale) < ((rd p0.List_ it4_0).Len)
    ·
     rw [if_pos c2] at H
     refine CW.cond_t rfl (decide_eq_true c2) ?_
     refine CW.ord [0, 1, 0, 4, 0, 28, 60, 124, 255, 511, 1023] (ofL [(0, .W), (2, .W), (4, .W), (1, .L), (3, .L), (5, .W), (6, .L), (7, .X), (8, .M), (9, .W), (10, .M)] .nil) mixed (by kernel_rfl) ?_
     intro w8 x6
     have sx6 := x6.size
     refine RW.pure tabOk 3 rfl ?_
     have h15 := (gb3_0.ext x5).ext x6
     refine RW.load tabOk [.slice Ab3_2_0 lb3_2_0.length cb3_2_0] (h15.at 2) ⟨rfl, rfl, rfl, rfl⟩ rfl rfl rfl rfl ?_
     have h16 := h13.ext x6
     refine RW.load tabOk [.slice A1 p0.List_.length c_1] (h16.at 2) ⟨rfl, rfl, rfl, rfl⟩ rfl rfl rfl rfl ?_
     obtain ⟨g3, H⟩ := guard_some H
     have h17 := h14.ext x6
     obtain ⟨ad3, e3, a3⟩ := kEntry_at h17 g3.1 g3.2
     refine RW.index tabOk g3.1 g3.2 e3 ⟨rfl, rfl, rfl, rfl⟩ rfl rfl rfl rfl rfl rfl ?_
     refine RW.load tabOk [.int .i64 ((rd p0.List_ it4_0).From), .int .i64 ((rd p0.List_ it4_0).Len), .int .i64 ((rd p0.List_ it4_0).Dev), .int .i64 ((rd p0.List_ it4_0).To), .int .i64 ((rd p0.List_ it4_0).Stale)] a3 ⟨rfl, rfl, rfl, rfl⟩ rfl rfl rfl rfl ?_
     refine RW.buildSlice (cs := [.int .i64 ((rd p0.List_ it4_0).From), .int .i64 ((rd p0.List_ it4_0).Len), .int .i64 ((rd p0.List_ it4_0).Dev), .int .i64 ((rd p0.List_ it4_0).To), .int .i64 ((rd p0.List_ it4_0).Stale)]) tabOk (.inl rfl) ⟨rfl, rfl, rfl, rfl⟩ rfl rfl rfl rfl rfl rfl rfl ?_
     intro b4 w9 x7 l4 h18
     have sx7 := x7.size
     have ltb4 := h18.lt
     have h19 := ((h12.ext x5).ext x6).ext x7
     obtain ⟨g4, H⟩ := guard_some H
     refine RW.append1L (d := kEntry) (v := (rd p0.List_ it4_0)) (l := [(w4.heap.size, some w5.heap.size, some 45)]) (li := []) (ly := []) (xs := lb3_2_0) tabOk h19 h18 (kEntry_mk (rd p0.List_ it4_0)) trivial (by simp only [maxLen]; omega) g4 ⟨rfl, rfl, rfl, rfl⟩ rfl rfl rfl rfl rfl rfl rfl ?_
     intro A2 c_2 w10 x8 h20
     have sx8 := x8.size
     have h21 := h20.close.sub (l' := [(w4.heap.size, some w10.heap.size, some 45)]) (li' := []) ⟨(.inl ⟨by omega, by omega, rfl⟩), ⟨(.inl ⟨by omega, by omega, rfl⟩), trivial⟩⟩ trivial
     refine RW.pure tabOk 1 rfl ?_
     have h22 := (h15.ext x7).turnL x8 (.inl (by decide))
     refine RW.storeBox tabOk h22 [.slice A2 (lb3_2_0 ++ [(rd p0.List_ it4_0)]).length c_2] ⟨rfl, rfl, rfl⟩ rfl rfl rfl rfl rfl rfl rfl rfl ?_
     intro w11 x9 h23
     have h24 : Box w11.heap b3 24 [.int .i64 p0.Dev, .int .i64 p0.Size, .slice A2 (lb3_2_0 ++ [(rd p0.List_ it4_0)]).length c_2] := h23
     have sx9 := x9.size
     refine RW.done ?_
     refine NW.norm_block ?_
     have h25 := ((h17.ext x7).turnL x8 ⟨⟨.inr (.inl (by omega)), trivial⟩, trivial⟩).turnB x9 h22 ⟨.inr (by omega), trivial⟩
     have h26 := h21.turnB x9 h22 ⟨.inl (show (45 : Nat) ≠ 24 by decide), trivial⟩ trivial
     have h27 := Ext.turnB (Ext.turn (Ext.trans (Ext.trans (Ext.trans x0_0 x5) x6) x7) x8 ⟨by omega, trivial⟩) x9 (by omega)
     have h28 := ((h16.ext x7).turnL x8 (.inl (by decide))).turnB x9 (by omega)
     have h29 := ((((gb2_0.ext x5).ext x6).ext x7).turnL x8 (.inl (by decide))).turnB x9 (by omega)
     exact NW.J fun a ha => ⟨(lb3_2_0 ++ [(rd p0.List_ it4_0)]), A2, c_2, ha.sub ⟨rfl, rfl, rfl, rfl, trivial⟩, by omega, h25, (h26.sub ⟨(.inl ⟨by omega, trivial, rfl⟩), trivial⟩ trivial), h27, h28, h29, h24, H⟩
    ·
     rw [if_neg c2] at H
     refine CW.cond_f rfl (decide_eq_false c2) ?_
     refine CW.skip ?_
     refine NW.norm_block ?_
     have h30 := h12.ext x5
     have h31 := Ext.trans x0_0 x5
     have h32 := gb2_0.ext x5
     have h33 := gb3_0.ext x5
     exact NW.J fun a ha => ⟨lb3_2_0, Ab3_2_0, cb3_2_0, ha.sub ⟨rfl, rfl, rfl, rfl, trivial⟩, by omega, h14, (h30.sub ⟨(.inl ⟨by omega, trivial, rfl⟩), trivial⟩ trivial), h31, h13, h32, h33, H⟩
   intro a w6 hJ hp
   obtain ⟨lb3_2_1, Ab3_2_1, cb3_2_1, hS, hle, gF1_1, fb3_2_1, x0_1, gb1_1, gb2_1, gb3_1, H⟩ := hJ
   unfold hermitageref7_Tidy.j0 at H
   refine CW.go hp hS ?_
   have h34 : Ow kEntry 45 w6.heap (okL [(w4.heap.size, some w6.heap.size, some 45)]) (okL []) Ab3_2_1 cb3_2_1 lb3_2_1 := fb3_2_1.close
   refine CW.lex [.W, .W, .W] rfl ?_
   refine RW.pure tabOk 3 rfl ?_
   refine RW.done ?_
   exact NW.J fun a ha => ⟨n1, Nat.lt_succ_self n1, (w64 (it4_0 + 1)), lb3_2_1, Ab3_2_1, cb3_2_1, ha.sub ⟨rfl, rfl, rfl, rfl, trivial⟩, by omega, gF1_1, (h34.sub ⟨(.inl ⟨by omega, trivial, rfl⟩), trivial⟩ trivial), x0_1, gb1_1, gb2_1, gb3_1, H⟩
  ·
   rw [if_neg c1] at H
   refine CW.cond_f rfl (decide_eq_false c1) ?_
   refine CW.exit ?_
   refine NW.exit_then (NW.exit_then (NW.exit_hit ?_))
   refine NW.next ?_
   refine CW.seq ?_
   refine CW.lex [.L, .M] rfl ?_
   refine RW.load tabOk [.int .i64 p0.Dev, .int .i64 p0.Size, .slice Ab3_2_0 lb3_2_0.length cb3_2_0] (gb3_0.at 0) ⟨rfl, rfl, rfl, rfl⟩ rfl rfl rfl rfl ?_
   refine RW.storeBox tabOk gb2_0 [.int .i64 p0.Dev, .int .i64 p0.Size, .slice Ab3_2_0 lb3_2_0.length cb3_2_0] ⟨rfl, rfl, rfl⟩ rfl rfl rfl rfl rfl rfl rfl rfl ?_
   intro w12 x10 h35
   have h36 : Box w12.heap b2 24 [.int .i64 p0.Dev, .int .i64 p0.Size, .slice Ab3_2_0 lb3_2_0.length cb3_2_0] := h35
   have sx10 := x10.size
   refine RW.done ?_
   refine NW.next ?_
   refine CW.ret ?_
   have h37 := h12.turnB x10 gb2_0 ⟨.inl (show (45 : Nat) ≠ 24 by decide), trivial⟩ trivial
   obtain rfl := Option.some.inj H
   have h38 := Ext.turnB x0_0 x10 (by omega)
   exact NW.ret1 rfl (resOne_cell tabOk (h36.at 0) rfl rfl rfl) ⟨Ab3_2_0, cb3_2_0, rfl, h38, (h37.sub (l' := [(w.heap.size, none, some 45)]) (li' := []) ⟨(.inl ⟨by omega, trivial, rfl⟩), trivial⟩ trivial)⟩

set_option maxHeartbeats 4000000 in
set_option maxRecDepth 100000 in
theorem hermitageref7_Live.calls (k : Nat) (p0 : Table) (A1 : Option Addr) (c_1 : Nat) (r : Int) (w : World) (hs1 : Sl kEntry w.heap okAll A1 p0.List_) (hl1 : p0.List_.length ≤ c_1) (H : hermitageref7_Live.f k p0 = some r) :
    Calls Try.prog 56 #[.agg #[.int .i64 p0.Dev, .int .i64 p0.Size, .slice A1 p0.List_.length c_1]] w fun e w' => e = .returned (.int .i64 r) ∧ Ext w w' := by
 have h1 : Sl kEntry w.heap (okL [(0, some w.heap.size, none)]) A1 p0.List_ := hs1.old _ rfl
 have x0 : Ext w w := Upd.refl _ w
 unfold hermitageref7_Live.f at H
 refine calls_start Try.func56 rfl 28 rfl [.agg #[.int .i64 p0.Dev, .int .i64 p0.Size, .slice A1 p0.List_.length c_1]] rfl ?_
 refine CW.seq ?_
 refine CW.lex [.X, .W] rfl ?_
 refine RW.box (cs := [.int .i64 p0.Dev, .int .i64 p0.Size, .slice A1 p0.List_.length c_1]) (.inl rfl) ⟨rfl, rfl, rfl, rfl⟩ rfl rfl rfl ?_
 intro b1 w1 x1 l1 h2
 have sx1 := x1.size
 have ltb1 := h2.lt
 refine RW.pure tabOk 1 rfl ?_
 refine RW.done ?_
 refine NW.next ?_
 refine CW.seq ?_
 refine CW.lex [.W] rfl ?_
 refine RW.pure tabOk 1 rfl ?_
 refine RW.done ?_
 refine NW.next ?_
 refine CW.seq ?_
 refine CW.seq ?_
 refine CW.lex [.W] rfl ?_
 refine RW.pure tabOk 1 rfl ?_
 refine RW.done ?_
 refine NW.next ?_
 refine CW.block ?_
 refine CW.loop (fun n1 a w2 => ∃ (it3_0 : Int) (it4_0 : Int), Sat 28 [(1, .pointer (some ⟨b1, 0, none⟩)), (3, .int .i64 it3_0), (4, .int .i64 it4_0)] a ∧ w1.heap.size ≤ w2.heap.size ∧ Sl kEntry w2.heap (okL [(0, some w.heap.size, none)]) A1 p0.List_ ∧ Ext w w2 ∧ Box w2.heap b1 24 [.int .i64 p0.Dev, .int .i64 p0.Size, .slice A1 p0.List_.length c_1] ∧ hermitageref7_Live.l0 p0 n1 it3_0 it4_0 = some r) k ?_ ?_
 have h3 := h1.ext x1
 have h4 := Ext.trans x0 x1
 · exact fun a ha => ⟨0, 0, ha.sub ⟨rfl, rfl, rfl, trivial⟩, by omega, h3, h4, h2, H⟩
 intro n1 a w2 hI hp
 obtain ⟨it3_0, it4_0, hS, hle, gF1_0, x0_0, gb1_0, H⟩ := hI
 cases n1 with
 | zero => cases H
 | succ n1 =>
  rw [hermitageref7_Live.l0] at H
  refine CW.go hp hS ?_
  refine CW.seq ?_
  refine CW.seq ?_
  refine CW.lex [.W, .W, .L, .W, .W] rfl ?_
  refine RW.pure tabOk 2 rfl ?_
  refine RW.load tabOk [.slice A1 p0.List_.length c_1] (gb1_0.at 2) ⟨rfl, rfl, rfl, rfl⟩ rfl rfl rfl rfl ?_
  refine RW.pure tabOk 2 rfl ?_
  refine RW.done ?_
  refine NW.next ?_
  by_cases c1 : it4_0 < (p0.List_.length : Int)
  ·
   rw [if_pos c1] at H
   refine CW.cond_t rfl (decide_eq_true c1) ?_
   refine CW.skip ?_
   refine NW.next ?_
   refine CW.seq ?_
   refine CW.block ?_
   refine CW.ord [0, 0, 2, 0, 14, 30, 62, 127, 0, 256, 0, 1792, 3840, 7936, 16383, 32767] (ofL [(0, .W), (1, .W), (3, .W), (8, .W), (10, .W), (2, .L), (4, .W), (5, .W), (6, .L), (7, .W), (9, .L), (11, .W), (12, .W), (13, .L), (14, .W), (15, .W)] .nil) mixed (by kernel_rfl) ?_
   intro w3 x2
   have sx2 := x2.size
   refine RW.pure tabOk 5 rfl ?_
   have h5 := gb1_0.ext x2
   refine RW.load tabOk [.slice A1 p0.List_.length c_1] (h5.at 2) ⟨rfl, rfl, rfl, rfl⟩ rfl rfl rfl rfl ?_
   obtain ⟨g1, H⟩ := guard_some H
   have h6 := gF1_0.ext x2
   obtain ⟨ad1, e1, a1⟩ := kEntry_at h6 g1.1 g1.2
   refine RW.index tabOk g1.1 g1.2 e1 ⟨rfl, rfl, rfl, rfl⟩ rfl rfl rfl rfl rfl rfl ?_
   refine RW.pure tabOk 1 rfl ?_
   refine RW.load tabOk [.int .i64 ((rd p0.List_ it4_0).Len)] ((a1.fld 1).take 1 rfl) ⟨rfl, rfl, rfl, rfl⟩ rfl rfl rfl rfl ?_
   refine RW.pure tabOk 1 rfl ?_
   refine RW.load tabOk [.slice A1 p0.List_.length c_1] (h5.at 2) ⟨rfl, rfl, rfl, rfl⟩ rfl rfl rfl rfl ?_
   obtain ⟨g2, H⟩ := guard_some H
   obtain ⟨ad2, e2, a2⟩ := kEntry_at h6 g2.1 g2.2
   refine RW.index tabOk g2.1 g2.2 e2 ⟨rfl, rfl, rfl, rfl⟩ rfl rfl rfl rfl rfl rfl ?_
   refine RW.pure tabOk 1 rfl ?_
   refine RW.load tabOk [.int .i64 ((rd p0.List_ it4_0).Stale)] (a2.fld 4) ⟨rfl, rfl, rfl, rfl⟩ rfl rfl rfl rfl ?_
   refine RW.pure tabOk 2 rfl ?_
   refine RW.done ?_
   refine NW.norm_block (NW.next ?_)
   refine CW.lex [.W, .W, .W] rfl ?_
   refine RW.pure tabOk 3 rfl ?_
   refine RW.done ?_
   have h7 := Ext.trans x0_0 x2
   exact NW.J fun a ha => ⟨n1, Nat.lt_succ_self n1, (w64 ((w64 (it3_0 + ((rd p0.List_ it4_0).Len))) - ((rd p0.List_ it4_0).Stale))), (w64 (it4_0 + 1)), ha.sub ⟨rfl, rfl, rfl, trivial⟩, by omega, h6, h7, h5, H⟩
  ·
   rw [if_neg c1] at H
   refine CW.cond_f rfl (decide_eq_false c1) ?_
   refine CW.exit ?_
   refine NW.exit_then (NW.exit_then (NW.exit_hit ?_))
   refine NW.next ?_
   refine CW.seq ?_
   refine CW.lex [.W, .W] rfl ?_
   refine RW.pure tabOk 2 rfl ?_
   refine RW.done ?_
   refine NW.next ?_
   refine CW.ret ?_
   obtain rfl := Option.some.inj H
   exact NW.ret1 rfl (by rfl) ⟨rfl, x0_0⟩

set_option maxHeartbeats 4000000 in
set_option maxRecDepth 100000 in
theorem hermitageref7_Look.calls (k : Nat) (p0 : Table) (A1 : Option Addr) (c_1 : Nat) (p1 : Int) (r : Ptr × Bool) (w : World) (hs1 : Sl kEntry w.heap okAll A1 p0.List_) (hl1 : p0.List_.length ≤ c_1) (H : hermitageref7_Look.f k p0 p1 = some r) :
    Calls Try.prog 57 #[.agg #[.int .i64 p0.Dev, .int .i64 p0.Size, .slice A1 p0.List_.length c_1], .int .i64 p1] w fun e w' => e = .returned (.tuple #[.agg #[.int .i64 r.1.Dev, .int .i64 r.1.At], .bool r.2]) ∧ Ext w w' := by
 have h1 : Sl kEntry w.heap (okL [(0, some w.heap.size, none)]) A1 p0.List_ := hs1.old _ rfl
 have x0 : Ext w w := Upd.refl _ w
 unfold hermitageref7_Look.f at H
 refine calls_start Try.func57 rfl 35 rfl [.agg #[.int .i64 p0.Dev, .int .i64 p0.Size, .slice A1 p0.List_.length c_1], .int .i64 p1] rfl ?_
 refine CW.seq ?_
 refine CW.lex [.X, .X, .W] rfl ?_
 refine RW.box (cs := [.int .i64 p0.Dev, .int .i64 p0.Size, .slice A1 p0.List_.length c_1]) (.inl rfl) ⟨rfl, rfl, rfl, rfl⟩ rfl rfl rfl ?_
 intro b1 w1 x1 l1 h2
 have sx1 := x1.size
 have ltb1 := h2.lt
 refine RW.alloc tabOk (.inl rfl) ⟨rfl, rfl, rfl, rfl⟩ rfl rfl ?_
 intro b2 w2 x2 l2 h3
 have sx2 := x2.size
 have ltb2 := h3.lt
 refine RW.pure tabOk 1 rfl ?_
 refine RW.done ?_
 refine NW.next ?_
 refine CW.seq ?_
 refine CW.lex [.L, .W, .X, .W] rfl ?_
 have h4 := h2.ext x2
 refine RW.load tabOk [.int .i64 p0.Dev, .int .i64 p0.Size, .slice A1 p0.List_.length c_1] (h4.at 0) ⟨rfl, rfl, rfl, rfl⟩ rfl rfl rfl rfl ?_
 refine RW.pure tabOk 1 rfl ?_
 have h5 := (h1.ext x1).ext x2
 obtain ⟨y1, h6, H⟩ := bind_some H
 refine RW.callF (.inl rfl) ent86 ⟨rfl, rfl, rfl, rfl⟩ rfl rfl (hermitageref7_In.calls k p0 A1 c_1 p1 _ _ h5.all hl1 h6) ?_
 rintro _ w3 ⟨rfl, x3⟩
 refine ⟨_, rfl, x3, ?_⟩
 have sx3 := x3.size
 refine RW.pure tabOk 1 rfl ?_
 refine RW.done ?_
 refine NW.next ?_
 refine CW.seq ?_
 refine CW.seq ?_
 refine CW.lex [.W, .W] rfl ?_
 refine RW.pure tabOk 2 rfl ?_
 refine RW.done ?_
 refine NW.next ?_
 by_cases c1 : y1 < 0
 ·
  rw [if_pos c1] at H
  refine CW.cond_t rfl (decide_eq_true c1) ?_
  refine CW.seq ?_
  refine CW.lex [.W, .M, .W] rfl ?_
  refine RW.pure tabOk 1 rfl ?_
  have h7 := h3.ext x3
  refine RW.storeBox tabOk h7 [.int .i64 0, .int .i64 0] ⟨rfl, rfl, rfl⟩ rfl rfl rfl rfl rfl rfl rfl rfl ?_
  intro w4 x4 h8
  have h9 : Box w4.heap b2 33 [.int .i64 0, .int .i64 0] := h8
  have sx4 := x4.size
  refine RW.pure tabOk 1 rfl ?_
  refine RW.done ?_
  refine NW.next ?_
  refine CW.ret ?_
  refine NW.ret_then ?_
  obtain rfl := Option.some.inj H
  have h10 := Ext.turnB (Ext.trans (Ext.trans (Ext.trans x0 x1) x2) x3) x4 (by omega)
  exact NW.ret2 rfl (resOne_cell tabOk (h9.at 0) rfl rfl rfl) (by rfl) ⟨rfl, h10⟩
 ·
  rw [if_neg c1] at H
  refine CW.cond_f rfl (decide_eq_false c1) ?_
  refine CW.skip ?_
  refine NW.next ?_
  refine CW.seq ?_
  refine CW.ord [0, 1, 0, 7, 15, 31, 0, 64, 0, 448, 960, 1984, 0, 8128, 0, 16384, 0, 114688, 245760, 507904, 1048512, 2097151, 4194303, 8388607] (ofL [(0, .W), (2, .W), (6, .W), (8, .W), (12, .W), (14, .W), (16, .W), (1, .L), (3, .W), (4, .W), (5, .L), (7, .L), (9, .W), (10, .W), (11, .L), (13, .W), (15, .L), (17, .W), (18, .W), (19, .L), (20, .W), (21, .W), (22, .M), (23, .W)] .nil) mixed (by kernel_rfl) ?_
  intro w5 x5
  have sx5 := x5.size
  refine RW.pure tabOk 7 rfl ?_
  have h11 := (h4.ext x3).ext x5
  refine RW.load tabOk [.slice A1 p0.List_.length c_1] (h11.at 2) ⟨rfl, rfl, rfl, rfl⟩ rfl rfl rfl rfl ?_
  obtain ⟨g1, H⟩ := guard_some H
  have h12 := (h5.ext x3).ext x5
  obtain ⟨ad1, e1, a1⟩ := kEntry_at h12 g1.1 g1.2
  refine RW.index tabOk g1.1 g1.2 e1 ⟨rfl, rfl, rfl, rfl⟩ rfl rfl rfl rfl rfl rfl ?_
  refine RW.pure tabOk 1 rfl ?_
  refine RW.load tabOk [.int .i64 ((rd p0.List_ y1).Dev)] ((a1.fld 2).take 1 rfl) ⟨rfl, rfl, rfl, rfl⟩ rfl rfl rfl rfl ?_
  refine RW.load tabOk [.slice A1 p0.List_.length c_1] (h11.at 2) ⟨rfl, rfl, rfl, rfl⟩ rfl rfl rfl rfl ?_
  obtain ⟨g2, H⟩ := guard_some H
  obtain ⟨ad2, e2, a2⟩ := kEntry_at h12 g2.1 g2.2
  refine RW.index tabOk g2.1 g2.2 e2 ⟨rfl, rfl, rfl, rfl⟩ rfl rfl rfl rfl rfl rfl ?_
  refine RW.pure tabOk 1 rfl ?_
  refine RW.load tabOk [.int .i64 ((rd p0.List_ y1).To)] ((a2.fld 3).take 1 rfl) ⟨rfl, rfl, rfl, rfl⟩ rfl rfl rfl rfl ?_
  refine RW.pure tabOk 1 rfl ?_
  refine RW.load tabOk [.slice A1 p0.List_.length c_1] (h11.at 2) ⟨rfl, rfl, rfl, rfl⟩ rfl rfl rfl rfl ?_
  obtain ⟨g3, H⟩ := guard_some H
  obtain ⟨ad3, e3, a3⟩ := kEntry_at h12 g3.1 g3.2
  refine RW.index tabOk g3.1 g3.2 e3 ⟨rfl, rfl, rfl, rfl⟩ rfl rfl rfl rfl rfl rfl ?_
  refine RW.pure tabOk 1 rfl ?_
  refine RW.load tabOk [.int .i64 ((rd p0.List_ y1).From)] ((a3.fld 0).take 1 rfl) ⟨rfl, rfl, rfl, rfl⟩ rfl rfl rfl rfl ?_
  refine RW.pure tabOk 2 rfl ?_
  have h13 := (h3.ext x3).ext x5
  refine RW.storeBox tabOk h13 [.int .i64 ((rd p0.List_ y1).Dev), .int .i64 (w64 ((w64 (((rd p0.List_ y1).To) + p1)) - ((rd p0.List_ y1).From)))] ⟨rfl, rfl, rfl⟩ rfl rfl rfl rfl rfl rfl rfl rfl ?_
  intro w6 x6 h14
  have h15 : Box w6.heap b2 33 [.int .i64 ((rd p0.List_ y1).Dev), .int .i64 (w64 ((w64 (((rd p0.List_ y1).To) + p1)) - ((rd p0.List_ y1).From)))] := h14
  have sx6 := x6.size
  refine RW.pure tabOk 1 rfl ?_
  refine RW.done ?_
  refine NW.next ?_
  refine CW.ret ?_
  obtain rfl := Option.some.inj H
  have h16 := Ext.turnB (Ext.trans (Ext.trans (Ext.trans (Ext.trans x0 x1) x2) x3) x5) x6 (by omega)
  exact NW.ret2 rfl (resOne_cell tabOk (h15.at 0) rfl rfl rfl) (by rfl) ⟨rfl, h16⟩

set_option maxHeartbeats 4000000 in
set_option maxRecDepth 100000 in
theorem hermitageref0_EqEntries.calls (k : Nat) (A1 : Option Addr) (c_1 : Nat) (p0 : List Entry) (A2 : Option Addr) (c_2 : Nat) (p1 : List Entry) (r : Bool) (w : World) (hs1 : Sl kEntry w.heap okAll A1 p0) (hl1 : p0.length ≤ c_1) (hs2 : Sl kEntry w.heap okAll A2 p1) (hl2 : p1.length ≤ c_2) (H : hermitageref0_EqEntries.f k p0 p1 = some r) :
    Calls Try.prog 60 #[.slice A1 p0.length c_1, .slice A2 p1.length c_2] w fun e w' => e = .returned (.bool r) ∧ Ext w w' := by
 have h1 : Sl kEntry w.heap (okL [(0, some w.heap.size, none)]) A1 p0 := hs1.old _ rfl
 have h2 : Sl kEntry w.heap (okL [(0, some w.heap.size, none)]) A2 p1 := hs2.old _ rfl
 have x0 : Ext w w := Upd.refl _ w
 unfold hermitageref0_EqEntries.f at H
 refine calls_start Try.func60 rfl 26 rfl [.slice A1 p0.length c_1, .slice A2 p1.length c_2] rfl ?_
 refine CW.seq ?_
 refine CW.lex [.W] rfl ?_
 refine RW.pure tabOk 1 rfl ?_
 refine RW.done ?_
 refine NW.next ?_
 refine CW.seq ?_
 refine CW.seq ?_
 refine CW.lex [.W, .W, .W, .W, .W] rfl ?_
 refine RW.pure tabOk 5 rfl ?_
 refine RW.done ?_
 refine NW.next ?_
 by_cases c1 : (p0.length : Int) = (p1.length : Int)
 ·
  rw [if_pos c1] at H
  refine CW.cond_f rfl (bne_f c1) ?_
  refine CW.skip ?_
  refine NW.next ?_
  refine CW.seq ?_
  refine CW.seq ?_
  refine CW.lex [.W] rfl ?_
  refine RW.pure tabOk 1 rfl ?_
  refine RW.done ?_
  refine NW.next ?_
  refine CW.block ?_
  refine CW.loop (fun n1 a w1 => ∃ (it5_0 : Int), Sat 26 [(0, .slice A1 p0.length c_1), (1, .slice A2 p1.length c_2), (5, .int .i64 it5_0)] a ∧ w.heap.size ≤ w1.heap.size ∧ Sl kEntry w1.heap (okL [(0, some w.heap.size, none)]) A1 p0 ∧ Sl kEntry w1.heap (okL [(0, some w.heap.size, none)]) A2 p1 ∧ Ext w w1 ∧ hermitageref0_EqEntries.l0 p0 p1 n1 it5_0 = some r) k ?_ ?_
  · exact fun a ha => ⟨0, ha.sub ⟨rfl, rfl, rfl, trivial⟩, by omega, h1, h2, x0, H⟩
  intro n1 a w1 hI hp
  obtain ⟨it5_0, hS, hle, gF1_0, gF2_0, x0_0, H⟩ := hI
  cases n1 with
  | zero => cases H
  | succ n1 =>
   rw [hermitageref0_EqEntries.l0] at H
   refine CW.go hp hS ?_
   refine CW.seq ?_
   refine CW.seq ?_
   refine CW.lex [.W, .W, .W, .W] rfl ?_
   refine RW.pure tabOk 4 rfl ?_
   refine RW.done ?_
   refine NW.next ?_
   by_cases c2 : it5_0 < (p0.length : Int)
   ·
    rw [if_pos c2] at H
    refine CW.cond_t rfl (decide_eq_true c2) ?_
    refine CW.skip ?_
    refine NW.next ?_
    refine CW.seq ?_
    refine CW.block ?_
    refine CW.seq ?_
    refine CW.ord [0, 0, 3, 7, 0, 0, 48, 112, 255] (ofL [(0, .W), (1, .W), (2, .W), (4, .W), (5, .W), (6, .W), (3, .L), (7, .L), (8, .W)] .nil) mixed (by kernel_rfl) ?_
    intro w2 x1
    have sx1 := x1.size
    refine RW.pure tabOk 2 rfl ?_
    obtain ⟨g1, H⟩ := guard_some H
    have h3 := gF1_0.ext x1
    obtain ⟨ad1, e1, a1⟩ := kEntry_at h3 g1.1 g1.2
    refine RW.index tabOk g1.1 g1.2 e1 ⟨rfl, rfl, rfl, rfl⟩ rfl rfl rfl rfl rfl rfl ?_
    refine RW.pure tabOk 2 rfl ?_
    obtain ⟨g2, H⟩ := guard_some H
    have h4 := gF2_0.ext x1
    obtain ⟨ad2, e2, a2⟩ := kEntry_at h4 g2.1 g2.2
    refine RW.index tabOk g2.1 g2.2 e2 ⟨rfl, rfl, rfl, rfl⟩ rfl rfl rfl rfl rfl rfl ?_
    refine RW.load tabOk [.int .i64 ((rd p0 it5_0).From), .int .i64 ((rd p0 it5_0).Len), .int .i64 ((rd p0 it5_0).Dev), .int .i64 ((rd p0 it5_0).To), .int .i64 ((rd p0 it5_0).Stale)] a1 ⟨rfl, rfl, rfl, rfl⟩ rfl rfl rfl rfl ?_
    refine RW.load tabOk [.int .i64 ((rd p1 it5_0).From), .int .i64 ((rd p1 it5_0).Len), .int .i64 ((rd p1 it5_0).Dev), .int .i64 ((rd p1 it5_0).To), .int .i64 ((rd p1 it5_0).Stale)] a2 ⟨rfl, rfl, rfl, rfl⟩ rfl rfl rfl rfl ?_
    refine RW.eqAgg eqgEntry (eqEntry (rd p0 it5_0) (rd p1 it5_0)) ⟨rfl, rfl, rfl, rfl⟩ rfl rfl rfl rfl ?_
    refine RW.done ?_
    refine NW.next ?_
    by_cases c3 : (rd p0 it5_0) = (rd p1 it5_0)
    ·
     rw [if_pos c3] at H
     refine CW.cond_f rfl (not_f (decide_eq_true c3)) ?_
     refine CW.skip ?_
     refine NW.norm_block (NW.next ?_)
     refine CW.lex [.W, .W, .W] rfl ?_
     refine RW.pure tabOk 3 rfl ?_
     refine RW.done ?_
     have h5 := Ext.trans x0_0 x1
     exact NW.J fun a ha => ⟨n1, Nat.lt_succ_self n1, (w64 (it5_0 + 1)), ha.sub ⟨rfl, rfl, rfl, trivial⟩, by omega, h3, h4, h5, H⟩
    ·
     rw [if_neg c3] at H
     refine CW.cond_t rfl (not_t (decide_eq_false c3)) ?_
     refine CW.seq ?_
     refine CW.lex [.W] rfl ?_
     refine RW.pure tabOk 1 rfl ?_
     refine RW.done ?_
     refine NW.next ?_
     refine CW.ret ?_
     refine NW.ret_block (NW.ret_then (NW.ret_then (NW.ret_block (NW.ret_then ?_))))
     obtain rfl := Option.some.inj H
     have h6 := Ext.trans x0_0 x1
     exact NW.ret1 rfl (by rfl) ⟨rfl, h6⟩
   ·
    rw [if_neg c2] at H
    refine CW.cond_f rfl (decide_eq_false c2) ?_
    refine CW.exit ?_
    refine NW.exit_then (NW.exit_then (NW.exit_hit ?_))
    refine NW.next ?_
    refine CW.seq ?_
    refine CW.lex [.W] rfl ?_
    refine RW.pure tabOk 1 rfl ?_
    refine RW.done ?_
    refine NW.next ?_
    refine CW.ret ?_
    obtain rfl := Option.some.inj H
    exact NW.ret1 rfl (by rfl) ⟨rfl, x0_0⟩
 ·
  rw [if_neg c1] at H
  refine CW.cond_t rfl (bne_t c1) ?_
  refine CW.seq ?_
  refine CW.lex [.W] rfl ?_
  refine RW.pure tabOk 1 rfl ?_
  refine RW.done ?_
  refine NW.next ?_
  refine CW.ret ?_
  refine NW.ret_then ?_
  obtain rfl := Option.some.inj H
  exact NW.ret1 rfl (by rfl) ⟨rfl, x0⟩

set_option maxHeartbeats 4000000 in
set_option maxRecDepth 100000 in
theorem hermitageref0_EqTable.calls (k : Nat) (p0 : Table) (A1 : Option Addr) (c_1 : Nat) (p1 : Table) (A2 : Option Addr) (c_2 : Nat) (r : Bool) (w : World) (hs1 : Sl kEntry w.heap okAll A1 p0.List_) (hl1 : p0.List_.length ≤ c_1) (hs2 : Sl kEntry w.heap okAll A2 p1.List_) (hl2 : p1.List_.length ≤ c_2) (H : hermitageref0_EqTable.f k p0 p1 = some r) :
    Calls Try.prog 58 #[.agg #[.int .i64 p0.Dev, .int .i64 p0.Size, .slice A1 p0.List_.length c_1], .agg #[.int .i64 p1.Dev, .int .i64 p1.Size, .slice A2 p1.List_.length c_2]] w fun e w' => e = .returned (.bool r) ∧ Ext w w' := by
 have h1 : Sl kEntry w.heap (okL [(0, some w.heap.size, none)]) A1 p0.List_ := hs1.old _ rfl
 have h2 : Sl kEntry w.heap (okL [(0, some w.heap.size, none)]) A2 p1.List_ := hs2.old _ rfl
 have x0 : Ext w w := Upd.refl _ w
 unfold hermitageref0_EqTable.f at H
 refine calls_start Try.func58 rfl 24 rfl [.agg #[.int .i64 p0.Dev, .int .i64 p0.Size, .slice A1 p0.List_.length c_1], .agg #[.int .i64 p1.Dev, .int .i64 p1.Size, .slice A2 p1.List_.length c_2]] rfl ?_
 refine CW.seq ?_
 refine CW.lex [.X, .X, .W] rfl ?_
 refine RW.box (cs := [.int .i64 p0.Dev, .int .i64 p0.Size, .slice A1 p0.List_.length c_1]) (.inl rfl) ⟨rfl, rfl, rfl, rfl⟩ rfl rfl rfl ?_
 intro b1 w1 x1 l1 h3
 have sx1 := x1.size
 have ltb1 := h3.lt
 refine RW.box (cs := [.int .i64 p1.Dev, .int .i64 p1.Size, .slice A2 p1.List_.length c_2]) (.inl rfl) ⟨rfl, rfl, rfl, rfl⟩ rfl rfl rfl ?_
 intro b2 w2 x2 l2 h4
 have sx2 := x2.size
 have ltb2 := h4.lt
 refine RW.pure tabOk 1 rfl ?_
 refine RW.done ?_
 refine NW.next ?_
 refine CW.seq ?_
 refine CW.lex [.W, .L, .W, .L, .W, .W, .W, .L, .W, .L, .W, .W, .W, .W, .L, .W, .L, .X, .W, .W] rfl ?_
 refine RW.pure tabOk 1 rfl ?_
 have h5 := h3.ext x2
 refine RW.load tabOk [.int .i64 p0.Dev] ((h5.at 0).take 1 rfl) ⟨rfl, rfl, rfl, rfl⟩ rfl rfl rfl rfl ?_
 refine RW.pure tabOk 1 rfl ?_
 refine RW.load tabOk [.int .i64 p1.Dev] ((h4.at 0).take 1 rfl) ⟨rfl, rfl, rfl, rfl⟩ rfl rfl rfl rfl ?_
 refine RW.pure tabOk 2 rfl ?_
 by_cases c1 : p0.Dev = p1.Dev
 ·
  rw [if_pos c1] at H
  refine RW.bool 10 (b' := true) (beq_t c1) rfl ?_
  refine RW.pure tabOk 1 rfl ?_
  refine RW.load tabOk [.int .i64 p0.Size] ((h5.at 1).take 1 rfl) ⟨rfl, rfl, rfl, rfl⟩ rfl rfl rfl rfl ?_
  refine RW.pure tabOk 1 rfl ?_
  refine RW.load tabOk [.int .i64 p1.Size] ((h4.at 1).take 1 rfl) ⟨rfl, rfl, rfl, rfl⟩ rfl rfl rfl rfl ?_
  refine RW.pure tabOk 3 rfl ?_
  by_cases c2 : p0.Size = p1.Size
  ·
   rw [if_pos c2] at H
   refine RW.bool 17 (b' := true) (beq_t c2) rfl ?_
   refine RW.pure tabOk 1 rfl ?_
   refine RW.load tabOk [.slice A1 p0.List_.length c_1] (h5.at 2) ⟨rfl, rfl, rfl, rfl⟩ rfl rfl rfl rfl ?_
   refine RW.pure tabOk 1 rfl ?_
   refine RW.load tabOk [.slice A2 p1.List_.length c_2] (h4.at 2) ⟨rfl, rfl, rfl, rfl⟩ rfl rfl rfl rfl ?_
   have h6 := (h1.ext x1).ext x2
   have h7 := (h2.ext x1).ext x2
   obtain ⟨y1, h8, H⟩ := bind_some H
   refine RW.callF (.inl rfl) ent60 ⟨rfl, rfl, rfl, rfl⟩ rfl rfl (hermitageref0_EqEntries.calls k A1 c_1 p0.List_ A2 c_2 p1.List_ _ _ h6.all hl1 h7.all hl2 h8) ?_
   rintro _ w3 ⟨rfl, x3⟩
   refine ⟨_, rfl, x3, ?_⟩
   have sx3 := x3.size
   refine RW.pure tabOk 2 rfl ?_
   refine RW.done ?_
   refine NW.next ?_
   refine CW.ret ?_
   obtain rfl := Option.some.inj H
   have h9 := Ext.trans (Ext.trans (Ext.trans x0 x1) x2) x3
   exact NW.ret1 rfl (by rfl) ⟨rfl, h9⟩
  ·
   rw [if_neg c2] at H
   refine RW.bool 17 (b' := false) (beq_f c2) rfl ?_
   refine RW.pure tabOk 7 rfl ?_
   refine RW.done ?_
   refine NW.next ?_
   refine CW.ret ?_
   obtain rfl := Option.some.inj H
   have h10 := Ext.trans (Ext.trans x0 x1) x2
   exact NW.ret1 rfl (by rfl) ⟨rfl, h10⟩
 ·
  rw [if_neg c1] at H
  refine RW.bool 10 (b' := false) (beq_f c1) rfl ?_
  refine RW.pure tabOk 14 rfl ?_
  refine RW.done ?_
  refine NW.next ?_
  refine CW.ret ?_
  obtain rfl := Option.some.inj H
  have h11 := Ext.trans (Ext.trans x0 x1) x2
  exact NW.ret1 rfl (by rfl) ⟨rfl, h11⟩

set_option maxHeartbeats 4000000 in
set_option maxRecDepth 100000 in
theorem hermitageref7_Range.calls (k : Nat) (p0 : Table) (A1 : Option Addr) (c_1 : Nat) (p1 : Int) (p2 : Int) (r : (List Entry)) (w : World) (hs1 : Sl kEntry w.heap okAll A1 p0.List_) (hl1 : p0.List_.length ≤ c_1) (H : hermitageref7_Range.f k p0 p1 p2 = some r) :
    Calls Try.prog 59 #[.agg #[.int .i64 p0.Dev, .int .i64 p0.Size, .slice A1 p0.List_.length c_1], .int .i64 p1, .int .i64 p2] w fun e w' => ∃ (B1 : Option Addr) (d1 : Nat), e = .returned (.slice B1 r.length d1) ∧ Ext w w' ∧ Ow kEntry 45 w'.heap (okL [(w.heap.size, none, some 45)]) (okL []) B1 d1 r := by
 have h1 : Sl kEntry w.heap (okL [(0, some w.heap.size, none)]) A1 p0.List_ := hs1.old _ rfl
 have x0 : Ext w w := Upd.refl _ w
 unfold hermitageref7_Range.f at H
 refine calls_start Try.func59 rfl 68 rfl [.agg #[.int .i64 p0.Dev, .int .i64 p0.Size, .slice A1 p0.List_.length c_1], .int .i64 p1, .int .i64 p2] rfl ?_
 refine CW.seq ?_
 refine CW.lex [.X, .W] rfl ?_
 refine RW.box (cs := [.int .i64 p0.Dev, .int .i64 p0.Size, .slice A1 p0.List_.length c_1]) (.inl rfl) ⟨rfl, rfl, rfl, rfl⟩ rfl rfl rfl ?_
 intro b1 w1 x1 l1 h2
 have sx1 := x1.size
 have ltb1 := h2.lt
 refine RW.pure tabOk 1 rfl ?_
 refine RW.done ?_
 refine NW.next ?_
 refine CW.seq ?_
 refine CW.lex [.W] rfl ?_
 refine RW.pure tabOk 1 rfl ?_
 refine RW.done ?_
 refine NW.next ?_
 refine CW.seq ?_
 refine CW.seq ?_
 refine CW.lex [.W] rfl ?_
 refine RW.pure tabOk 1 rfl ?_
 refine RW.done ?_
 refine NW.next ?_
 refine CW.block ?_
 refine CW.loop (fun n1 a w2 => ∃ (lt7_0 : List Entry) (At7_0 : Option Addr) (ct7_0 : Nat) (it8_0 : Int), Sat 68 [(1, .int .i64 p1), (2, .int .i64 p2), (3, .pointer (some ⟨b1, 0, none⟩)), (7, .slice At7_0 lt7_0.length ct7_0), (8, .int .i64 it8_0)] a ∧ w1.heap.size ≤ w2.heap.size ∧ Ow kEntry 45 w2.heap (okL [(w1.heap.size, none, some 45)]) (okL []) At7_0 ct7_0 lt7_0 ∧ Sl kEntry w2.heap (okL [(0, some w.heap.size, none)]) A1 p0.List_ ∧ Ext w w2 ∧ Box w2.heap b1 24 [.int .i64 p0.Dev, .int .i64 p0.Size, .slice A1 p0.List_.length c_1] ∧ hermitageref7_Range.l0 p0 p1 p2 n1 lt7_0 it8_0 = some r) k ?_ ?_
 have h3 := h1.ext x1
 have h4 := Ext.trans x0 x1
 · exact fun a ha => ⟨([] : List Entry), none, 0, 0, ha.sub ⟨rfl, rfl, rfl, rfl, rfl, trivial⟩, by omega, Ow.nil, h3, h4, h2, H⟩
 intro n1 a w2 hI hp
 obtain ⟨lt7_0, At7_0, ct7_0, it8_0, hS, hle, ft7_0, gF1_0, x0_0, gb1_0, H⟩ := hI
 cases n1 with
 | zero => cases H
 | succ n1 =>
  rw [hermitageref7_Range.l0] at H
  refine CW.go hp hS ?_
  have h5 : Ow kEntry 45 w2.heap (okL [(w1.heap.size, some w2.heap.size, some 45)]) (okL []) At7_0 ct7_0 lt7_0 := ft7_0.close
  refine CW.seq ?_
  refine CW.seq ?_
  refine CW.lex [.W, .W, .L, .W, .W] rfl ?_
  refine RW.pure tabOk 2 rfl ?_
  refine RW.load tabOk [.slice A1 p0.List_.length c_1] (gb1_0.at 2) ⟨rfl, rfl, rfl, rfl⟩ rfl rfl rfl rfl ?_
  refine RW.pure tabOk 2 rfl ?_
  refine RW.done ?_
  refine NW.next ?_
  by_cases c1 : it8_0 < (p0.List_.length : Int)
  ·
   rw [if_pos c1] at H
   refine CW.cond_t rfl (decide_eq_true c1) ?_
   refine CW.skip ?_
   refine NW.next ?_
   refine CW.seqJ (fun a w3 => ∃ (lt7_1 : List Entry) (At7_1 : Option Addr) (ct7_1 : Nat), Sat 68 [(1, .int .i64 p1), (2, .int .i64 p2), (3, .pointer (some ⟨b1, 0, none⟩)), (7, .slice At7_1 lt7_1.length ct7_1), (8, .int .i64 it8_0)] a ∧ w2.heap.size ≤ w3.heap.size ∧ Ow kEntry 45 w3.heap (okL [(w1.heap.size, none, some 45)]) (okL []) At7_1 ct7_1 lt7_1 ∧ Sl kEntry w3.heap (okL [(0, some w.heap.size, none)]) A1 p0.List_ ∧ Ext w w3 ∧ Box w3.heap b1 24 [.int .i64 p0.Dev, .int .i64 p0.Size, .slice A1 p0.List_.length c_1] ∧ hermitageref7_Range.j0 it8_0 (hermitageref7_Range.l0 p0 p1 p2 n1) lt7_1 = some r) ?_ ?_
   ·
    refine CW.block ?_
    refine CW.seq ?_
    refine CW.lex [.W, .L, .W, .W, .L, .X, .M] rfl ?_
    refine RW.pure tabOk 1 rfl ?_
    refine RW.load tabOk [.slice A1 p0.List_.length c_1] (gb1_0.at 2) ⟨rfl, rfl, rfl, rfl⟩ rfl rfl rfl rfl ?_
    refine RW.pure tabOk 1 rfl ?_
    obtain ⟨g1, H⟩ := guard_some H
    obtain ⟨ad1, e1, a1⟩ := kEntry_at gF1_0 g1.1 g1.2
    refine RW.index tabOk g1.1 g1.2 e1 ⟨rfl, rfl, rfl, rfl⟩ rfl rfl rfl rfl rfl rfl ?_
    refine RW.load tabOk [.int .i64 ((rd p0.List_ it8_0).From), .int .i64 ((rd p0.List_ it8_0).Len), .int .i64 ((rd p0.List_ it8_0).Dev), .int .i64 ((rd p0.List_ it8_0).To), .int .i64 ((rd p0.List_ it8_0).Stale)] a1 ⟨rfl, rfl, rfl, rfl⟩ rfl rfl rfl rfl ?_
    refine RW.alloc tabOk (.inl rfl) ⟨rfl, rfl, rfl, rfl⟩ rfl rfl ?_
    intro b2 w4 x2 l2 h6
    have sx2 := x2.size
    have ltb2 := h6.lt
    refine RW.storeBox tabOk h6 [.int .i64 ((rd p0.List_ it8_0).From), .int .i64 ((rd p0.List_ it8_0).Len), .int .i64 ((rd p0.List_ it8_0).Dev), .int .i64 ((rd p0.List_ it8_0).To), .int .i64 ((rd p0.List_ it8_0).Stale)] ⟨rfl, rfl, rfl⟩ rfl rfl rfl rfl rfl rfl rfl rfl ?_
    intro w5 x3 h7
    have h8 : Box w5.heap b2 45 [.int .i64 ((rd p0.List_ it8_0).From), .int .i64 ((rd p0.List_ it8_0).Len), .int .i64 ((rd p0.List_ it8_0).Dev), .int .i64 ((rd p0.List_ it8_0).To), .int .i64 ((rd p0.List_ it8_0).Stale)] := h7
    have sx3 := x3.size
    refine RW.done ?_
    refine NW.next ?_
    refine CW.seq ?_
    refine CW.ord [0, 1, 0, 4, 0, 16, 60, 3, 255] (ofL [(0, .W), (2, .W), (4, .W), (1, .L), (7, .W), (3, .L), (5, .L), (6, .W), (8, .W)] .nil) mixed (by kernel_rfl) ?_
    intro w6 x4
    have sx4 := x4.size
    refine RW.pure tabOk 3 rfl ?_
    have h9 := h8.ext x4
    refine RW.load tabOk [.int .i64 ((rd p0.List_ it8_0).From)] ((h9.at 0).take 1 rfl) ⟨rfl, rfl, rfl, rfl⟩ rfl rfl rfl rfl ?_
    refine RW.pure tabOk 1 rfl ?_
    refine RW.load tabOk [.int .i64 ((rd p0.List_ it8_0).From)] ((h9.at 0).take 1 rfl) ⟨rfl, rfl, rfl, rfl⟩ rfl rfl rfl rfl ?_
    refine RW.load tabOk [.int .i64 ((rd p0.List_ it8_0).Len)] ((h9.at 1).take 1 rfl) ⟨rfl, rfl, rfl, rfl⟩ rfl rfl rfl rfl ?_
    refine RW.pure tabOk 2 rfl ?_
    refine RW.done ?_
    refine NW.next ?_
    refine CW.seqJ (fun a w7 => ∃ (it10_2 : Int), Sat 68 [(1, .int .i64 p1), (2, .int .i64 p2), (3, .pointer (some ⟨b1, 0, none⟩)), (7, .slice At7_0 lt7_0.length ct7_0), (8, .int .i64 it8_0), (9, .pointer (some ⟨b2, 0, none⟩)), (10, .int .i64 it10_2), (11, .int .i64 (w64 (((rd p0.List_ it8_0).From) + ((rd p0.List_ it8_0).Len))))] a ∧ w6.heap.size ≤ w7.heap.size ∧ Sl kEntry w7.heap (okL [(0, some w.heap.size, none)]) A1 p0.List_ ∧ Ow kEntry 45 w7.heap (okL [(w1.heap.size, some w2.heap.size, some 45)]) (okL []) At7_0 ct7_0 lt7_0 ∧ Ext w w7 ∧ Box w7.heap b1 24 [.int .i64 p0.Dev, .int .i64 p0.Size, .slice A1 p0.List_.length c_1] ∧ Box w7.heap b2 45 [.int .i64 ((rd p0.List_ it8_0).From), .int .i64 ((rd p0.List_ it8_0).Len), .int .i64 ((rd p0.List_ it8_0).Dev), .int .i64 ((rd p0.List_ it8_0).To), .int .i64 ((rd p0.List_ it8_0).Stale)] ∧ hermitageref7_Range.j1 p0 p1 p2 lt7_0 it8_0 (hermitageref7_Range.l0 p0 p1 p2 n1) it10_2 = some r) ?_ ?_
    ·
     refine CW.seq ?_
     refine CW.lex [.W, .W, .W] rfl ?_
     refine RW.pure tabOk 3 rfl ?_
     refine RW.done ?_
     refine NW.next ?_
     by_cases c2 : ((rd p0.List_ it8_0).From) < p1
     ·
      rw [if_pos c2] at H
      refine CW.cond_t rfl (decide_eq_true c2) ?_
      refine CW.lex [.W, .W] rfl ?_
      refine RW.pure tabOk 2 rfl ?_
      refine RW.done ?_
      have h10 := ((gF1_0.ext x2).turnB x3 h6 ⟨.inr (by omega), trivial⟩).ext x4
      have h11 := ((h5.ext x2).turnB x3 h6 ⟨.inr (by omega), trivial⟩ trivial).ext x4
      have h12 := Ext.trans (Ext.turnB (Ext.trans x0_0 x2) x3 (by omega)) x4
      have h13 := ((gb1_0.ext x2).turnB x3 (by omega)).ext x4
      exact NW.J fun a ha => ⟨p1, ha.sub ⟨rfl, rfl, rfl, rfl, rfl, rfl, rfl, rfl, trivial⟩, by omega, h10, h11, h12, h13, h9, H⟩
     ·
      rw [if_neg c2] at H
      refine CW.cond_f rfl (decide_eq_false c2) ?_
      refine CW.skip ?_
      have h14 := ((gF1_0.ext x2).turnB x3 h6 ⟨.inr (by omega), trivial⟩).ext x4
      have h15 := ((h5.ext x2).turnB x3 h6 ⟨.inr (by omega), trivial⟩ trivial).ext x4
      have h16 := Ext.trans (Ext.turnB (Ext.trans x0_0 x2) x3 (by omega)) x4
      have h17 := ((gb1_0.ext x2).turnB x3 (by omega)).ext x4
      exact NW.J fun a ha => ⟨((rd p0.List_ it8_0).From), ha.sub ⟨rfl, rfl, rfl, rfl, rfl, rfl, rfl, rfl, trivial⟩, by omega, h14, h15, h16, h17, h9, H⟩
    intro a w7 hJ hp
    obtain ⟨it10_2, hS, hle, gF1_2, gL0_t7_2, x0_2, gb1_2, gb2_2, H⟩ := hJ
    unfold hermitageref7_Range.j1 at H
    refine CW.go hp hS ?_
    refine CW.seqJ (fun a w8 => ∃ (it11_3 : Int), Sat 68 [(1, .int .i64 p1), (2, .int .i64 p2), (3, .pointer (some ⟨b1, 0, none⟩)), (7, .slice At7_0 lt7_0.length ct7_0), (8, .int .i64 it8_0), (9, .pointer (some ⟨b2, 0, none⟩)), (10, .int .i64 it10_2), (11, .int .i64 it11_3)] a ∧ w7.heap.size ≤ w8.heap.size ∧ Sl kEntry w8.heap (okL [(0, some w.heap.size, none)]) A1 p0.List_ ∧ Ow kEntry 45 w8.heap (okL [(w1.heap.size, some w2.heap.size, some 45)]) (okL []) At7_0 ct7_0 lt7_0 ∧ Ext w w8 ∧ Box w8.heap b1 24 [.int .i64 p0.Dev, .int .i64 p0.Size, .slice A1 p0.List_.length c_1] ∧ Box w8.heap b2 45 [.int .i64 ((rd p0.List_ it8_0).From), .int .i64 ((rd p0.List_ it8_0).Len), .int .i64 ((rd p0.List_ it8_0).Dev), .int .i64 ((rd p0.List_ it8_0).To), .int .i64 ((rd p0.List_ it8_0).Stale)] ∧ hermitageref7_Range.j2 p0 lt7_0 it8_0 it10_2 (hermitageref7_Range.l0 p0 p1 p2 n1) it11_3 = some r) ?_ ?_
    ·
     refine CW.seqJ (fun a w9 => ∃ (bt43_4 : Bool), Sat 68 [(1, .int .i64 p1), (2, .int .i64 p2), (3, .pointer (some ⟨b1, 0, none⟩)), (7, .slice At7_0 lt7_0.length ct7_0), (8, .int .i64 it8_0), (9, .pointer (some ⟨b2, 0, none⟩)), (10, .int .i64 it10_2), (11, .int .i64 (w64 (((rd p0.List_ it8_0).From) + ((rd p0.List_ it8_0).Len)))), (43, .bool bt43_4)] a ∧ w7.heap.size ≤ w9.heap.size ∧ Sl kEntry w9.heap (okL [(0, some w.heap.size, none)]) A1 p0.List_ ∧ Ow kEntry 45 w9.heap (okL [(w1.heap.size, some w2.heap.size, some 45)]) (okL []) At7_0 ct7_0 lt7_0 ∧ Ext w w9 ∧ Box w9.heap b1 24 [.int .i64 p0.Dev, .int .i64 p0.Size, .slice A1 p0.List_.length c_1] ∧ Box w9.heap b2 45 [.int .i64 ((rd p0.List_ it8_0).From), .int .i64 ((rd p0.List_ it8_0).Len), .int .i64 ((rd p0.List_ it8_0).Dev), .int .i64 ((rd p0.List_ it8_0).To), .int .i64 ((rd p0.List_ it8_0).Stale)] ∧ hermitageref7_Range.j3 p0 p1 p2 lt7_0 it8_0 it10_2 (hermitageref7_Range.l0 p0 p1 p2 n1) bt43_4 = some r) ?_ ?_
     ·
      refine CW.lex [.W, .W, .W, .W, .W, .W, .W, .W, .W] rfl ?_
      refine RW.pure tabOk 3 rfl ?_
      by_cases c3 : p1 ≤ 64
      ·
       rw [if_pos c3] at H
       refine RW.bool 37 (b' := true) (decide_eq_true c3) rfl ?_
       refine RW.pure tabOk 6 rfl ?_
       refine RW.done ?_
       exact NW.J fun a ha => ⟨(decide ((w64 (p1 + p2)) < (w64 (((rd p0.List_ it8_0).From) + ((rd p0.List_ it8_0).Len))))), ha.sub ⟨rfl, rfl, rfl, rfl, rfl, rfl, rfl, rfl, rfl, trivial⟩, by omega, gF1_2, gL0_t7_2, x0_2, gb1_2, gb2_2, H⟩
      ·
       rw [if_neg c3] at H
       refine RW.bool 37 (b' := false) (decide_eq_false c3) rfl ?_
       refine RW.pure tabOk 6 rfl ?_
       refine RW.done ?_
       exact NW.J fun a ha => ⟨false, ha.sub ⟨rfl, rfl, rfl, rfl, rfl, rfl, rfl, rfl, rfl, trivial⟩, by omega, gF1_2, gL0_t7_2, x0_2, gb1_2, gb2_2, H⟩
     intro a w9 hJ hp
     obtain ⟨bt43_4, hS, hle, gF1_4, gL0_t7_4, x0_4, gb1_4, gb2_4, H⟩ := hJ
     unfold hermitageref7_Range.j3 at H
     refine CW.go hp hS ?_
     by_cases c4 : bt43_4 = true
     ·
      rw [if_pos c4] at H
      refine CW.cond_t rfl (c4) ?_
      refine CW.lex [.W, .W, .W, .W] rfl ?_
      refine RW.pure tabOk 4 rfl ?_
      refine RW.done ?_
      exact NW.J fun a ha => ⟨(w64 (p1 + p2)), ha.sub ⟨rfl, rfl, rfl, rfl, rfl, rfl, rfl, rfl, trivial⟩, by omega, gF1_4, gL0_t7_4, x0_4, gb1_4, gb2_4, H⟩
     ·
      rw [if_neg c4] at H
      refine CW.cond_f rfl (bool_f c4) ?_
      refine CW.skip ?_
      exact NW.J fun a ha => ⟨(w64 (((rd p0.List_ it8_0).From) + ((rd p0.List_ it8_0).Len))), ha.sub ⟨rfl, rfl, rfl, rfl, rfl, rfl, rfl, rfl, trivial⟩, by omega, gF1_4, gL0_t7_4, x0_4, gb1_4, gb2_4, H⟩
    intro a w8 hJ hp
    obtain ⟨it11_3, hS, hle, gF1_3, gL0_t7_3, x0_3, gb1_3, gb2_3, H⟩ := hJ
    unfold hermitageref7_Range.j2 at H
    refine CW.go hp hS ?_
    refine CW.seq ?_
    refine CW.lex [.W, .W, .W] rfl ?_
    refine RW.pure tabOk 3 rfl ?_
    refine RW.done ?_
    refine NW.next ?_
    by_cases c5 : it10_2 < it11_3
    ·
     rw [if_pos c5] at H
     refine CW.cond_t rfl (decide_eq_true c5) ?_
     refine CW.lex [.W, .W, .W, .W, .W, .W, .L, .W, .L, .W, .W, .W, .L, .W, .W, .X, .M, .W] rfl ?_
     refine RW.pure tabOk 6 rfl ?_
     refine RW.load tabOk [.int .i64 ((rd p0.List_ it8_0).Dev)] ((gb2_3.at 2).take 1 rfl) ⟨rfl, rfl, rfl, rfl⟩ rfl rfl rfl rfl ?_
     refine RW.pure tabOk 1 rfl ?_
     refine RW.load tabOk [.int .i64 ((rd p0.List_ it8_0).To)] ((gb2_3.at 3).take 1 rfl) ⟨rfl, rfl, rfl, rfl⟩ rfl rfl rfl rfl ?_
     refine RW.pure tabOk 3 rfl ?_
     refine RW.load tabOk [.int .i64 ((rd p0.List_ it8_0).From)] ((gb2_3.at 0).take 1 rfl) ⟨rfl, rfl, rfl, rfl⟩ rfl rfl rfl rfl ?_
     refine RW.pure tabOk 2 rfl ?_
     refine RW.buildSlice (cs := [.int .i64 it10_2, .int .i64 (w64 (it11_3 - it10_2)), .int .i64 ((rd p0.List_ it8_0).Dev), .int .i64 (w64 ((w64 (((rd p0.List_ it8_0).To) + it10_2)) - ((rd p0.List_ it8_0).From))), .int .i64 0]) tabOk (.inl rfl) ⟨rfl, rfl, rfl, rfl⟩ rfl rfl rfl rfl rfl rfl rfl ?_
     intro b3 w10 x5 l3 h18
     have sx5 := x5.size
     have ltb3 := h18.lt
     have h19 := gL0_t7_3.ext x5
     obtain ⟨g2, H⟩ := guard_some H
     refine RW.append1L (d := kEntry) (v := (⟨it10_2, w64 (it11_3 - it10_2), (rd p0.List_ it8_0).Dev, w64 ((w64 (((rd p0.List_ it8_0).To) + it10_2)) - ((rd p0.List_ it8_0).From)), 0⟩ : Entry)) (l := [(w1.heap.size, some w2.heap.size, some 45)]) (li := []) (ly := []) (xs := lt7_0) tabOk h19 h18 (kEntry_mk (⟨it10_2, w64 (it11_3 - it10_2), (rd p0.List_ it8_0).Dev, w64 ((w64 (((rd p0.List_ it8_0).To) + it10_2)) - ((rd p0.List_ it8_0).From)), 0⟩ : Entry)) trivial (by simp only [maxLen]; omega) g2 ⟨rfl, rfl, rfl, rfl⟩ rfl rfl rfl rfl rfl rfl rfl ?_
     intro A2 c_2 w11 x6 h20
     have sx6 := x6.size
     have h21 := h20.close.sub (l' := [(w1.heap.size, some w11.heap.size, some 45)]) (li' := []) ⟨(.inl ⟨by omega, by omega, rfl⟩), ⟨(.inl ⟨by omega, by omega, rfl⟩), trivial⟩⟩ trivial
     refine RW.pure tabOk 1 rfl ?_
     refine RW.done ?_
     refine NW.norm_block ?_
     have h22 := (gF1_3.ext x5).turnL x6 ⟨⟨.inr (.inl (by omega)), trivial⟩, trivial⟩
     have h23 := Ext.turn (Ext.trans x0_3 x5) x6 ⟨by omega, trivial⟩
     have h24 := (gb1_3.ext x5).turnL x6 (.inl (by decide))
     exact NW.J fun a ha => ⟨(lt7_0 ++ [(⟨it10_2, w64 (it11_3 - it10_2), (rd p0.List_ it8_0).Dev, w64 ((w64 (((rd p0.List_ it8_0).To) + it10_2)) - ((rd p0.List_ it8_0).From)), 0⟩ : Entry)]), A2, c_2, ha.sub ⟨rfl, rfl, rfl, rfl, rfl, trivial⟩, by omega, (h21.sub ⟨(.inl ⟨by omega, trivial, rfl⟩), trivial⟩ trivial), h22, h23, h24, H⟩
    ·
     rw [if_neg c5] at H
     refine CW.cond_f rfl (decide_eq_false c5) ?_
     refine CW.skip ?_
     refine NW.norm_block ?_
     exact NW.J fun a ha => ⟨lt7_0, At7_0, ct7_0, ha.sub ⟨rfl, rfl, rfl, rfl, rfl, trivial⟩, by omega, (gL0_t7_3.sub ⟨(.inl ⟨by omega, trivial, rfl⟩), trivial⟩ trivial), gF1_3, x0_3, gb1_3, H⟩
   intro a w3 hJ hp
   obtain ⟨lt7_1, At7_1, ct7_1, hS, hle, ft7_1, gF1_1, x0_1, gb1_1, H⟩ := hJ
   unfold hermitageref7_Range.j0 at H
   refine CW.go hp hS ?_
   have h25 : Ow kEntry 45 w3.heap (okL [(w1.heap.size, some w3.heap.size, some 45)]) (okL []) At7_1 ct7_1 lt7_1 := ft7_1.close
   refine CW.lex [.W, .W, .W] rfl ?_
   refine RW.pure tabOk 3 rfl ?_
   refine RW.done ?_
   exact NW.J fun a ha => ⟨n1, Nat.lt_succ_self n1, lt7_1, At7_1, ct7_1, (w64 (it8_0 + 1)), ha.sub ⟨rfl, rfl, rfl, rfl, rfl, trivial⟩, by omega, (h25.sub ⟨(.inl ⟨by omega, trivial, rfl⟩), trivial⟩ trivial), gF1_1, x0_1, gb1_1, H⟩
  ·
   rw [if_neg c1] at H
   refine CW.cond_f rfl (decide_eq_false c1) ?_
   refine CW.exit ?_
   refine NW.exit_then (NW.exit_then (NW.exit_hit ?_))
   refine NW.next ?_
   refine CW.seq ?_
   refine CW.lex [.W, .W] rfl ?_
   refine RW.pure tabOk 2 rfl ?_
   refine RW.done ?_
   refine NW.next ?_
   refine CW.ret ?_
   obtain rfl := Option.some.inj H
   exact NW.ret1 rfl (by rfl) ⟨At7_0, ct7_0, rfl, x0_0, (h5.sub (l' := [(w.heap.size, none, some 45)]) (li' := []) ⟨(.inl ⟨by omega, trivial, rfl⟩), trivial⟩ trivial)⟩

set_option maxHeartbeats 4000000 in
set_option maxRecDepth 100000 in
theorem table_Check.calls (k : Nat) (p0 : Table) (A1 : Option Addr) (c_1 : Nat) (r : Int) (w : World) (hs1 : Sl kEntry w.heap okAll A1 p0.List_) (hl1 : p0.List_.length ≤ c_1) (H : table_Check.f k p0 = some r) :
    Calls Try.prog 61 #[.agg #[.int .i64 p0.Dev, .int .i64 p0.Size, .slice A1 p0.List_.length c_1]] w fun e w' => e = .returned (.int .i64 r) ∧ Ext w w' := by
 have h1 : Sl kEntry w.heap (okL [(0, some w.heap.size, none)]) A1 p0.List_ := hs1.old _ rfl
 have x0 : Ext w w := Upd.refl _ w
 unfold table_Check.f at H
 refine calls_start Try.func61 rfl 6 rfl [.agg #[.int .i64 p0.Dev, .int .i64 p0.Size, .slice A1 p0.List_.length c_1]] rfl ?_
 refine CW.seq ?_
 refine CW.lex [.X, .W] rfl ?_
 refine RW.box (cs := [.int .i64 p0.Dev, .int .i64 p0.Size, .slice A1 p0.List_.length c_1]) (.inl rfl) ⟨rfl, rfl, rfl, rfl⟩ rfl rfl rfl ?_
 intro b1 w1 x1 l1 h2
 have sx1 := x1.size
 have ltb1 := h2.lt
 refine RW.pure tabOk 1 rfl ?_
 refine RW.done ?_
 refine NW.next ?_
 refine CW.seq ?_
 refine CW.seq ?_
 refine CW.lex [.L, .X, .W] rfl ?_
 refine RW.load tabOk [.int .i64 p0.Dev, .int .i64 p0.Size, .slice A1 p0.List_.length c_1] (h2.at 0) ⟨rfl, rfl, rfl, rfl⟩ rfl rfl rfl rfl ?_
 have h3 := h1.ext x1
 obtain ⟨y1, h4, H⟩ := bind_some H
 refine RW.callF (.inl rfl) ent41 ⟨rfl, rfl, rfl, rfl⟩ rfl rfl (table_May.calls k p0 A1 c_1 _ _ h3.all hl1 h4) ?_
 rintro _ w2 ⟨rfl, x2⟩
 refine ⟨_, rfl, x2, ?_⟩
 have sx2 := x2.size
 refine RW.pure tabOk 1 rfl ?_
 refine RW.done ?_
 refine NW.next ?_
 by_cases c1 : y1 = true
 ·
  rw [if_pos c1] at H
  refine CW.cond_f rfl (not_f (c1)) ?_
  refine CW.skip ?_
  refine NW.next ?_
  refine CW.seq ?_
  refine CW.lex [.W] rfl ?_
  refine RW.pure tabOk 1 rfl ?_
  refine RW.done ?_
  refine NW.next ?_
  refine CW.ret ?_
  obtain rfl := Option.some.inj H
  have h5 := Ext.trans (Ext.trans x0 x1) x2
  exact NW.ret1 rfl (by rfl) ⟨rfl, h5⟩
 ·
  rw [if_neg c1] at H
  refine CW.cond_t rfl (not_t (bool_f c1)) ?_
  refine CW.seq ?_
  refine CW.lex [.W] rfl ?_
  refine RW.pure tabOk 1 rfl ?_
  refine RW.done ?_
  refine NW.next ?_
  refine CW.ret ?_
  refine NW.ret_then ?_
  obtain rfl := Option.some.inj H
  have h6 := Ext.trans (Ext.trans x0 x1) x2
  exact NW.ret1 rfl (by rfl) ⟨rfl, h6⟩

end Go.Proofs.Ytnaajldlloglkaa.W
