/- Walks; printed by a program of the claim. -/
import Derived.Test.YtnaajldlloglkaaTabW3
set_option linter.unusedVariables false
set_option linter.unusedSimpArgs false
namespace Go.Proofs.Ytnaajldlloglkaa.W
open Go.H Go.Proofs
set_option maxHeartbeats 4000000 in
set_option maxRecDepth 100000 in
theorem hermitagelaw8_only.calls (k : Nat) (p0 : hermitagelaw8Script) (A1 : Option Addr) (c_1 : Nat) (A2 : Option Addr) (c_2 : Nat) (A3 : Option Addr) (c_3 : Nat) (p1 : List Int) (r : Bool) (w : World) (hs1 : Sl kEntry w.heap okAll A1 p0.T.List_) (hl1 : p0.T.List_.length ≤ c_1) (hs2 : Sl khermitagelaw8Act w.heap okAll A2 p0.A) (hl2 : p0.A.length ≤ c_2) (hs3 : Sl (Kd.int .i64) w.heap okAll A3 p1) (hl3 : p1.length ≤ c_3) (H : hermitagelaw8_only.f k p0 p1 = some r) :
    Calls Try.prog 23 #[.agg #[.int .i64 p0.T.Dev, .int .i64 p0.T.Size, .slice A1 p0.T.List_.length c_1, .slice A2 p0.A.length c_2], .slice A3 p1.length c_3] w fun e w' => e = .returned (.bool r) ∧ Ext w w' := by
 have h1 : Sl kEntry w.heap (okL [(0, some w.heap.size, none)]) A1 p0.T.List_ := hs1.old _ rfl
 have h2 : Sl khermitagelaw8Act w.heap (okL [(0, some w.heap.size, none)]) A2 p0.A := hs2.old _ rfl
 have h3 : Sl (Kd.int .i64) w.heap (okL [(0, some w.heap.size, none)]) A3 p1 := hs3.old _ rfl
 have x0 : Ext w w := Upd.refl _ w
 unfold hermitagelaw8_only.f at H
 refine calls_start Try.func23 rfl 39 rfl [.agg #[.int .i64 p0.T.Dev, .int .i64 p0.T.Size, .slice A1 p0.T.List_.length c_1, .slice A2 p0.A.length c_2], .slice A3 p1.length c_3] rfl ?_
 refine CW.seq ?_
 refine CW.lex [.X, .W] rfl ?_
 refine RW.box (cs := [.int .i64 p0.T.Dev, .int .i64 p0.T.Size, .slice A1 p0.T.List_.length c_1, .slice A2 p0.A.length c_2]) (.inl rfl) ⟨rfl, rfl, rfl, rfl⟩ rfl rfl rfl ?_
 intro b1 w1 x1 l1 h4
 have sx1 := x1.size
 have ltb1 := h4.lt
 refine RW.pure tabOk 1 rfl ?_
 refine RW.done ?_
 refine NW.next ?_
 refine CW.seq ?_
 refine CW.lex [.W, .L, .W, .X, .M] rfl ?_
 refine RW.pure tabOk 1 rfl ?_
 refine RW.load tabOk [.int .i64 p0.T.Dev, .int .i64 p0.T.Size, .slice A1 p0.T.List_.length c_1] ((h4.at 0).take 3 rfl) ⟨rfl, rfl, rfl, rfl⟩ rfl rfl rfl rfl ?_
 refine RW.pure tabOk 1 rfl ?_
 refine RW.alloc tabOk (.inl rfl) ⟨rfl, rfl, rfl, rfl⟩ rfl rfl ?_
 intro b2 w2 x2 l2 h5
 have sx2 := x2.size
 have ltb2 := h5.lt
 refine RW.storeBox tabOk h5 [.int .i64 p0.T.Dev, .int .i64 p0.T.Size, .slice A1 p0.T.List_.length c_1, .slice none 0 0] ⟨rfl, rfl, rfl⟩ rfl rfl rfl rfl rfl rfl rfl rfl ?_
 intro w3 x3 h6
 have h7 : Box w3.heap b2 27 [.int .i64 p0.T.Dev, .int .i64 p0.T.Size, .slice A1 p0.T.List_.length c_1, .slice none 0 0] := h6
 have sx3 := x3.size
 refine RW.done ?_
 refine NW.next ?_
 refine CW.seq ?_
 refine CW.seq ?_
 refine CW.lex [.W] rfl ?_
 refine RW.pure tabOk 1 rfl ?_
 refine RW.done ?_
 refine NW.next ?_
 refine CW.block ?_
 refine CW.loop (fun n1 a w4 => ∃ (it6_0 : Int) (lb2_3_0 : List hermitagelaw8Act) (Ab2_3_0 : Option Addr) (cb2_3_0 : Nat), Sat 39 [(1, .slice A3 p1.length c_3), (2, .pointer (some ⟨b1, 0, none⟩)), (5, .pointer (some ⟨b2, 0, none⟩)), (6, .int .i64 it6_0)] a ∧ w3.heap.size ≤ w4.heap.size ∧ Sl (Kd.int .i64) w4.heap (okL [(0, some w.heap.size, none)]) A3 p1 ∧ Sl kEntry w4.heap (okL [(0, some w.heap.size, none)]) A1 p0.T.List_ ∧ Sl khermitagelaw8Act w4.heap (okL [(0, some w.heap.size, none)]) A2 p0.A ∧ Ow khermitagelaw8Act 35 w4.heap (okL [(w3.heap.size, none, some 35)]) (okL []) Ab2_3_0 cb2_3_0 lb2_3_0 ∧ Ext w w4 ∧ Box w4.heap b1 27 [.int .i64 p0.T.Dev, .int .i64 p0.T.Size, .slice A1 p0.T.List_.length c_1, .slice A2 p0.A.length c_2] ∧ Box w4.heap b2 27 [.int .i64 p0.T.Dev, .int .i64 p0.T.Size, .slice A1 p0.T.List_.length c_1, .slice Ab2_3_0 lb2_3_0.length cb2_3_0] ∧ hermitagelaw8_only.l0 p0 p1 k n1 it6_0 lb2_3_0 = some r) k ?_ ?_
 have h8 := ((h3.ext x1).ext x2).turnB x3 h5 ⟨.inr (by omega), trivial⟩
 have h9 := ((h1.ext x1).ext x2).turnB x3 h5 ⟨.inr (by omega), trivial⟩
 have h10 := ((h2.ext x1).ext x2).turnB x3 h5 ⟨.inr (by omega), trivial⟩
 have h11 := Ext.turnB (Ext.trans (Ext.trans x0 x1) x2) x3 (by omega)
 have h12 := (h4.ext x2).turnB x3 (by omega)
 · exact fun a ha => ⟨0, ([] : List hermitagelaw8Act), none, 0, ha.sub ⟨rfl, rfl, rfl, rfl, trivial⟩, by omega, h8, h9, h10, Ow.nil, h11, h12, h7, H⟩
 intro n1 a w4 hI hp
 obtain ⟨it6_0, lb2_3_0, Ab2_3_0, cb2_3_0, hS, hle, gF3_0, gF1_0, gF2_0, fb2_3_0, x0_0, gb1_0, gb2_0, H⟩ := hI
 cases n1 with
 | zero => cases H
 | succ n1 =>
  rw [hermitagelaw8_only.l0] at H
  refine CW.go hp hS ?_
  have h13 : Ow khermitagelaw8Act 35 w4.heap (okL [(w3.heap.size, some w4.heap.size, some 35)]) (okL []) Ab2_3_0 cb2_3_0 lb2_3_0 := fb2_3_0.close
  refine CW.seq ?_
  refine CW.seq ?_
  refine CW.lex [.W, .W, .L, .W, .W] rfl ?_
  refine RW.pure tabOk 2 rfl ?_
  refine RW.load tabOk [.slice A2 p0.A.length c_2] (gb1_0.at 3) ⟨rfl, rfl, rfl, rfl⟩ rfl rfl rfl rfl ?_
  refine RW.pure tabOk 2 rfl ?_
  refine RW.done ?_
  refine NW.next ?_
  by_cases c1 : it6_0 < (p0.A.length : Int)
  ·
   rw [if_pos c1] at H
   refine CW.cond_t rfl (decide_eq_true c1) ?_
   refine CW.skip ?_
   refine NW.next ?_
   refine CW.seq ?_
   refine CW.block ?_
   refine CW.seq ?_
   refine CW.lex [.W, .L, .W, .W, .L, .X, .M] rfl ?_
   refine RW.pure tabOk 1 rfl ?_
   refine RW.load tabOk [.slice A2 p0.A.length c_2] (gb1_0.at 3) ⟨rfl, rfl, rfl, rfl⟩ rfl rfl rfl rfl ?_
   refine RW.pure tabOk 1 rfl ?_
   obtain ⟨g1, H⟩ := guard_some H
   obtain ⟨ad1, e1, a1⟩ := khermitagelaw8Act_at gF2_0 g1.1 g1.2
   refine RW.index tabOk g1.1 g1.2 e1 ⟨rfl, rfl, rfl, rfl⟩ rfl rfl rfl rfl rfl rfl ?_
   refine RW.load tabOk [.int .i64 ((rd p0.A it6_0).Do), .int .i64 ((rd p0.A it6_0).N), .int .i64 ((rd p0.A it6_0).M), .int .i64 (((rd p0.A it6_0).P).Dev), .int .i64 (((rd p0.A it6_0).P).At)] a1 ⟨rfl, rfl, rfl, rfl⟩ rfl rfl rfl rfl ?_
   refine RW.alloc tabOk (.inl rfl) ⟨rfl, rfl, rfl, rfl⟩ rfl rfl ?_
   intro b3 w5 x4 l3 h14
   have sx4 := x4.size
   have ltb3 := h14.lt
   refine RW.storeBox tabOk h14 [.int .i64 ((rd p0.A it6_0).Do), .int .i64 ((rd p0.A it6_0).N), .int .i64 ((rd p0.A it6_0).M), .int .i64 (((rd p0.A it6_0).P).Dev), .int .i64 (((rd p0.A it6_0).P).At)] ⟨rfl, rfl, rfl⟩ rfl rfl rfl rfl rfl rfl rfl rfl ?_
   intro w6 x5 h15
   have h16 : Box w6.heap b3 35 [.int .i64 ((rd p0.A it6_0).Do), .int .i64 ((rd p0.A it6_0).N), .int .i64 ((rd p0.A it6_0).M), .int .i64 (((rd p0.A it6_0).P).Dev), .int .i64 (((rd p0.A it6_0).P).At)] := h15
   have sx5 := x5.size
   refine RW.done ?_
   refine NW.next ?_
   refine CW.seq ?_
   refine CW.lex [.W, .W, .W, .W, .W, .W, .L, .W, .M] rfl ?_
   refine RW.pure tabOk 4 rfl ?_
   obtain ⟨g2, H⟩ := guard_some H
   refine RW.div g2 ⟨rfl, rfl, rfl, rfl⟩ rfl rfl rfl rfl ?_
   obtain ⟨g3, H⟩ := guard_some H
   have h17 := (gF3_0.ext x4).turnB x5 h14 ⟨.inr (by omega), trivial⟩
   obtain ⟨ad2, e2, a2⟩ := at_i64 h17 g3.1 g3.2
   refine RW.index tabOk g3.1 g3.2 e2 ⟨rfl, rfl, rfl, rfl⟩ rfl rfl rfl rfl rfl rfl ?_
   refine RW.load tabOk [.int .i64 (rd p1 (it6_0.tmod (p1.length : Int)))] a2 ⟨rfl, rfl, rfl, rfl⟩ rfl rfl rfl rfl ?_
   refine RW.pure tabOk 1 rfl ?_
   refine RW.storeBox tabOk h16 [.int .i64 (rd p1 (it6_0.tmod (p1.length : Int)))] ⟨rfl, rfl, rfl⟩ rfl rfl rfl rfl rfl rfl rfl rfl ?_
   intro w7 x6 h18
   have h19 : Box w7.heap b3 35 [.int .i64 (rd p1 (it6_0.tmod (p1.length : Int))), .int .i64 ((rd p0.A it6_0).N), .int .i64 ((rd p0.A it6_0).M), .int .i64 (((rd p0.A it6_0).P).Dev), .int .i64 (((rd p0.A it6_0).P).At)] := h18
   have sx6 := x6.size
   refine RW.done ?_
   refine NW.next ?_
   refine CW.lex [.W, .L, .L, .X, .M, .W, .M] rfl ?_
   refine RW.pure tabOk 1 rfl ?_
   have h20 := ((gb2_0.ext x4).turnB x5 (by omega)).turnB x6 (by omega)
   refine RW.load tabOk [.slice Ab2_3_0 lb2_3_0.length cb2_3_0] (h20.at 3) ⟨rfl, rfl, rfl, rfl⟩ rfl rfl rfl rfl ?_
   refine RW.load tabOk [.int .i64 (rd p1 (it6_0.tmod (p1.length : Int))), .int .i64 ((rd p0.A it6_0).N), .int .i64 ((rd p0.A it6_0).M), .int .i64 (((rd p0.A it6_0).P).Dev), .int .i64 (((rd p0.A it6_0).P).At)] (h19.at 0) ⟨rfl, rfl, rfl, rfl⟩ rfl rfl rfl rfl ?_
   refine RW.buildSlice (cs := [.int .i64 (rd p1 (it6_0.tmod (p1.length : Int))), .int .i64 ((rd p0.A it6_0).N), .int .i64 ((rd p0.A it6_0).M), .int .i64 (((rd p0.A it6_0).P).Dev), .int .i64 (((rd p0.A it6_0).P).At)]) tabOk (.inl rfl) ⟨rfl, rfl, rfl, rfl⟩ rfl rfl rfl rfl rfl rfl rfl ?_
   intro b4 w8 x7 l4 h21
   have sx7 := x7.size
   have ltb4 := h21.lt
   have h22 := (((h13.ext x4).turnB x5 h14 ⟨.inr (by omega), trivial⟩ trivial).turnB x6 h16 ⟨.inr (by omega), trivial⟩ trivial).ext x7
   obtain ⟨g4, H⟩ := guard_some H
   refine RW.append1L (d := khermitagelaw8Act) (v := (⟨rd p1 (it6_0.tmod (p1.length : Int)), (rd p0.A it6_0).N, (rd p0.A it6_0).M, ((rd p0.A it6_0).P)⟩ : hermitagelaw8Act)) (l := [(w3.heap.size, some w4.heap.size, some 35)]) (li := []) (ly := []) (xs := lb2_3_0) tabOk h22 h21 (khermitagelaw8Act_mk (⟨rd p1 (it6_0.tmod (p1.length : Int)), (rd p0.A it6_0).N, (rd p0.A it6_0).M, ((rd p0.A it6_0).P)⟩ : hermitagelaw8Act)) trivial (by simp only [maxLen]; omega) g4 ⟨rfl, rfl, rfl, rfl⟩ rfl rfl rfl rfl rfl rfl rfl ?_
   intro A4 c_4 w9 x8 h23
   have sx8 := x8.size
   have h24 := h23.close.sub (l' := [(w3.heap.size, some w9.heap.size, some 35)]) (li' := []) ⟨(.inl ⟨by omega, by omega, rfl⟩), ⟨(.inl ⟨by omega, by omega, rfl⟩), trivial⟩⟩ trivial
   refine RW.pure tabOk 1 rfl ?_
   have h25 := (h20.ext x7).turnL x8 (.inl (by decide))
   refine RW.storeBox tabOk h25 [.slice A4 (lb2_3_0 ++ [(⟨rd p1 (it6_0.tmod (p1.length : Int)), (rd p0.A it6_0).N, (rd p0.A it6_0).M, ((rd p0.A it6_0).P)⟩ : hermitagelaw8Act)]).length c_4] ⟨rfl, rfl, rfl⟩ rfl rfl rfl rfl rfl rfl rfl rfl ?_
   intro w10 x9 h26
   have h27 : Box w10.heap b2 27 [.int .i64 p0.T.Dev, .int .i64 p0.T.Size, .slice A1 p0.T.List_.length c_1, .slice A4 (lb2_3_0 ++ [(⟨rd p1 (it6_0.tmod (p1.length : Int)), (rd p0.A it6_0).N, (rd p0.A it6_0).M, ((rd p0.A it6_0).P)⟩ : hermitagelaw8Act)]).length c_4] := h26
   have sx9 := x9.size
   refine RW.done ?_
   refine NW.norm_block (NW.next ?_)
   refine CW.lex [.W, .W, .W] rfl ?_
   refine RW.pure tabOk 3 rfl ?_
   refine RW.done ?_
   have h28 := (((h17.turnB x6 h16 ⟨.inr (by omega), trivial⟩).ext x7).turnL x8 ⟨⟨.inr (.inl (by omega)), trivial⟩, trivial⟩).turnB x9 h25 ⟨.inr (by omega), trivial⟩
   have h29 := (((((gF1_0.ext x4).turnB x5 h14 ⟨.inr (by omega), trivial⟩).turnB x6 h16 ⟨.inr (by omega), trivial⟩).ext x7).turnL x8 ⟨⟨.inr (.inl (by omega)), trivial⟩, trivial⟩).turnB x9 h25 ⟨.inr (by omega), trivial⟩
   have h30 := (((((gF2_0.ext x4).turnB x5 h14 ⟨.inr (by omega), trivial⟩).turnB x6 h16 ⟨.inr (by omega), trivial⟩).ext x7).turnL x8 ⟨⟨.inr (.inl (by omega)), trivial⟩, trivial⟩).turnB x9 h25 ⟨.inr (by omega), trivial⟩
   have h31 := h24.turnB x9 h25 ⟨.inl (show (35 : Nat) ≠ 27 by decide), trivial⟩ trivial
   have h32 := Ext.turnB (Ext.turn (Ext.trans (Ext.turnB (Ext.turnB (Ext.trans x0_0 x4) x5 (by omega)) x6 (by omega)) x7) x8 ⟨by omega, trivial⟩) x9 (by omega)
   have h33 := (((((gb1_0.ext x4).turnB x5 (by omega)).turnB x6 (by omega)).ext x7).turnL x8 (.inl (by decide))).turnB x9 (by omega)
   exact NW.J fun a ha => ⟨n1, Nat.lt_succ_self n1, (w64 (it6_0 + 1)), (lb2_3_0 ++ [(⟨rd p1 (it6_0.tmod (p1.length : Int)), (rd p0.A it6_0).N, (rd p0.A it6_0).M, ((rd p0.A it6_0).P)⟩ : hermitagelaw8Act)]), A4, c_4, ha.sub ⟨rfl, rfl, rfl, rfl, trivial⟩, by omega, h28, h29, h30, (h31.sub ⟨(.inl ⟨by omega, trivial, rfl⟩), trivial⟩ trivial), h32, h33, h27, H⟩
  ·
   rw [if_neg c1] at H
   refine CW.cond_f rfl (decide_eq_false c1) ?_
   refine CW.exit ?_
   refine NW.exit_then (NW.exit_then (NW.exit_hit ?_))
   refine NW.next ?_
   refine CW.seq ?_
   refine CW.lex [.L, .X, .W] rfl ?_
   refine RW.load tabOk [.int .i64 p0.T.Dev, .int .i64 p0.T.Size, .slice A1 p0.T.List_.length c_1, .slice Ab2_3_0 lb2_3_0.length cb2_3_0] (gb2_0.at 0) ⟨rfl, rfl, rfl, rfl⟩ rfl rfl rfl rfl ?_
   obtain ⟨y1, h34, H⟩ := bind_some H
   refine RW.callF (.inl rfl) ent4 ⟨rfl, rfl, rfl, rfl⟩ rfl rfl (hermitagelaw8_TableExact.calls k (⟨p0.T, lb2_3_0⟩ : hermitagelaw8Script) A1 c_1 Ab2_3_0 cb2_3_0 _ _ gF1_0.all hl1 h13.all h13.len h34) ?_
   rintro _ w11 ⟨rfl, x10⟩
   refine ⟨_, rfl, x10, ?_⟩
   have sx10 := x10.size
   refine RW.pure tabOk 1 rfl ?_
   refine RW.done ?_
   refine NW.next ?_
   refine CW.ret ?_
   obtain rfl := Option.some.inj H
   have h35 := Ext.trans x0_0 x10
   exact NW.ret1 rfl (by rfl) ⟨rfl, h35⟩

set_option maxHeartbeats 4000000 in
set_option maxRecDepth 100000 in
theorem hermitagelaw8_TableAdds.calls (k : Nat) (p0 : hermitagelaw8Script) (A1 : Option Addr) (c_1 : Nat) (A2 : Option Addr) (c_2 : Nat) (r : Bool) (w : World) (hs1 : Sl kEntry w.heap okAll A1 p0.T.List_) (hl1 : p0.T.List_.length ≤ c_1) (hs2 : Sl khermitagelaw8Act w.heap okAll A2 p0.A) (hl2 : p0.A.length ≤ c_2) (H : hermitagelaw8_TableAdds.f k p0 = some r) :
    Calls Try.prog 5 #[.agg #[.int .i64 p0.T.Dev, .int .i64 p0.T.Size, .slice A1 p0.T.List_.length c_1, .slice A2 p0.A.length c_2]] w fun e w' => e = .returned (.bool r) ∧ Ext w w' := by
 have h1 : Sl kEntry w.heap (okL [(0, some w.heap.size, none)]) A1 p0.T.List_ := hs1.old _ rfl
 have h2 : Sl khermitagelaw8Act w.heap (okL [(0, some w.heap.size, none)]) A2 p0.A := hs2.old _ rfl
 have x0 : Ext w w := Upd.refl _ w
 unfold hermitagelaw8_TableAdds.f at H
 refine calls_start Try.func5 rfl 6 rfl [.agg #[.int .i64 p0.T.Dev, .int .i64 p0.T.Size, .slice A1 p0.T.List_.length c_1, .slice A2 p0.A.length c_2]] rfl ?_
 refine CW.seq ?_
 refine CW.lex [.X, .W] rfl ?_
 refine RW.box (cs := [.int .i64 p0.T.Dev, .int .i64 p0.T.Size, .slice A1 p0.T.List_.length c_1, .slice A2 p0.A.length c_2]) (.inl rfl) ⟨rfl, rfl, rfl, rfl⟩ rfl rfl rfl ?_
 intro b1 w1 x1 l1 h3
 have sx1 := x1.size
 have ltb1 := h3.lt
 refine RW.pure tabOk 1 rfl ?_
 refine RW.done ?_
 refine NW.next ?_
 refine CW.seq ?_
 refine CW.lex [.L, .X, .X, .W] rfl ?_
 refine RW.load tabOk [.int .i64 p0.T.Dev, .int .i64 p0.T.Size, .slice A1 p0.T.List_.length c_1, .slice A2 p0.A.length c_2] (h3.at 0) ⟨rfl, rfl, rfl, rfl⟩ rfl rfl rfl rfl ?_
 refine RW.buildSlice (cs := [.int .i64 0, .int .i64 0, .int .i64 7]) tabOk (.inl rfl) ⟨rfl, rfl, rfl, rfl⟩ rfl rfl rfl rfl rfl rfl rfl ?_
 intro b2 w2 x2 l2 h4
 have sx2 := x2.size
 have ltb2 := h4.lt
 have h5 := (h1.ext x1).ext x2
 have h6 := (h2.ext x1).ext x2
 have h7 : Ow (Kd.int .i64) 3 w2.heap (okL [(w1.heap.size, some w2.heap.size, some 3)]) (okL []) (some ⟨b2, 0, none⟩) 3 ([0, 0, 7] : List Int) := Ow.of_box h4 (.inl ⟨l2, ltb2, rfl⟩) (Nat.le_of_ble_eq_true rfl) (Ch.cons (d := (Kd.int .i64)) (cs := [.int .i64 0]) (x := 0) rfl (Ch.cons (d := (Kd.int .i64)) (cs := [.int .i64 0]) (x := 0) rfl (Ch.cons (d := (Kd.int .i64)) (cs := [.int .i64 7]) (x := 7) rfl Ch.nil)))
 obtain ⟨y1, h8, H⟩ := bind_some H
 refine RW.callF (.inl rfl) ent23 ⟨rfl, rfl, rfl, rfl⟩ rfl rfl (hermitagelaw8_only.calls k p0 A1 c_1 A2 c_2 (some ⟨b2, 0, none⟩) 3 ([0, 0, 7] : List Int) _ _ h5.all hl1 h6.all hl2 h7.all h7.len h8) ?_
 rintro _ w3 ⟨rfl, x3⟩
 refine ⟨_, rfl, x3, ?_⟩
 have sx3 := x3.size
 refine RW.pure tabOk 1 rfl ?_
 refine RW.done ?_
 refine NW.next ?_
 refine CW.ret ?_
 obtain rfl := Option.some.inj H
 have h9 := Ext.trans (Ext.trans (Ext.trans x0 x1) x2) x3
 exact NW.ret1 rfl (by rfl) ⟨rfl, h9⟩

set_option maxHeartbeats 4000000 in
set_option maxRecDepth 100000 in
theorem hermitagelaw8_TableLoses.calls (k : Nat) (p0 : hermitagelaw8Script) (A1 : Option Addr) (c_1 : Nat) (A2 : Option Addr) (c_2 : Nat) (r : Bool) (w : World) (hs1 : Sl kEntry w.heap okAll A1 p0.T.List_) (hl1 : p0.T.List_.length ≤ c_1) (hs2 : Sl khermitagelaw8Act w.heap okAll A2 p0.A) (hl2 : p0.A.length ≤ c_2) (H : hermitagelaw8_TableLoses.f k p0 = some r) :
    Calls Try.prog 6 #[.agg #[.int .i64 p0.T.Dev, .int .i64 p0.T.Size, .slice A1 p0.T.List_.length c_1, .slice A2 p0.A.length c_2]] w fun e w' => e = .returned (.bool r) ∧ Ext w w' := by
 have h1 : Sl kEntry w.heap (okL [(0, some w.heap.size, none)]) A1 p0.T.List_ := hs1.old _ rfl
 have h2 : Sl khermitagelaw8Act w.heap (okL [(0, some w.heap.size, none)]) A2 p0.A := hs2.old _ rfl
 have x0 : Ext w w := Upd.refl _ w
 unfold hermitagelaw8_TableLoses.f at H
 refine calls_start Try.func6 rfl 6 rfl [.agg #[.int .i64 p0.T.Dev, .int .i64 p0.T.Size, .slice A1 p0.T.List_.length c_1, .slice A2 p0.A.length c_2]] rfl ?_
 refine CW.seq ?_
 refine CW.lex [.X, .W] rfl ?_
 refine RW.box (cs := [.int .i64 p0.T.Dev, .int .i64 p0.T.Size, .slice A1 p0.T.List_.length c_1, .slice A2 p0.A.length c_2]) (.inl rfl) ⟨rfl, rfl, rfl, rfl⟩ rfl rfl rfl ?_
 intro b1 w1 x1 l1 h3
 have sx1 := x1.size
 have ltb1 := h3.lt
 refine RW.pure tabOk 1 rfl ?_
 refine RW.done ?_
 refine NW.next ?_
 refine CW.seq ?_
 refine CW.lex [.L, .X, .X, .W] rfl ?_
 refine RW.load tabOk [.int .i64 p0.T.Dev, .int .i64 p0.T.Size, .slice A1 p0.T.List_.length c_1, .slice A2 p0.A.length c_2] (h3.at 0) ⟨rfl, rfl, rfl, rfl⟩ rfl rfl rfl rfl ?_
 refine RW.buildSlice (cs := [.int .i64 0, .int .i64 4, .int .i64 4, .int .i64 6]) tabOk (.inl rfl) ⟨rfl, rfl, rfl, rfl⟩ rfl rfl rfl rfl rfl rfl rfl ?_
 intro b2 w2 x2 l2 h4
 have sx2 := x2.size
 have ltb2 := h4.lt
 have h5 := (h1.ext x1).ext x2
 have h6 := (h2.ext x1).ext x2
 have h7 : Ow (Kd.int .i64) 3 w2.heap (okL [(w1.heap.size, some w2.heap.size, some 3)]) (okL []) (some ⟨b2, 0, none⟩) 4 ([0, 4, 4, 6] : List Int) := Ow.of_box h4 (.inl ⟨l2, ltb2, rfl⟩) (Nat.le_of_ble_eq_true rfl) (Ch.cons (d := (Kd.int .i64)) (cs := [.int .i64 0]) (x := 0) rfl (Ch.cons (d := (Kd.int .i64)) (cs := [.int .i64 4]) (x := 4) rfl (Ch.cons (d := (Kd.int .i64)) (cs := [.int .i64 4]) (x := 4) rfl (Ch.cons (d := (Kd.int .i64)) (cs := [.int .i64 6]) (x := 6) rfl Ch.nil))))
 obtain ⟨y1, h8, H⟩ := bind_some H
 refine RW.callF (.inl rfl) ent23 ⟨rfl, rfl, rfl, rfl⟩ rfl rfl (hermitagelaw8_only.calls k p0 A1 c_1 A2 c_2 (some ⟨b2, 0, none⟩) 4 ([0, 4, 4, 6] : List Int) _ _ h5.all hl1 h6.all hl2 h7.all h7.len h8) ?_
 rintro _ w3 ⟨rfl, x3⟩
 refine ⟨_, rfl, x3, ?_⟩
 have sx3 := x3.size
 refine RW.pure tabOk 1 rfl ?_
 refine RW.done ?_
 refine NW.next ?_
 refine CW.ret ?_
 obtain rfl := Option.some.inj H
 have h9 := Ext.trans (Ext.trans (Ext.trans x0 x1) x2) x3
 exact NW.ret1 rfl (by rfl) ⟨rfl, h9⟩

set_option maxHeartbeats 4000000 in
set_option maxRecDepth 100000 in
theorem hermitagelaw8_TableRanges.calls (k : Nat) (p0 : hermitagelaw8Script) (A1 : Option Addr) (c_1 : Nat) (A2 : Option Addr) (c_2 : Nat) (r : Bool) (w : World) (hs1 : Sl kEntry w.heap okAll A1 p0.T.List_) (hl1 : p0.T.List_.length ≤ c_1) (hs2 : Sl khermitagelaw8Act w.heap okAll A2 p0.A) (hl2 : p0.A.length ≤ c_2) (H : hermitagelaw8_TableRanges.f k p0 = some r) :
    Calls Try.prog 7 #[.agg #[.int .i64 p0.T.Dev, .int .i64 p0.T.Size, .slice A1 p0.T.List_.length c_1, .slice A2 p0.A.length c_2]] w fun e w' => e = .returned (.bool r) ∧ Ext w w' := by
 have h1 : Sl kEntry w.heap (okL [(0, some w.heap.size, none)]) A1 p0.T.List_ := hs1.old _ rfl
 have h2 : Sl khermitagelaw8Act w.heap (okL [(0, some w.heap.size, none)]) A2 p0.A := hs2.old _ rfl
 have x0 : Ext w w := Upd.refl _ w
 unfold hermitagelaw8_TableRanges.f at H
 refine calls_start Try.func7 rfl 6 rfl [.agg #[.int .i64 p0.T.Dev, .int .i64 p0.T.Size, .slice A1 p0.T.List_.length c_1, .slice A2 p0.A.length c_2]] rfl ?_
 refine CW.seq ?_
 refine CW.lex [.X, .W] rfl ?_
 refine RW.box (cs := [.int .i64 p0.T.Dev, .int .i64 p0.T.Size, .slice A1 p0.T.List_.length c_1, .slice A2 p0.A.length c_2]) (.inl rfl) ⟨rfl, rfl, rfl, rfl⟩ rfl rfl rfl ?_
 intro b1 w1 x1 l1 h3
 have sx1 := x1.size
 have ltb1 := h3.lt
 refine RW.pure tabOk 1 rfl ?_
 refine RW.done ?_
 refine NW.next ?_
 refine CW.seq ?_
 refine CW.lex [.L, .X, .X, .W] rfl ?_
 refine RW.load tabOk [.int .i64 p0.T.Dev, .int .i64 p0.T.Size, .slice A1 p0.T.List_.length c_1, .slice A2 p0.A.length c_2] (h3.at 0) ⟨rfl, rfl, rfl, rfl⟩ rfl rfl rfl rfl ?_
 refine RW.buildSlice (cs := [.int .i64 0, .int .i64 9, .int .i64 8, .int .i64 9]) tabOk (.inl rfl) ⟨rfl, rfl, rfl, rfl⟩ rfl rfl rfl rfl rfl rfl rfl ?_
 intro b2 w2 x2 l2 h4
 have sx2 := x2.size
 have ltb2 := h4.lt
 have h5 := (h1.ext x1).ext x2
 have h6 := (h2.ext x1).ext x2
 have h7 : Ow (Kd.int .i64) 3 w2.heap (okL [(w1.heap.size, some w2.heap.size, some 3)]) (okL []) (some ⟨b2, 0, none⟩) 4 ([0, 9, 8, 9] : List Int) := Ow.of_box h4 (.inl ⟨l2, ltb2, rfl⟩) (Nat.le_of_ble_eq_true rfl) (Ch.cons (d := (Kd.int .i64)) (cs := [.int .i64 0]) (x := 0) rfl (Ch.cons (d := (Kd.int .i64)) (cs := [.int .i64 9]) (x := 9) rfl (Ch.cons (d := (Kd.int .i64)) (cs := [.int .i64 8]) (x := 8) rfl (Ch.cons (d := (Kd.int .i64)) (cs := [.int .i64 9]) (x := 9) rfl Ch.nil))))
 obtain ⟨y1, h8, H⟩ := bind_some H
 refine RW.callF (.inl rfl) ent23 ⟨rfl, rfl, rfl, rfl⟩ rfl rfl (hermitagelaw8_only.calls k p0 A1 c_1 A2 c_2 (some ⟨b2, 0, none⟩) 4 ([0, 9, 8, 9] : List Int) _ _ h5.all hl1 h6.all hl2 h7.all h7.len h8) ?_
 rintro _ w3 ⟨rfl, x3⟩
 refine ⟨_, rfl, x3, ?_⟩
 have sx3 := x3.size
 refine RW.pure tabOk 1 rfl ?_
 refine RW.done ?_
 refine NW.next ?_
 refine CW.ret ?_
 obtain rfl := Option.some.inj H
 have h9 := Ext.trans (Ext.trans (Ext.trans x0 x1) x2) x3
 exact NW.ret1 rfl (by rfl) ⟨rfl, h9⟩

end Go.Proofs.Ytnaajldlloglkaa.W
