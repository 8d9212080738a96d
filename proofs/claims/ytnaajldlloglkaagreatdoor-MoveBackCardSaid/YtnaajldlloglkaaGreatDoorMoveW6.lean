/- Walks; printed by a program of the claim. -/
import Derived.Test.YtnaajldlloglkaaGreatDoorMoveW5
set_option linter.unusedVariables false
set_option linter.unusedSimpArgs false
set_option maxHeartbeats 20000000
set_option maxRecDepth 100000
namespace Go.Proofs.YtnaajldlloglkaaGreatDoor.W
open Go.H Go.Proofs
theorem hermitagelaw10_MoveBack.calls (k : Nat) (p0 : Script) (A1 : Option Addr) (c_1 : Nat) (A2 : Option Addr) (c_2 : Nat) (A3 : Option Addr) (c_3 : Nat) (A4 : Option Addr) (c_4 : Nat) (r : Bool) (w : World) (hs1 : Sl kDeviceR w.heap okAll A1 p0.P.Devices) (hl1 : p0.P.Devices.length ≤ c_1) (hs2 : Sl kTableR w.heap okAll A2 p0.P.Tables) (hl2 : p0.P.Tables.length ≤ c_2) (hs3 : Sl kEntry w.heap okAll A3 p0.P.Job.Table.List_) (hl3 : p0.P.Job.Table.List_.length ≤ c_3) (hs4 : Sl kActR w.heap okAll A4 p0.A) (hl4 : p0.A.length ≤ c_4) {gT : Nat} (hG : Box w.heap 0 gT (arrI .u8 64 tz)) (H : hermitagelaw10_MoveBack.f k p0 = some r) :
    Calls Tryz.prog 3 #[.agg #[.slice A1 p0.P.Devices.length c_1, .slice A2 p0.P.Tables.length c_2, iv p0.P.Job.Dev, iv p0.P.Job.At, iv p0.P.Job.Table.Dev, iv p0.P.Job.Table.Size, .slice A3 p0.P.Job.Table.List_.length c_3, iv p0.P.Next, .slice A4 p0.A.length c_4]] w fun e w' => e = .returned (.bool r) ∧ Ext w w' := by
 have h1 : Sl kDeviceR w.heap (okL [(0, some w.heap.size, none)]) A1 p0.P.Devices := hs1.old _ rfl
 have h2 : Sl kTableR w.heap (okL [(0, some w.heap.size, none)]) A2 p0.P.Tables := hs2.old _ rfl
 have h3 : Sl kEntry w.heap (okL [(0, some w.heap.size, none)]) A3 p0.P.Job.Table.List_ := hs3.old _ rfl
 have h4 : Sl kActR w.heap (okL [(0, some w.heap.size, none)]) A4 p0.A := hs4.old _ rfl
 have hG0 : 0 < w.heap.size := hG.lt
 have x0 : Ext w w := Upd.refl _ w
 unfold hermitagelaw10_MoveBack.f at H
 refine calls_start Tryz.func3 rfl 148 rfl [.agg #[.slice A1 p0.P.Devices.length c_1, .slice A2 p0.P.Tables.length c_2, iv p0.P.Job.Dev, iv p0.P.Job.At, iv p0.P.Job.Table.Dev, iv p0.P.Job.Table.Size, .slice A3 p0.P.Job.Table.List_.length c_3, iv p0.P.Next, .slice A4 p0.A.length c_4]] rfl ?_
 refine CW.seq (CW.lex [.X, .W] rfl (RW.box (cs := [.slice A1 p0.P.Devices.length c_1, .slice A2 p0.P.Tables.length c_2, iv p0.P.Job.Dev, iv p0.P.Job.At, iv p0.P.Job.Table.Dev, iv p0.P.Job.Table.Size, .slice A3 p0.P.Job.Table.List_.length c_3, iv p0.P.Next, .slice A4 p0.A.length c_4]) (.inl rfl) ⟨rfl, rfl, rfl, rfl⟩ rfl rfl rfl ?_))
 intro b1 w1 x1 l1 h5
 have sx1 := x1.size
 have ltb1 := h5.lt
 refine pu 1 rfl (RW.done (NW.next (CW.seq ?_)))
 refine CW.seqJ (fun a w2 => ∃ (bt23_0 : Bool), Sat 148 [(1, .pointer (some ⟨b1, 0, none⟩)), (23, .bool bt23_0)] a ∧ w1.heap.size ≤ w2.heap.size ∧ Ext w w2 ∧ Box w2.heap b1 33 [.slice A1 p0.P.Devices.length c_1, .slice A2 p0.P.Tables.length c_2, iv p0.P.Job.Dev, iv p0.P.Job.At, iv p0.P.Job.Table.Dev, iv p0.P.Job.Table.Size, .slice A3 p0.P.Job.Table.List_.length c_3, iv p0.P.Next, .slice A4 p0.A.length c_4] ∧ hermitagelaw10_MoveBack.j0 p0 k bt23_0 = some r) ?_ ?_
 ·refine CW.lex [.L, .X, .W, .W, .L, .X, .W, .W] rfl (RW.ld tk [.slice A1 p0.P.Devices.length c_1, .slice A2 p0.P.Tables.length c_2, iv p0.P.Job.Dev, iv p0.P.Job.At, iv p0.P.Job.Table.Dev, iv p0.P.Job.Table.Size, .slice A3 p0.P.Job.Table.List_.length c_3, iv p0.P.Next, .slice A4 p0.A.length c_4] (h5.at 0) ?_)
  have h6 := h1.ext x1
  have h7 := h2.ext x1
  have h8 := h3.ext x1
  have h9 := h4.ext x1
  obtain ⟨y1, h10, H⟩ := bind_some H
  refine RW.cl ent7 (hermitagelaw10_Heavy.calls k p0 A1 c_1 A2 c_2 A3 c_3 A4 c_4 _ _ h6.all hl1 h7.all hl2 h8.all hl3 h9.all hl4 h10) ?_
  rintro _ w3 ⟨rfl, x2⟩
  refine ⟨_, rfl, x2, ?_⟩
  have sx2 := x2.size
  refine pu 1 rfl ?_
  have j1 := (x0.tr x1).tr x2
  have j2 := h5.ext x2
  by_cases c1 : y1 = true
  ·rw [if_pos c1] at H
   refine RW.bool 18 (b' := true) (c1) rfl (pu 5 rfl (RW.done ?_))
   exact NW.J fun a ha => ⟨true, ha.sb, by omega, j1, j2, H⟩
  rw [if_neg c1] at H
  refine RW.bool 18 (b' := false) (bool_f c1) rfl (pu 1 rfl (RW.lb tk [.slice A1 p0.P.Devices.length c_1, .slice A2 p0.P.Tables.length c_2, iv p0.P.Job.Dev, iv p0.P.Job.At, iv p0.P.Job.Table.Dev, iv p0.P.Job.Table.Size, .slice A3 p0.P.Job.Table.List_.length c_3, iv p0.P.Next] j2 0 ?_))
  have h14 := h6.ext x2
  have h15 := h7.ext x2
  have h16 := h8.ext x2
  obtain ⟨y2, h17, H⟩ := bind_some H
  refine RW.cl ent8 (hermitageref9_Pool.calls k p0.P A1 c_1 A2 c_2 A3 c_3 _ _ h14.all hl1 h15.all hl2 h16.all hl3 h17) ?_
  rintro _ w4 ⟨rfl, x3⟩
  refine ⟨_, rfl, x3, ?_⟩
  have sx3 := x3.size
  refine pu 2 rfl (RW.done ?_)
  have h18 := j1.tr x3
  have h19 := j2.ext x3
  exact NW.J fun a ha => ⟨(!y2), ha.sb, by omega, h18, h19, H⟩
 intro a w2 hJ hp
 obtain ⟨bt23_0, hS, hle, x0_0, gb1_0, H⟩ := hJ
 unfold hermitagelaw10_MoveBack.j0 at H
 refine CW.go hp hS ?_
 have xt1 : Ext w2 w2 := Upd.refl _ _
 by_cases c2 : bt23_0 = true
 ·rw [if_pos c2] at H
  refine CW.cond_t rfl (c2) (CW.seq (CW.lw 1 rfl (pu 1 rfl (RW.done ?_))))
  refine NW.next (CW.ret (NW.ret_then ?_))
  obtain rfl := Option.some.inj H
  exact NW.ret1 rfl (by rfl) ⟨rfl, x0_0⟩
 rw [if_neg c2] at H
 refine CW.cond_f rfl (bool_f c2) (CW.skip (NW.next (CW.seq (CW.lex [.W, .L, .X, .M] rfl ?_))))
 refine pu 1 rfl (RW.lb tk [.slice A1 p0.P.Devices.length c_1, .slice A2 p0.P.Tables.length c_2, iv p0.P.Job.Dev, iv p0.P.Job.At, iv p0.P.Job.Table.Dev, iv p0.P.Job.Table.Size, .slice A3 p0.P.Job.Table.List_.length c_3, iv p0.P.Next] gb1_0 0 ?_)
 refine RW.alloc tk (.inl rfl) ⟨rfl, rfl, rfl, rfl⟩ rfl rfl ?_
 intro b2 w5 x4 l2 h20
 have sx4 := x4.size
 have ltb2 := h20.lt
 refine RW.sb tk h20 [.slice A1 p0.P.Devices.length c_1, .slice A2 p0.P.Tables.length c_2, iv p0.P.Job.Dev, iv p0.P.Job.At, iv p0.P.Job.Table.Dev, iv p0.P.Job.Table.Size, .slice A3 p0.P.Job.Table.List_.length c_3, iv p0.P.Next] ?_
 intro w6 x5 h21
 have h22 : Box w6.heap b2 30 [.slice A1 p0.P.Devices.length c_1, .slice A2 p0.P.Tables.length c_2, iv p0.P.Job.Dev, iv p0.P.Job.At, iv p0.P.Job.Table.Dev, iv p0.P.Job.Table.Size, .slice A3 p0.P.Job.Table.List_.length c_3, iv p0.P.Next] := h21
 have sx5 := x5.size
 refine RW.done (NW.next (CW.seq ?_))
 refine CW.seqJ (fun a w7 => ∃ (bt35_1 : Bool), Sat 148 [(3, .pointer (some ⟨b2, 0, none⟩)), (35, .bool bt35_1)] a ∧ w6.heap.size ≤ w7.heap.size ∧ Ext w w7 ∧ Box w7.heap b2 30 [.slice A1 p0.P.Devices.length c_1, .slice A2 p0.P.Tables.length c_2, iv p0.P.Job.Dev, iv p0.P.Job.At, iv p0.P.Job.Table.Dev, iv p0.P.Job.Table.Size, .slice A3 p0.P.Job.Table.List_.length c_3, iv p0.P.Next] ∧ hermitagelaw10_MoveBack.j1 p0 k bt35_1 = some r) ?_ ?_
 ·refine CW.lex [.W, .W, .L, .W, .W, .W, .L, .W, .W, .W] rfl (pu 2 rfl (RW.lb tk [iv p0.P.Job.Dev] h22 2 ?_))
  refine pu 2 rfl ?_
  have j3 := (x0_0.tr x4).tB x5
  by_cases c3 : p0.P.Job.Dev = 0
  ·rw [if_pos c3] at H
   refine RW.bool 30 (b' := false) (bne_f c3) rfl (pu 1 rfl (RW.lb tk [.slice A2 p0.P.Tables.length c_2] h22 1 ?_))
   refine pu 3 rfl (RW.done ?_)
   exact NW.J fun a ha => ⟨(decide (0 < (p0.P.Tables.length : Int))), ha.sb, by omega, j3, h22, H⟩
  rw [if_neg c3] at H
  refine RW.bool 30 (b' := true) (bne_t c3) rfl (pu 5 rfl (RW.done ?_))
  exact NW.J fun a ha => ⟨true, ha.sb, by omega, j3, h22, H⟩
 intro a w7 hJ hp
 obtain ⟨bt35_1, hS, hle, x0_1, gb2_1, H⟩ := hJ
 unfold hermitagelaw10_MoveBack.j1 at H
 refine CW.go hp hS ?_
 have xt2 : Ext w7 w7 := Upd.refl _ _
 by_cases c4 : bt35_1 = true
 ·rw [if_pos c4] at H
  refine CW.cond_t rfl (c4) (CW.seq (CW.lex [.X, .W] rfl ?_))
  obtain ⟨y3, h25, H⟩ := bind_some H
  refine RW.cl ent9 (hermitagelaw10_wakes.calls k _ _ (hG.ext x0_1) h25) ?_
  rintro _ w8 ⟨rfl, x6⟩
  refine ⟨_, rfl, x6, ?_⟩
  have sx6 := x6.size
  refine pu 1 rfl (RW.done (NW.next (CW.ret (NW.ret_then ?_))))
  obtain rfl := Option.some.inj H
  have h26 := x0_1.tr x6
  exact NW.ret1 rfl (by rfl) ⟨rfl, h26⟩
 rw [if_neg c4] at H
 refine CW.cond_f rfl (bool_f c4) (CW.skip (NW.next (CW.seq (CW.lw 1 rfl ?_))))
 refine pu 1 rfl (RW.done (NW.next (CW.seq (CW.seq ?_))))
 refine CW.lw 1 rfl (pu 1 rfl (RW.done (NW.next (CW.block ?_))))
 refine CW.loop (fun n1 a w9 => ∃ (lt4_2 : List Ptr) (At4_2 : Option Addr) (ct4_2 : Nat) (it5_2 : Int), Sat 148 [(3, .pointer (some ⟨b2, 0, none⟩)), (4, .slice At4_2 lt4_2.length ct4_2), (5, iv it5_2)] a ∧ w7.heap.size ≤ w9.heap.size ∧ Ow kPtr 43 w9.heap (okL [(w7.heap.size, none, some 43)]) (okL []) At4_2 ct4_2 lt4_2 ∧ Ext w w9 ∧ Ext w7 w9 ∧ hermitagelaw10_MoveBack.l0 p0 k n1 lt4_2 it5_2 = some r) k ?_ ?_
 ·exact fun a ha => ⟨([] : List Ptr), none, 0, 0, ha.sb, by omega, Ow.nil, x0_1, xt2, H⟩
 intro n1 a w9 hI hp
 obtain ⟨lt4_2, At4_2, ct4_2, it5_2, hS, hle, ft4_2, x0_2, x_xt2_2, H⟩ := hI
 cases n1 with
 | zero => cases H
 | succ n1 =>
  rw [hermitagelaw10_MoveBack.l0] at H
  refine CW.go hp hS ?_
  have h27 : Ow kPtr 43 w9.heap (okL [(w7.heap.size, some w9.heap.size, some 43)]) (okL []) At4_2 ct4_2 lt4_2 := ft4_2.close
  have xt3 : Ext w9 w9 := Upd.refl _ _
  refine CW.seq (CW.seq (CW.lex [.W, .W, .L, .W, .W] rfl (pu 2 rfl (RW.lb tk [.slice A1 p0.P.Devices.length c_1] (gb2_1.ext x_xt2_2) 0 ?_))))
  refine pu 2 rfl (RW.done (NW.next ?_))
  by_cases c5 : it5_2 < (p0.P.Devices.length : Int)
  ·rw [if_pos c5] at H
   refine CW.cond_t rfl (decide_eq_true c5) (CW.skip (NW.next (CW.seq (CW.block ?_))))
   refine CW.seq (CW.lw 1 rfl (pu 1 rfl (RW.done (NW.next ?_))))
   refine CW.block ?_
   refine CW.loop (fun n2 a w10 => ∃ (lt4_3 : List Ptr) (At4_3 : Option Addr) (ct4_3 : Nat) (it6_3 : Int), Sat 148 [(3, .pointer (some ⟨b2, 0, none⟩)), (4, .slice At4_3 lt4_3.length ct4_3), (5, iv it5_2), (6, iv it6_3)] a ∧ w9.heap.size ≤ w10.heap.size ∧ Ow kPtr 43 w10.heap (okL [(w7.heap.size, none, some 43)]) (okL []) At4_3 ct4_3 lt4_3 ∧ Ext w w10 ∧ Ext w7 w10 ∧ hermitagelaw10_MoveBack.l1 p0 k it5_2 (hermitagelaw10_MoveBack.l0 p0 k n1) n2 lt4_3 it6_3 = some r) k ?_ ?_
   ·exact fun a ha => ⟨lt4_2, At4_2, ct4_2, 0, ha.sb, by omega, (h27.sb), x0_2, x_xt2_2, H⟩
   intro n2 a w10 hI hp
   obtain ⟨lt4_3, At4_3, ct4_3, it6_3, hS, hle, ft4_3, x0_3, x_xt2_3, H⟩ := hI
   cases n2 with
   | zero => cases H
   | succ n2 =>
    rw [hermitagelaw10_MoveBack.l1] at H
    refine CW.go hp hS ?_
    have h28 : Ow kPtr 43 w10.heap (okL [(w7.heap.size, some w10.heap.size, some 43)]) (okL []) At4_3 ct4_3 lt4_3 := ft4_3.close
    have xt4 : Ext w10 w10 := Upd.refl _ _
    refine CW.seq (CW.seq (CW.lex [.W, .W, .L, .W, .W, .W, .L, .W] rfl (pu 2 rfl (RW.lb tk [.slice A1 p0.P.Devices.length c_1] (gb2_1.ext x_xt2_3) 0 ?_))))
    refine pu 1 rfl ?_
    obtain ⟨g1, H⟩ := guard_some H
    obtain ⟨ad1, A5, c_5, A6, c_6, e1, a1, l3, h29, l4, h30⟩ := kDeviceR_at (h1.ext x0_3) g1.1 g1.2
    refine RW.ix tk g1 e1 ?_
    refine pu 1 rfl (RW.ld tk [iv ((rd p0.P.Devices it5_2).Size)] ((a1.fld 1).take 1 rfl) ?_)
    refine pu 1 rfl (RW.done (NW.next ?_))
    by_cases c6 : it6_3 < ((rd p0.P.Devices it5_2).Size)
    ·rw [if_pos c6] at H
     refine CW.cond_t rfl (decide_eq_true c6) (CW.skip (NW.next ?_))
     refine CW.seqJ (fun a w11 => ∃ (lt4_4 : List Ptr) (At4_4 : Option Addr) (ct4_4 : Nat), Sat 148 [(3, .pointer (some ⟨b2, 0, none⟩)), (4, .slice At4_4 lt4_4.length ct4_4), (5, iv it5_2), (6, iv it6_3)] a ∧ w10.heap.size ≤ w11.heap.size ∧ Ow kPtr 43 w11.heap (okL [(w7.heap.size, none, some 43)]) (okL []) At4_4 ct4_4 lt4_4 ∧ Ext w w11 ∧ Ext w7 w11 ∧ hermitagelaw10_MoveBack.j2 it6_3 (hermitagelaw10_MoveBack.l1 p0 k it5_2 (hermitagelaw10_MoveBack.l0 p0 k n1) n2) lt4_4 = some r) ?_ ?_
     ·refine CW.block ?_
      refine CW.seqJ (fun a w12 => ∃ (bt73_5 : Bool), Sat 148 [(3, .pointer (some ⟨b2, 0, none⟩)), (4, .slice At4_3 lt4_3.length ct4_3), (5, iv it5_2), (6, iv it6_3), (73, .bool bt73_5)] a ∧ w10.heap.size ≤ w12.heap.size ∧ Ext w w12 ∧ Ext w7 w12 ∧ Ext w10 w12 ∧ hermitagelaw10_MoveBack.j3 p0 it5_2 lt4_3 it6_3 (hermitagelaw10_MoveBack.l1 p0 k it5_2 (hermitagelaw10_MoveBack.l0 p0 k n1) n2) bt73_5 = some r) ?_ ?_
      ·refine CW.lex [.W, .L, .W, .W, .W, .L, .W, .X, .W, .W, .W, .L, .W, .W, .W, .L, .W, .X, .W, .W] rfl (pu 1 rfl (RW.lb tk [.slice A1 p0.P.Devices.length c_1] (gb2_1.ext x_xt2_3) 0 ?_))
       refine pu 1 rfl ?_
       obtain ⟨g2, H⟩ := guard_some H
       obtain ⟨ad2, A7, c_7, A8, c_8, e2, a2, l5, h31, l6, h32⟩ := kDeviceR_at (h1.ext x0_3) g2.1 g2.2
       refine RW.ix tk g2 e2 ?_
       refine pu 1 rfl (RW.ld tk [.slice A7 ((rd p0.P.Devices it5_2).Free).length c_7] ((a2.fld 2).take 1 rfl) ?_)
       refine pu 1 rfl ?_
       obtain ⟨y4, h33, H⟩ := bind_some H
       refine RW.cl ent10 (hermitageref1_Has.calls k A7 c_7 ((rd p0.P.Devices it5_2).Free) it6_3 _ _ h31.all l5 h33) ?_
       rintro _ w13 ⟨rfl, x7⟩
       refine ⟨_, rfl, x7, ?_⟩
       have sx7 := x7.size
       refine pu 2 rfl ?_
       have j4 := x0_3.tr x7
       have j5 := x_xt2_3.tr x7
       have j6 := xt4.tr x7
       by_cases c7 : y4 = true
       ·rw [if_pos c7] at H
        refine RW.bool 63 (b' := false) (not_f (c7)) rfl (pu 10 rfl (RW.done ?_))
        exact NW.J fun a ha => ⟨false, ha.sb, by omega, j4, j5, j6, H⟩
       rw [if_neg c7] at H
       refine RW.bool 63 (b' := true) (not_t (bool_f c7)) rfl (pu 1 rfl ?_)
       have h37 := (gb2_1.ext x_xt2_3).ext x7
       refine RW.lb tk [.slice A1 p0.P.Devices.length c_1] h37 0 ?_
       refine pu 1 rfl ?_
       obtain ⟨g3, H⟩ := guard_some H
       have h38 := (h1.ext x0_3).ext x7
       obtain ⟨ad3, A9, c_9, A10, c_10, e3, a3, l7, h39, l8, h40⟩ := kDeviceR_at h38 g3.1 g3.2
       refine RW.ix tk g3 e3 ?_
       refine pu 1 rfl (RW.ld tk [.slice A10 ((rd p0.P.Devices it5_2).Late).length c_10] (a3.fld 3) ?_)
       refine pu 1 rfl ?_
       obtain ⟨y5, h41, H⟩ := bind_some H
       refine RW.cl ent10 (hermitageref1_Has.calls k A10 c_10 ((rd p0.P.Devices it5_2).Late) it6_3 _ _ h40.all l8 h41) ?_
       rintro _ w14 ⟨rfl, x8⟩
       refine ⟨_, rfl, x8, ?_⟩
       have sx8 := x8.size
       refine pu 2 rfl (RW.done ?_)
       have h42 := j4.tr x8
       have h43 := j5.tr x8
       have h44 := j6.tr x8
       exact NW.J fun a ha => ⟨(!y5), ha.sb, by omega, h42, h43, h44, H⟩
      intro a w12 hJ hp
      obtain ⟨bt73_5, hS, hle, x0_5, x_xt2_5, x_xt4_5, H⟩ := hJ
      unfold hermitagelaw10_MoveBack.j3 at H
      refine CW.go hp hS ?_
      by_cases c8 : bt73_5 = true
      ·rw [if_pos c8] at H
       refine CW.cond_t rfl (c8) (CW.lex [.W, .W, .L, .W, .W, .W, .L, .W, .W, .X, .M, .W] rfl (pu 2 rfl (RW.lb tk [.slice A1 p0.P.Devices.length c_1] (gb2_1.ext x_xt2_5) 0 ?_)))
       refine pu 1 rfl ?_
       obtain ⟨g4, H⟩ := guard_some H
       obtain ⟨ad4, A11, c_11, A12, c_12, e4, a4, l9, h45, l10, h46⟩ := kDeviceR_at (h1.ext x0_5) g4.1 g4.2
       refine RW.ix tk g4 e4 ?_
       refine pu 1 rfl (RW.ld tk [iv ((rd p0.P.Devices it5_2).ID)] ((a4.fld 0).take 1 rfl) ?_)
       refine pu 2 rfl (RW.buildSlice (cs := [iv ((rd p0.P.Devices it5_2).ID), iv it6_3]) tk (.inl rfl) ⟨rfl, rfl, rfl, rfl⟩ rfl rfl rfl rfl rfl rfl rfl ?_)
       intro b3 w15 x9 l11 h47
       have sx9 := x9.size
       have ltb3 := h47.lt
       have h48 := (h28.ext x_xt4_5).ext x9
       obtain ⟨g5, H⟩ := guard_some H
       refine RW.append1L (d := kPtr) (v := (⟨(rd p0.P.Devices it5_2).ID, it6_3⟩ : Ptr)) (l := [(w7.heap.size, some w10.heap.size, some 43)]) (li := []) (ly := []) (xs := lt4_3) tk h48 h47 (kPtr_mk (⟨(rd p0.P.Devices it5_2).ID, it6_3⟩ : Ptr)) trivial (by simp only [maxLen]; omega) g5 ⟨rfl, rfl, rfl, rfl⟩ rfl rfl rfl rfl rfl rfl rfl ?_
       intro A13 c_13 w16 x10 h49
       have sx10 := x10.size
       have h50 := h49.close.sub (l' := [(w7.heap.size, some w16.heap.size, some 43)]) (li' := []) ⟨(.inl ⟨by omega, by omega, rfl⟩), ⟨(.inl ⟨by omega, by omega, rfl⟩), trivial⟩⟩ trivial
       refine pu 1 rfl (RW.done (NW.norm_block ?_))
       have h51 := Ext.turn (x0_5.tr x9) x10 ⟨by omega, trivial⟩
       have h52 := Ext.turn (x_xt2_5.tr x9) x10 ⟨by omega, trivial⟩
       exact NW.J fun a ha => ⟨(lt4_3 ++ [(⟨(rd p0.P.Devices it5_2).ID, it6_3⟩ : Ptr)]), A13, c_13, ha.sb, by omega, (h50.sb), h51, h52, H⟩
      rw [if_neg c8] at H
      refine CW.cond_f rfl (bool_f c8) (CW.skip (NW.norm_block ?_))
      exact NW.J fun a ha => ⟨lt4_3, At4_3, ct4_3, ha.sb, by omega, ((h28.ext x_xt4_5).sb), x0_5, x_xt2_5, H⟩
     intro a w11 hJ hp
     obtain ⟨lt4_4, At4_4, ct4_4, hS, hle, ft4_4, x0_4, x_xt2_4, H⟩ := hJ
     unfold hermitagelaw10_MoveBack.j2 at H
     refine CW.go hp hS ?_
     have h53 : Ow kPtr 43 w11.heap (okL [(w7.heap.size, some w11.heap.size, some 43)]) (okL []) At4_4 ct4_4 lt4_4 := ft4_4.close
     have xt5 : Ext w11 w11 := Upd.refl _ _
     refine CW.lw 3 rfl (pu 3 rfl (RW.done ?_))
     exact NW.J fun a ha => ⟨n2, Nat.lt_succ_self n2, lt4_4, At4_4, ct4_4, (w64 (it6_3 + 1)), ha.sb, by omega, (h53.sb), x0_4, x_xt2_4, H⟩
    rw [if_neg c6] at H
    refine CW.cond_f rfl (decide_eq_false c6) (CW.exit ?_)
    refine NW.exit_then (NW.exit_then (NW.exit_hit ?_))
    refine NW.norm_block (NW.next ?_)
    refine CW.lw 3 rfl (pu 3 rfl (RW.done ?_))
    exact NW.J fun a ha => ⟨n1, Nat.lt_succ_self n1, lt4_3, At4_3, ct4_3, (w64 (it5_2 + 1)), ha.sb, by omega, (h28.sb), x0_3, x_xt2_3, H⟩
  rw [if_neg c5] at H
  refine CW.cond_f rfl (decide_eq_false c5) (CW.exit ?_)
  refine NW.exit_then (NW.exit_then (NW.exit_hit ?_))
  refine NW.next (CW.seq (CW.seq (CW.lw 1 rfl (pu 1 rfl ?_))))
  refine RW.done (NW.next (CW.block ?_))
  refine CW.loop (fun n3 a w17 => ∃ (it7_6 : Int), Sat 148 [(3, .pointer (some ⟨b2, 0, none⟩)), (4, .slice At4_2 lt4_2.length ct4_2), (7, iv it7_6)] a ∧ w9.heap.size ≤ w17.heap.size ∧ Ext w w17 ∧ Ext w7 w17 ∧ Ext w9 w17 ∧ hermitagelaw10_MoveBack.l2 p0 k lt4_2 n3 it7_6 = some r) k ?_ ?_
  ·exact fun a ha => ⟨0, ha.sb, by omega, x0_2, x_xt2_2, xt3, H⟩
  intro n3 a w17 hI hp
  obtain ⟨it7_6, hS, hle, x0_6, x_xt2_6, x_xt3_6, H⟩ := hI
  cases n3 with
  | zero => cases H
  | succ n3 =>
   rw [hermitagelaw10_MoveBack.l2] at H
   refine CW.go hp hS (CW.seq (CW.seq (CW.lex [.W, .W, .L, .W, .W] rfl (pu 2 rfl ?_))))
   refine RW.lb tk [.slice A1 p0.P.Devices.length c_1] (gb2_1.ext x_xt2_6) 0 ?_
   refine pu 2 rfl (RW.done (NW.next ?_))
   have j7 := hG.ext x0_6
   by_cases c9 : it7_6 < (p0.P.Devices.length : Int)
   ·rw [if_pos c9] at H
    refine CW.cond_t rfl (decide_eq_true c9) (CW.skip (NW.next ?_))
    refine CW.seqJ (fun a w18 => Sat 148 [(3, .pointer (some ⟨b2, 0, none⟩)), (4, .slice At4_2 lt4_2.length ct4_2), (7, iv it7_6)] a ∧ w17.heap.size ≤ w18.heap.size ∧ Ext w w18 ∧ Ext w7 w18 ∧ Ext w9 w18 ∧ hermitagelaw10_MoveBack.j4 it7_6 (hermitagelaw10_MoveBack.l2 p0 k lt4_2 n3) = some r) ?_ ?_
    ·refine CW.block ?_
     refine CW.seqJ (fun a w19 => ∃ (it9_8 : Int) (bk8_8 : Nat) (lbk8_8_0_8 : List Device) (Abk8_8_0_8 : Option Addr) (cbk8_8_0_8 : Nat) (lbk8_8_1_8 : List Table) (Abk8_8_1_8 : Option Addr) (cbk8_8_1_8 : Nat) (ibk8_8_2_8 : Int) (ibk8_8_3_8 : Int) (ibk8_8_4_8 : Int) (ibk8_8_5_8 : Int) (lbk8_8_6_8 : List Entry) (Abk8_8_6_8 : Option Addr) (cbk8_8_6_8 : Nat) (ibk8_8_7_8 : Int), Sat 148 [(3, .pointer (some ⟨b2, 0, none⟩)), (4, .slice At4_2 lt4_2.length ct4_2), (7, iv it7_6), (8, .pointer (some ⟨bk8_8, 0, none⟩)), (9, iv it9_8)] a ∧ w17.heap.size ≤ w19.heap.size ∧ Ow kDeviceO 40 w19.heap (okL [(w17.heap.size, none, some 40)]) (okL [(w17.heap.size, none, some 105)]) Abk8_8_0_8 cbk8_8_0_8 lbk8_8_0_8 ∧ Ow kTableO 26 w19.heap (okL [(w17.heap.size, none, some 26)]) (okL [(w17.heap.size, none, some 66)]) Abk8_8_1_8 cbk8_8_1_8 lbk8_8_1_8 ∧ Ow kEntry 66 w19.heap (okL [(w17.heap.size, none, some 66)]) (okL []) Abk8_8_6_8 cbk8_8_6_8 lbk8_8_6_8 ∧ Ext w w19 ∧ Ext w7 w19 ∧ Ext w9 w19 ∧ Box w19.heap bk8_8 30 [.slice Abk8_8_0_8 lbk8_8_0_8.length cbk8_8_0_8, .slice Abk8_8_1_8 lbk8_8_1_8.length cbk8_8_1_8, iv ibk8_8_2_8, iv ibk8_8_3_8, iv ibk8_8_4_8, iv ibk8_8_5_8, .slice Abk8_8_6_8 lbk8_8_6_8.length cbk8_8_6_8, iv ibk8_8_7_8] ∧ w17.heap.size ≤ bk8_8 ∧ hermitagelaw10_MoveBack.j5 p0 k lt4_2 it7_6 (hermitagelaw10_MoveBack.l2 p0 k lt4_2 n3) it9_8 lbk8_8_0_8 lbk8_8_1_8 ibk8_8_2_8 ibk8_8_3_8 ibk8_8_4_8 ibk8_8_5_8 lbk8_8_6_8 ibk8_8_7_8 = some r) ?_ ?_
     ·refine CW.ord [0, 0, 2, 0, 14, 30, 62, 127, 255, 511, 511, 0, 3071, 8191] (ofL [(1, .W), (3, .W), (0, .L), (2, .L), (4, .W), (5, .W), (6, .L)] (.two 7 .X (ofL [(8, .W), (9, .W), (10, .W), (11, .X), (12, .M), (13, .W)] .nil) 11 .X (ofL [(7, .X), (8, .W), (9, .W), (10, .W), (12, .M), (13, .W)] .nil))) mixed (by kernel_rfl) ?_
      intro w20 x11
      have sx11 := x11.size
      refine pu 2 rfl ?_
      have h54 := (gb2_1.ext x_xt2_6).ext x11
      refine RW.ld tk [.slice A1 p0.P.Devices.length c_1, .slice A2 p0.P.Tables.length c_2, iv p0.P.Job.Dev, iv p0.P.Job.At, iv p0.P.Job.Table.Dev, iv p0.P.Job.Table.Size, .slice A3 p0.P.Job.Table.List_.length c_3, iv p0.P.Next] (h54.at 0) ?_
      refine RW.lb tk [.slice A1 p0.P.Devices.length c_1] h54 0 ?_
      obtain ⟨g6, H⟩ := guard_some H
      have h55 := (h1.ext x0_6).ext x11
      obtain ⟨ad5, A14, c_14, A15, c_15, e5, a5, l12, h56, l13, h57⟩ := kDeviceR_at h55 g6.1 g6.2
      refine RW.ix tk g6 e5 ?_
      refine pu 1 rfl (RW.ld tk [iv ((rd p0.P.Devices it7_6).ID)] ((a5.fld 0).take 1 rfl) ?_)
      refine RW.two ?_ ?_
      ·have h58 := (h2.ext x0_6).ext x11
       have h59 := (h3.ext x0_6).ext x11
       have h60 := j7.ext x11
       obtain ⟨y6, h61, H⟩ := bind_some H
       refine RW.cl ent11 (move_Remove.calls k p0.P A1 c_1 A2 c_2 A3 c_3 ((rd p0.P.Devices it7_6).ID) _ _ h55.all hl1 h58.all hl2 h59.all hl3 h60 h61) ?_
       rintro _ w21 ⟨A16, c_16, A17, c_17, A18, c_18, rfl, x12, h62, h63, h64⟩
       refine ⟨_, rfl, x12, ?_⟩
       have sx12 := x12.size
       have h65 : Ow kDeviceO 40 w21.heap (okL [(w20.heap.size, some w21.heap.size, some 40)]) (okL [(w20.heap.size, some w21.heap.size, some 105)]) A16 c_16 y6.1.Devices := h62.close
       have h66 : Ow kTableO 26 w21.heap (okL [(w20.heap.size, some w21.heap.size, some 26)]) (okL [(w20.heap.size, some w21.heap.size, some 66)]) A17 c_17 y6.1.Tables := h63.close
       have h67 : Ow kEntry 66 w21.heap (okL [(w20.heap.size, some w21.heap.size, some 66)]) (okL []) A18 c_18 y6.1.Job.Table.List_ := h64.close
       refine pu 3 rfl (RW.alloc tk (.inl rfl) ⟨rfl, rfl, rfl, rfl⟩ rfl rfl ?_)
       intro b4 w22 x13 l14 h68
       have sx13 := x13.size
       have ltb4 := h68.lt
       refine RW.sb tk h68 [.slice A16 y6.1.Devices.length c_16, .slice A17 y6.1.Tables.length c_17, iv y6.1.Job.Dev, iv y6.1.Job.At, iv y6.1.Job.Table.Dev, iv y6.1.Job.Table.Size, .slice A18 y6.1.Job.Table.List_.length c_18, iv y6.1.Next] ?_
       intro w23 x14 h69
       have h70 : Box w23.heap b4 30 [.slice A16 y6.1.Devices.length c_16, .slice A17 y6.1.Tables.length c_17, iv y6.1.Job.Dev, iv y6.1.Job.At, iv y6.1.Job.Table.Dev, iv y6.1.Job.Table.Size, .slice A18 y6.1.Job.Table.List_.length c_18, iv y6.1.Next] := h69
       have sx14 := x14.size
       refine pu 1 rfl (RW.done ?_)
       have h71 := (h65.ext x13).tB x14 h68
       have h72 := (h66.ext x13).tB x14 h68
       have h73 := (h67.ext x13).tB x14 h68
       have h74 := (((x0_6.tr x11).tr x12).tr x13).tB x14
       have h75 := (((x_xt2_6.tr x11).tr x12).tr x13).tB x14
       have h76 := (((x_xt3_6.tr x11).tr x12).tr x13).tB x14
       exact NW.J fun a ha => ⟨y6.2, b4, y6.1.Devices, A16, c_16, y6.1.Tables, A17, c_17, y6.1.Job.Dev, y6.1.Job.At, y6.1.Job.Table.Dev, y6.1.Job.Table.Size, y6.1.Job.Table.List_, A18, c_18, y6.1.Next, ha.sb, by omega, (h71.sb), (h72.sb), (h73.sb), h74, h75, h76, h70, by omega, H⟩
      refine RW.alloc tk (.inl rfl) ⟨rfl, rfl, rfl, rfl⟩ rfl rfl ?_
      intro b4 w21 x12 l14 h58
      have sx12 := x12.size
      have ltb4 := h58.lt
      have h59 := h55.ext x12
      have h60 := ((h2.ext x0_6).ext x11).ext x12
      have h61 := ((h3.ext x0_6).ext x11).ext x12
      have h62 := (j7.ext x11).ext x12
      obtain ⟨y6, h63, H⟩ := bind_some H
      refine RW.cl ent11 (move_Remove.calls k p0.P A1 c_1 A2 c_2 A3 c_3 ((rd p0.P.Devices it7_6).ID) _ _ h59.all hl1 h60.all hl2 h61.all hl3 h62 h63) ?_
      rintro _ w22 ⟨A16, c_16, A17, c_17, A18, c_18, rfl, x13, h64, h65, h66⟩
      refine ⟨_, rfl, x13, ?_⟩
      have sx13 := x13.size
      have h67 : Ow kDeviceO 40 w22.heap (okL [(w21.heap.size, some w22.heap.size, some 40)]) (okL [(w21.heap.size, some w22.heap.size, some 105)]) A16 c_16 y6.1.Devices := h64.close
      have h68 : Ow kTableO 26 w22.heap (okL [(w21.heap.size, some w22.heap.size, some 26)]) (okL [(w21.heap.size, some w22.heap.size, some 66)]) A17 c_17 y6.1.Tables := h65.close
      have h69 : Ow kEntry 66 w22.heap (okL [(w21.heap.size, some w22.heap.size, some 66)]) (okL []) A18 c_18 y6.1.Job.Table.List_ := h66.close
      refine pu 3 rfl ?_
      have h70 := h58.ext x13
      refine RW.sb tk h70 [.slice A16 y6.1.Devices.length c_16, .slice A17 y6.1.Tables.length c_17, iv y6.1.Job.Dev, iv y6.1.Job.At, iv y6.1.Job.Table.Dev, iv y6.1.Job.Table.Size, .slice A18 y6.1.Job.Table.List_.length c_18, iv y6.1.Next] ?_
      intro w23 x14 h71
      have h72 : Box w23.heap b4 30 [.slice A16 y6.1.Devices.length c_16, .slice A17 y6.1.Tables.length c_17, iv y6.1.Job.Dev, iv y6.1.Job.At, iv y6.1.Job.Table.Dev, iv y6.1.Job.Table.Size, .slice A18 y6.1.Job.Table.List_.length c_18, iv y6.1.Next] := h71
      have sx14 := x14.size
      refine pu 1 rfl (RW.done ?_)
      have h73 := h67.tB x14 h70
      have h74 := h68.tB x14 h70
      have h75 := h69.tB x14 h70
      have h76 := (((x0_6.tr x11).tr x12).tr x13).tB x14
      have h77 := (((x_xt2_6.tr x11).tr x12).tr x13).tB x14
      have h78 := (((x_xt3_6.tr x11).tr x12).tr x13).tB x14
      exact NW.J fun a ha => ⟨y6.2, b4, y6.1.Devices, A16, c_16, y6.1.Tables, A17, c_17, y6.1.Job.Dev, y6.1.Job.At, y6.1.Job.Table.Dev, y6.1.Job.Table.Size, y6.1.Job.Table.List_, A18, c_18, y6.1.Next, ha.sb, by omega, (h73.sb), (h74.sb), (h75.sb), h76, h77, h78, h72, by omega, H⟩
     intro a w19 hJ hp
     obtain ⟨it9_8, bk8_8, lbk8_8_0_8, Abk8_8_0_8, cbk8_8_0_8, lbk8_8_1_8, Abk8_8_1_8, cbk8_8_1_8, ibk8_8_2_8, ibk8_8_3_8, ibk8_8_4_8, ibk8_8_5_8, lbk8_8_6_8, Abk8_8_6_8, cbk8_8_6_8, ibk8_8_7_8, hS, hle, fbk8_8_0_8, fbk8_8_1_8, fbk8_8_6_8, x0_8, x_xt2_8, x_xt3_8, gbk8_8_8, lobk8_8, H⟩ := hJ
     have ltbk8_8 := gbk8_8_8.lt
     unfold hermitagelaw10_MoveBack.j5 at H
     refine CW.go hp hS ?_
     have h79 : Ow kDeviceO 40 w19.heap (okL [(w17.heap.size, some w19.heap.size, some 40)]) (okL [(w17.heap.size, some w19.heap.size, some 105)]) Abk8_8_0_8 cbk8_8_0_8 lbk8_8_0_8 := fbk8_8_0_8.close
     have h80 : Ow kTableO 26 w19.heap (okL [(w17.heap.size, some w19.heap.size, some 26)]) (okL [(w17.heap.size, some w19.heap.size, some 66)]) Abk8_8_1_8 cbk8_8_1_8 lbk8_8_1_8 := fbk8_8_1_8.close
     have h81 : Ow kEntry 66 w19.heap (okL [(w17.heap.size, some w19.heap.size, some 66)]) (okL []) Abk8_8_6_8 cbk8_8_6_8 lbk8_8_6_8 := fbk8_8_6_8.close
     have xt6 : Ext w19 w19 := Upd.refl _ _
     refine CW.seq (CW.seq (CW.lex [.W, .X, .W] rfl (pu 1 rfl ?_)))
     obtain ⟨y7, h82, H⟩ := bind_some H
     refine RW.cl ent12 (hermitagelaw10_num.calls it9_8 _ _ h82) ?_
     rintro _ w24 ⟨rfl, x15⟩
     refine ⟨_, rfl, x15, ?_⟩
     have sx15 := x15.size
     refine pu 1 rfl (RW.done (NW.next ?_))
     have j8 := x0_8.tr x15
     have j9 := x_xt2_8.tr x15
     have j10 := x_xt3_8.tr x15
     by_cases c10 : y7 = 0
     ·rw [if_pos c10] at H
      refine CW.cond_f rfl (bne_f c10) (CW.skip (NW.next (CW.seq (CW.lw 1 rfl ?_))))
      refine pu 1 rfl (RW.done (NW.next (CW.block ?_)))
      refine CW.loop (fun n4 a w25 => ∃ (it10_9 : Int) (lbk8_8_0_9 : List Device) (Abk8_8_0_9 : Option Addr) (cbk8_8_0_9 : Nat) (lbk8_8_1_9 : List Table) (Abk8_8_1_9 : Option Addr) (cbk8_8_1_9 : Nat) (ibk8_8_2_9 : Int) (ibk8_8_3_9 : Int) (ibk8_8_4_9 : Int) (ibk8_8_5_9 : Int) (lbk8_8_6_9 : List Entry) (Abk8_8_6_9 : Option Addr) (cbk8_8_6_9 : Nat) (ibk8_8_7_9 : Int), Sat 148 [(3, .pointer (some ⟨b2, 0, none⟩)), (4, .slice At4_2 lt4_2.length ct4_2), (7, iv it7_6), (8, .pointer (some ⟨bk8_8, 0, none⟩)), (10, iv it10_9)] a ∧ w24.heap.size ≤ w25.heap.size ∧ Ow kDeviceO 40 w25.heap (okL [(w17.heap.size, none, some 40)]) (okL [(w17.heap.size, none, some 105)]) Abk8_8_0_9 cbk8_8_0_9 lbk8_8_0_9 ∧ Ow kTableO 26 w25.heap (okL [(w17.heap.size, none, some 26)]) (okL [(w17.heap.size, none, some 66)]) Abk8_8_1_9 cbk8_8_1_9 lbk8_8_1_9 ∧ Ow kEntry 66 w25.heap (okL [(w17.heap.size, none, some 66)]) (okL []) Abk8_8_6_9 cbk8_8_6_9 lbk8_8_6_9 ∧ Ext w w25 ∧ Ext w7 w25 ∧ Ext w9 w25 ∧ Box w25.heap bk8_8 30 [.slice Abk8_8_0_9 lbk8_8_0_9.length cbk8_8_0_9, .slice Abk8_8_1_9 lbk8_8_1_9.length cbk8_8_1_9, iv ibk8_8_2_9, iv ibk8_8_3_9, iv ibk8_8_4_9, iv ibk8_8_5_9, .slice Abk8_8_6_9 lbk8_8_6_9.length cbk8_8_6_9, iv ibk8_8_7_9] ∧ hermitagelaw10_MoveBack.l3 p0 k lt4_2 it7_6 (hermitagelaw10_MoveBack.l2 p0 k lt4_2 n3) n4 it10_9 lbk8_8_0_9 lbk8_8_1_9 ibk8_8_2_9 ibk8_8_3_9 ibk8_8_4_9 ibk8_8_5_9 lbk8_8_6_9 ibk8_8_7_9 = some r) k ?_ ?_
      have h83 := h79.ext x15
      have h84 := h80.ext x15
      have h85 := h81.ext x15
      have h89 := gbk8_8_8.ext x15
      ·exact fun a ha => ⟨0, lbk8_8_0_8, Abk8_8_0_8, cbk8_8_0_8, lbk8_8_1_8, Abk8_8_1_8, cbk8_8_1_8, ibk8_8_2_8, ibk8_8_3_8, ibk8_8_4_8, ibk8_8_5_8, lbk8_8_6_8, Abk8_8_6_8, cbk8_8_6_8, ibk8_8_7_8, ha.sb, by omega, (h83.sb), (h84.sb), (h85.sb), j8, j9, j10, h89, H⟩
      intro n4 a w25 hI hp
      obtain ⟨it10_9, lbk8_8_0_9, Abk8_8_0_9, cbk8_8_0_9, lbk8_8_1_9, Abk8_8_1_9, cbk8_8_1_9, ibk8_8_2_9, ibk8_8_3_9, ibk8_8_4_9, ibk8_8_5_9, lbk8_8_6_9, Abk8_8_6_9, cbk8_8_6_9, ibk8_8_7_9, hS, hle, fbk8_8_0_9, fbk8_8_1_9, fbk8_8_6_9, x0_9, x_xt2_9, x_xt3_9, gbk8_8_9, H⟩ := hI
      cases n4 with
      | zero => cases H
      | succ n4 =>
       rw [hermitagelaw10_MoveBack.l3] at H
       refine CW.go hp hS ?_
       have h90 : Ow kDeviceO 40 w25.heap (okL [(w17.heap.size, some w25.heap.size, some 40)]) (okL [(w17.heap.size, some w25.heap.size, some 105)]) Abk8_8_0_9 cbk8_8_0_9 lbk8_8_0_9 := fbk8_8_0_9.close
       have h91 : Ow kTableO 26 w25.heap (okL [(w17.heap.size, some w25.heap.size, some 26)]) (okL [(w17.heap.size, some w25.heap.size, some 66)]) Abk8_8_1_9 cbk8_8_1_9 lbk8_8_1_9 := fbk8_8_1_9.close
       have h92 : Ow kEntry 66 w25.heap (okL [(w17.heap.size, some w25.heap.size, some 66)]) (okL []) Abk8_8_6_9 cbk8_8_6_9 lbk8_8_6_9 := fbk8_8_6_9.close
       have xt7 : Ext w25 w25 := Upd.refl _ _
       refine CW.seq (CW.seq (CW.lw 2 rfl (pu 2 rfl (RW.done ?_))))
       refine NW.next ?_
       by_cases c11 : it10_9 < 3
       ·rw [if_pos c11] at H
        refine CW.cond_t rfl (decide_eq_true c11) (CW.skip (NW.next (CW.seq (CW.block ?_))))
        refine CW.seq (CW.lex [.L, .W, .X, .W, .W, .W, .X, .M, .W] rfl (RW.ld tk [.slice Abk8_8_0_9 lbk8_8_0_9.length cbk8_8_0_9, .slice Abk8_8_1_9 lbk8_8_1_9.length cbk8_8_1_9, iv ibk8_8_2_9, iv ibk8_8_3_9, iv ibk8_8_4_9, iv ibk8_8_5_9, .slice Abk8_8_6_9 lbk8_8_6_9.length cbk8_8_6_9, iv ibk8_8_7_9] (gbk8_8_9.at 0) ?_))
        refine pu 1 rfl ?_
        obtain ⟨y8, h93, H⟩ := bind_some H
        refine RW.cl ent13 (move_Cancel.calls k (⟨lbk8_8_0_9, lbk8_8_1_9, (⟨ibk8_8_2_9, ibk8_8_3_9, (⟨ibk8_8_4_9, ibk8_8_5_9, lbk8_8_6_9⟩ : Table)⟩ : Job), ibk8_8_7_9⟩ : Pool) Abk8_8_0_9 cbk8_8_0_9 Abk8_8_1_9 cbk8_8_1_9 Abk8_8_6_9 cbk8_8_6_9 At4_2 ct4_2 lt4_2 _ _ (h90.all.to kDevice_ro rfl) h90.len (h91.all.to kTable_ro rfl) h91.len h92.all h92.len (h27.ext x_xt3_9).all (h27.ext x_xt3_9).len (hG.ext x0_9) h93) ?_
        rintro _ w26 ⟨A19, c_19, A20, c_20, A21, c_21, rfl, x16, h94, h95, h96⟩
        refine ⟨_, rfl, x16, ?_⟩
        have sx16 := x16.size
        have h97 : Ow kDeviceO 40 w26.heap (okL [(w25.heap.size, some w26.heap.size, some 40)]) (okL [(w25.heap.size, some w26.heap.size, some 105)]) A19 c_19 y8.1.Devices := h94.close
        have h98 : Ow kTableO 26 w26.heap (okL [(w25.heap.size, some w26.heap.size, some 26)]) (okL [(w25.heap.size, some w26.heap.size, some 66)]) A20 c_20 y8.1.Tables := h95.close
        have h99 : Ow kEntry 66 w26.heap (okL [(w25.heap.size, some w26.heap.size, some 66)]) (okL []) A21 c_21 y8.1.Job.Table.List_ := h96.close
        refine pu 3 rfl (RW.alloc tk (.inl rfl) ⟨rfl, rfl, rfl, rfl⟩ rfl rfl ?_)
        intro b5 w27 x17 l15 h100
        have sx17 := x17.size
        have ltb5 := h100.lt
        refine RW.sb tk h100 [.slice A19 y8.1.Devices.length c_19, .slice A20 y8.1.Tables.length c_20, iv y8.1.Job.Dev, iv y8.1.Job.At, iv y8.1.Job.Table.Dev, iv y8.1.Job.Table.Size, .slice A21 y8.1.Job.Table.List_.length c_21, iv y8.1.Next] ?_
        intro w28 x18 h101
        have h102 : Box w28.heap b5 30 [.slice A19 y8.1.Devices.length c_19, .slice A20 y8.1.Tables.length c_20, iv y8.1.Job.Dev, iv y8.1.Job.At, iv y8.1.Job.Table.Dev, iv y8.1.Job.Table.Size, .slice A21 y8.1.Job.Table.List_.length c_21, iv y8.1.Next] := h101
        have sx18 := x18.size
        refine pu 1 rfl (RW.done (NW.next (CW.seq (CW.seq ?_))))
        refine CW.ord [0, 1, 3, 7, 15, 15, 47, 127, 255, 511] (ofL [(0, .W), (1, .X), (2, .W), (3, .W), (4, .L), (5, .L), (6, .X), (7, .X), (8, .W), (9, .W)] .nil) mixed (by kernel_rfl) ?_
        intro w29 x19
        have sx19 := x19.size
        refine pu 1 rfl ?_
        obtain ⟨y9, h103, H⟩ := bind_some H
        refine RW.cl ent12 (hermitagelaw10_num.calls y8.2 _ _ h103) ?_
        rintro _ w30 ⟨rfl, x20⟩
        refine ⟨_, rfl, x20, ?_⟩
        have sx20 := x20.size
        refine pu 2 rfl ?_
        by_cases c12 : y9 = 0
        ·rw [if_pos c12] at H
         refine RW.bool 119 (b' := false) (bne_f c12) rfl ?_
         have h104 := (h102.ext x19).ext x20
         refine RW.ld tk [.slice A19 y8.1.Devices.length c_19, .slice A20 y8.1.Tables.length c_20, iv y8.1.Job.Dev, iv y8.1.Job.At, iv y8.1.Job.Table.Dev, iv y8.1.Job.Table.Size, .slice A21 y8.1.Job.Table.List_.length c_21, iv y8.1.Next] (h104.at 0) ?_
         have h105 := (((((gb2_1.ext x_xt2_9).ext x16).ext x17).tB x18).ext x19).ext x20
         refine RW.ld tk [.slice A1 p0.P.Devices.length c_1, .slice A2 p0.P.Tables.length c_2, iv p0.P.Job.Dev, iv p0.P.Job.At, iv p0.P.Job.Table.Dev, iv p0.P.Job.Table.Size, .slice A3 p0.P.Job.Table.List_.length c_3, iv p0.P.Next] (h105.at 0) ?_
         have h106 := (((((h1.ext x0_9).ext x16).ext x17).turnB x18 h100 ⟨.inr (by omega), trivial⟩).ext x19).ext x20
         have h107 := (((((h2.ext x0_9).ext x16).ext x17).turnB x18 h100 ⟨.inr (by omega), trivial⟩).ext x19).ext x20
         have h108 := (((((h3.ext x0_9).ext x16).ext x17).turnB x18 h100 ⟨.inr (by omega), trivial⟩).ext x19).ext x20
         obtain ⟨y10, h109, H⟩ := bind_some H
         refine RW.cl ent15 (hermitageref9_Commit.calls k p0.P A1 c_1 A2 c_2 A3 c_3 _ _ h106.all hl1 h107.all hl2 h108.all hl3 h109) ?_
         rintro _ w31 ⟨A22, c_22, A23, c_23, A24, c_24, rfl, x21, h110, h111, h112⟩
         refine ⟨_, rfl, x21, ?_⟩
         have sx21 := x21.size
         have h113 : Ow kDeviceO 40 w31.heap (okL [(w30.heap.size, some w31.heap.size, some 40)]) (okL [(w30.heap.size, some w31.heap.size, some 105)]) A22 c_22 y10.Devices := h110.close
         have h114 : Ow kTableO 26 w31.heap (okL [(w30.heap.size, some w31.heap.size, some 26)]) (okL [(w30.heap.size, some w31.heap.size, some 66)]) A23 c_23 y10.Tables := h111.close
         have h115 : Ow kEntry 66 w31.heap (okL [(w30.heap.size, some w31.heap.size, some 66)]) (okL []) A24 c_24 y10.Job.Table.List_ := h112.close
         have h116 := ((((h97.ext x17).tB x18 h100).ext x19).ext x20).ext x21
         have h117 := ((((h98.ext x17).tB x18 h100).ext x19).ext x20).ext x21
         have h118 := ((((h99.ext x17).tB x18 h100).ext x19).ext x20).ext x21
         obtain ⟨y11, h119, H⟩ := bind_some H
         refine RW.cl ent14 (hermitageref0_EqPool.calls k y8.1 A19 c_19 A20 c_20 A21 c_21 y10 A22 c_22 A23 c_23 A24 c_24 _ _ (h116.all.to kDevice_ro rfl) h116.len (h117.all.to kTable_ro rfl) h117.len h118.all h118.len (h113.all.to kDevice_ro rfl) h113.len (h114.all.to kTable_ro rfl) h114.len h115.all h115.len h119) ?_
         rintro _ w32 ⟨rfl, x22⟩
         refine ⟨_, rfl, x22, ?_⟩
         have sx22 := x22.size
         refine pu 2 rfl (RW.done (NW.next ?_))
         by_cases c13 : y11 = true
         ·rw [if_pos c13] at H
          refine CW.cond_f rfl (not_f (c13)) (CW.skip (NW.next (CW.seq (CW.lex [.L, .X, .W, .W, .W, .W, .X, .M, .W, .W] rfl ?_))))
          have h120 := ((((((gbk8_8_9.ext x16).ext x17).tB x18).ext x19).ext x20).ext x21).ext x22
          refine RW.ld tk [.slice Abk8_8_0_9 lbk8_8_0_9.length cbk8_8_0_9, .slice Abk8_8_1_9 lbk8_8_1_9.length cbk8_8_1_9, iv ibk8_8_2_9, iv ibk8_8_3_9, iv ibk8_8_4_9, iv ibk8_8_5_9, .slice Abk8_8_6_9 lbk8_8_6_9.length cbk8_8_6_9, iv ibk8_8_7_9] (h120.at 0) ?_
          have h121 := ((((((h90.ext x16).ext x17).tB x18 h100).ext x19).ext x20).ext x21).ext x22
          have h122 := ((((((h91.ext x16).ext x17).tB x18 h100).ext x19).ext x20).ext x21).ext x22
          have h123 := ((((((h92.ext x16).ext x17).tB x18 h100).ext x19).ext x20).ext x21).ext x22
          have h124 := (((((((hG.ext x0_9).ext x16).ext x17).tB x18).ext x19).ext x20).ext x21).ext x22
          obtain ⟨y12, h125, H⟩ := bind_some H
          refine RW.cl ent16 (move_Step.calls k (⟨lbk8_8_0_9, lbk8_8_1_9, (⟨ibk8_8_2_9, ibk8_8_3_9, (⟨ibk8_8_4_9, ibk8_8_5_9, lbk8_8_6_9⟩ : Table)⟩ : Job), ibk8_8_7_9⟩ : Pool) Abk8_8_0_9 cbk8_8_0_9 Abk8_8_1_9 cbk8_8_1_9 Abk8_8_6_9 cbk8_8_6_9 2 _ _ (h121.all.to kDevice_ro rfl) h121.len (h122.all.to kTable_ro rfl) h122.len h123.all h123.len h124 h125) ?_
          rintro _ w33 ⟨A25, c_25, A26, c_26, A27, c_27, A28, c_28, rfl, x23, h126, h127, h128, h129⟩
          refine ⟨_, rfl, x23, ?_⟩
          have sx23 := x23.size
          have h130 : Ow kDeviceO 40 w33.heap (okL [(w32.heap.size, some w33.heap.size, some 40)]) (okL [(w32.heap.size, some w33.heap.size, some 105)]) A25 c_25 y12.1.Devices := h126.close
          have h131 : Ow kTableO 26 w33.heap (okL [(w32.heap.size, some w33.heap.size, some 26)]) (okL [(w32.heap.size, some w33.heap.size, some 66)]) A26 c_26 y12.1.Tables := h127.close
          have h132 : Ow kEntry 66 w33.heap (okL [(w32.heap.size, some w33.heap.size, some 66)]) (okL []) A27 c_27 y12.1.Job.Table.List_ := h128.close
          have h133 : Ow kPair 124 w33.heap (okL [(w32.heap.size, some w33.heap.size, some 124)]) (okL []) A28 c_28 y12.2.1 := h129.close
          refine pu 4 rfl (RW.alloc tk (.inl rfl) ⟨rfl, rfl, rfl, rfl⟩ rfl rfl ?_)
          intro b6 w34 x24 l16 h134
          have sx24 := x24.size
          have ltb6 := h134.lt
          refine RW.sb tk h134 [.slice A25 y12.1.Devices.length c_25, .slice A26 y12.1.Tables.length c_26, iv y12.1.Job.Dev, iv y12.1.Job.At, iv y12.1.Job.Table.Dev, iv y12.1.Job.Table.Size, .slice A27 y12.1.Job.Table.List_.length c_27, iv y12.1.Next] ?_
          intro w35 x25 h135
          have h136 : Box w35.heap b6 30 [.slice A25 y12.1.Devices.length c_25, .slice A26 y12.1.Tables.length c_26, iv y12.1.Job.Dev, iv y12.1.Job.At, iv y12.1.Job.Table.Dev, iv y12.1.Job.Table.Size, .slice A27 y12.1.Job.Table.List_.length c_27, iv y12.1.Next] := h135
          have sx25 := x25.size
          refine pu 2 rfl (RW.done (NW.next (CW.seq ?_)))
          refine CW.seqJ (fun a w36 => ∃ (bt140_10 : Bool), Sat 148 [(3, .pointer (some ⟨b2, 0, none⟩)), (4, .slice At4_2 lt4_2.length ct4_2), (7, iv it7_6), (8, .pointer (some ⟨bk8_8, 0, none⟩)), (10, iv it10_9), (13, .pointer (some ⟨b6, 0, none⟩)), (140, .bool bt140_10)] a ∧ w35.heap.size ≤ w36.heap.size ∧ Ow kDeviceO 40 w36.heap (okL [(w32.heap.size, some w33.heap.size, some 40)]) (okL [(w32.heap.size, some w33.heap.size, some 105)]) A25 c_25 y12.1.Devices ∧ Ow kTableO 26 w36.heap (okL [(w32.heap.size, some w33.heap.size, some 26)]) (okL [(w32.heap.size, some w33.heap.size, some 66)]) A26 c_26 y12.1.Tables ∧ Ow kEntry 66 w36.heap (okL [(w32.heap.size, some w33.heap.size, some 66)]) (okL []) A27 c_27 y12.1.Job.Table.List_ ∧ Ext w w36 ∧ Ext w7 w36 ∧ Ext w9 w36 ∧ Ext w25 w36 ∧ Box w36.heap b6 30 [.slice A25 y12.1.Devices.length c_25, .slice A26 y12.1.Tables.length c_26, iv y12.1.Job.Dev, iv y12.1.Job.At, iv y12.1.Job.Table.Dev, iv y12.1.Job.Table.Size, .slice A27 y12.1.Job.Table.List_.length c_27, iv y12.1.Next] ∧ hermitagelaw10_MoveBack.j6 it7_6 it10_9 y12 (hermitagelaw10_MoveBack.l2 p0 k lt4_2 n3) (hermitagelaw10_MoveBack.l3 p0 k lt4_2 it7_6 (hermitagelaw10_MoveBack.l2 p0 k lt4_2 n3) n4) bt140_10 = some r) ?_ ?_
          ·refine CW.lex [.W, .X, .W, .W, .W, .W, .L, .W, .W] rfl (pu 1 rfl ?_)
           obtain ⟨y13, h137, H⟩ := bind_some H
           refine RW.cl ent12 (hermitagelaw10_num.calls y12.2.2 _ _ h137) ?_
           rintro _ w37 ⟨rfl, x26⟩
           refine ⟨_, rfl, x26, ?_⟩
           have sx26 := x26.size
           refine pu 2 rfl ?_
           have j11 := h136.ext x26
           have j12 := ((h130.ext x24).tB x25 h134).ext x26
           have j13 := ((h131.ext x24).tB x25 h134).ext x26
           have j14 := ((h132.ext x24).tB x25 h134).ext x26
           have j15 := ((((((((((x0_9.tr x16).tr x17).tB x18).tr x19).tr x20).tr x21).tr x22).tr x23).tr x24).tB x25).tr x26
           have j16 := ((((((((((x_xt2_9.tr x16).tr x17).tB x18).tr x19).tr x20).tr x21).tr x22).tr x23).tr x24).tB x25).tr x26
           have j17 := ((((((((((x_xt3_9.tr x16).tr x17).tB x18).tr x19).tr x20).tr x21).tr x22).tr x23).tr x24).tB x25).tr x26
           have j18 := ((((((((((xt7.tr x16).tr x17).tB x18).tr x19).tr x20).tr x21).tr x22).tr x23).tr x24).tB x25).tr x26
           by_cases c14 : y13 = 0
           ·rw [if_pos c14] at H
            refine RW.bool 135 (b' := false) (bne_f c14) rfl (pu 2 rfl (RW.lb tk [iv y12.1.Job.Dev] j11 2 ?_))
            refine pu 2 rfl (RW.done ?_)
            exact NW.J fun a ha => ⟨(y12.1.Job.Dev == 0), ha.sb, by omega, j12, j13, j14, j15, j16, j17, j18, j11, H⟩
           rw [if_neg c14] at H
           refine RW.bool 135 (b' := true) (bne_t c14) rfl (pu 5 rfl (RW.done ?_))
           exact NW.J fun a ha => ⟨true, ha.sb, by omega, j12, j13, j14, j15, j16, j17, j18, j11, H⟩
          intro a w36 hJ hp
          obtain ⟨bt140_10, hS, hle, gF25_10, gF26_10, gF27_10, x0_10, x_xt2_10, x_xt3_10, x_xt7_10, gb6_10, H⟩ := hJ
          unfold hermitagelaw10_MoveBack.j6 at H
          refine CW.go hp hS ?_
          have xt8 : Ext w36 w36 := Upd.refl _ _
          by_cases c15 : bt140_10 = true
          ·rw [if_pos c15] at H
           refine CW.cond_t rfl (c15) (CW.exit ?_)
           refine NW.exit_then (NW.exit_miss rfl (NW.exit_then (NW.exit_then (NW.exit_hit ?_))))
           refine NW.norm_block ?_
           exact NW.J fun a ha => ⟨ha.sb, by omega, x0_10, x_xt2_10, x_xt3_10, H⟩
          rw [if_neg c15] at H
          refine CW.cond_f rfl (bool_f c15) (CW.skip (NW.next (CW.lex [.L, .M] rfl (RW.ld tk [.slice A25 y12.1.Devices.length c_25, .slice A26 y12.1.Tables.length c_26, iv y12.1.Job.Dev, iv y12.1.Job.At, iv y12.1.Job.Table.Dev, iv y12.1.Job.Table.Size, .slice A27 y12.1.Job.Table.List_.length c_27, iv y12.1.Next] (gb6_10.at 0) ?_))))
          refine RW.sb tk (gbk8_8_9.ext x_xt7_10) [.slice A25 y12.1.Devices.length c_25, .slice A26 y12.1.Tables.length c_26, iv y12.1.Job.Dev, iv y12.1.Job.At, iv y12.1.Job.Table.Dev, iv y12.1.Job.Table.Size, .slice A27 y12.1.Job.Table.List_.length c_27, iv y12.1.Next] ?_
          intro w38 x27 h154
          have h155 : Box w38.heap bk8_8 30 [.slice A25 y12.1.Devices.length c_25, .slice A26 y12.1.Tables.length c_26, iv y12.1.Job.Dev, iv y12.1.Job.At, iv y12.1.Job.Table.Dev, iv y12.1.Job.Table.Size, .slice A27 y12.1.Job.Table.List_.length c_27, iv y12.1.Next] := h154
          have sx27 := x27.size
          refine RW.done ?_
          refine NW.norm_block (NW.next ?_)
          refine CW.lw 3 rfl (pu 3 rfl (RW.done ?_))
          have h156 := gF25_10.turnB x27 (gbk8_8_9.ext x_xt7_10) ⟨.inl (nq rfl), trivial⟩ ⟨.inl (nq rfl), trivial⟩
          have h157 := gF26_10.turnB x27 (gbk8_8_9.ext x_xt7_10) ⟨.inl (nq rfl), trivial⟩ ⟨.inl (nq rfl), trivial⟩
          have h158 := gF27_10.turnB x27 (gbk8_8_9.ext x_xt7_10) ⟨.inl (nq rfl), trivial⟩ trivial
          have h159 := x0_10.tB x27
          have h160 := x_xt2_10.tB x27
          have h161 := x_xt3_10.tB x27
          exact NW.J fun a ha => ⟨n4, Nat.lt_succ_self n4, (w64 (it10_9 + 1)), y12.1.Devices, A25, c_25, y12.1.Tables, A26, c_26, y12.1.Job.Dev, y12.1.Job.At, y12.1.Job.Table.Dev, y12.1.Job.Table.Size, y12.1.Job.Table.List_, A27, c_27, y12.1.Next, ha.sb, by omega, (h156.sb), (h157.sb), (h158.sb), h159, h160, h161, h155, H⟩
         rw [if_neg c13] at H
         cases H
        rw [if_neg c12] at H
        cases H
       rw [if_neg c11] at H
       refine CW.cond_f rfl (decide_eq_false c11) (CW.exit ?_)
       refine NW.exit_then (NW.exit_then (NW.exit_hit ?_))
       refine NW.norm_block ?_
       exact NW.J fun a ha => ⟨ha.sb, by omega, x0_9, x_xt2_9, x_xt3_9, H⟩
     rw [if_neg c10] at H
     refine CW.cond_t rfl (bne_t c10) (CW.exit ?_)
     refine NW.exit_then (NW.exit_hit ?_)
     exact NW.J fun a ha => ⟨ha.sb, by omega, j8, j9, j10, H⟩
    intro a w18 hJ hp
    obtain ⟨hS, hle, x0_7, x_xt2_7, x_xt3_7, H⟩ := hJ
    unfold hermitagelaw10_MoveBack.j4 at H
    refine CW.go hp hS (CW.lw 3 rfl (pu 3 rfl (RW.done ?_)))
    exact NW.J fun a ha => ⟨n3, Nat.lt_succ_self n3, (w64 (it7_6 + 1)), ha.sb, by omega, x0_7, x_xt2_7, x_xt3_7, H⟩
   rw [if_neg c9] at H
   refine CW.cond_f rfl (decide_eq_false c9) (CW.exit ?_)
   refine NW.exit_then (NW.exit_then (NW.exit_hit ?_))
   refine NW.next (CW.seq (CW.lex [.W, .X, .W, .W, .X, .W, .W] rfl (pu 1 rfl ?_)))
   obtain ⟨y14, h165, H⟩ := bind_some H
   refine RW.cl ent17 (hermitagelaw9_Heavy.calls k (⟨(⟨([] : List Device), ([] : List Table), (⟨0, 0, (⟨0, 0, ([] : List Entry)⟩ : Table)⟩ : Job), 0⟩ : Pool), ([] : List Ptr)⟩ : Ask) none 0 none 0 none 0 none 0 _ _ Sl.nil (Nat.le_refl 0) Sl.nil (Nat.le_refl 0) Sl.nil (Nat.le_refl 0) Sl.nil (Nat.le_refl 0) h165) ?_
   rintro _ w39 ⟨rfl, x28⟩
   refine ⟨_, rfl, x28, ?_⟩
   have sx28 := x28.size
   refine pu 2 rfl ?_
   by_cases c16 : y14 = true
   ·rw [if_pos c16] at H
    cases H
   rw [if_neg c16] at H
   refine RW.bool 145 (b' := true) (not_t (bool_f c16)) rfl ?_
   have h166 := j7.ext x28
   obtain ⟨y15, h167, H⟩ := bind_some H
   refine RW.cl ent9 (hermitagelaw10_wakes.calls k _ _ h166 h167) ?_
   rintro _ w40 ⟨rfl, x29⟩
   refine ⟨_, rfl, x29, ?_⟩
   have sx29 := x29.size
   refine pu 2 rfl (RW.done (NW.next (CW.ret ?_)))
   obtain rfl := Option.some.inj H
   have h168 := (x0_6.tr x28).tr x29
   exact NW.ret1 rfl (by rfl) ⟨rfl, h168⟩
end Go.Proofs.YtnaajldlloglkaaGreatDoor.W
