/- Walks; printed by a program of the claim. -/
import Derived.Test.YtnaajldlloglkaaGreatDoorMoveW4
set_option linter.unusedVariables false
set_option linter.unusedSimpArgs false
set_option maxHeartbeats 20000000
set_option maxRecDepth 100000
namespace Go.Proofs.YtnaajldlloglkaaGreatDoor.W
open Go.H Go.Proofs
theorem chain_Trace.calls (k : Nat) (p0 : Pool) (A1 : Option Addr) (c_1 : Nat) (A2 : Option Addr) (c_2 : Nat) (A3 : Option Addr) (c_3 : Nat) (p1 : Ptr) (p2 : Bool) (r : Trail × Bool) (w : World) (hs1 : Sl kDeviceR w.heap okAll A1 p0.Devices) (hl1 : p0.Devices.length ≤ c_1) (hs2 : Sl kTableR w.heap okAll A2 p0.Tables) (hl2 : p0.Tables.length ≤ c_2) (hs3 : Sl kEntry w.heap okAll A3 p0.Job.Table.List_) (hl3 : p0.Job.Table.List_.length ≤ c_3) (H : chain_Trace.f k p0 p1 p2 = some r) :
    Calls Tryz.prog 36 #[.agg #[.slice A1 p0.Devices.length c_1, .slice A2 p0.Tables.length c_2, iv p0.Job.Dev, iv p0.Job.At, iv p0.Job.Table.Dev, iv p0.Job.Table.Size, .slice A3 p0.Job.Table.List_.length c_3, iv p0.Next], .agg #[iv p1.Dev, iv p1.At], .bool p2] w fun e w' => ∃ (B1 : Option Addr) (d1 : Nat), e = .returned (.tuple #[.agg #[iv r.1.Ptr_.Dev, iv r.1.Ptr_.At, .slice B1 r.1.Way.length d1], .bool r.2]) ∧ Ext w w' ∧ Ow kPtr 43 w'.heap (okL [(w.heap.size, none, some 43)]) (okL []) B1 d1 r.1.Way := by
 have h1 : Sl kDeviceR w.heap (okL [(0, some w.heap.size, none)]) A1 p0.Devices := hs1.old _ rfl
 have h2 : Sl kTableR w.heap (okL [(0, some w.heap.size, none)]) A2 p0.Tables := hs2.old _ rfl
 have h3 : Sl kEntry w.heap (okL [(0, some w.heap.size, none)]) A3 p0.Job.Table.List_ := hs3.old _ rfl
 have x0 : Ext w w := Upd.refl _ w
 unfold chain_Trace.f at H
 refine calls_start Tryz.func36 rfl 92 rfl [.agg #[.slice A1 p0.Devices.length c_1, .slice A2 p0.Tables.length c_2, iv p0.Job.Dev, iv p0.Job.At, iv p0.Job.Table.Dev, iv p0.Job.Table.Size, .slice A3 p0.Job.Table.List_.length c_3, iv p0.Next], .agg #[iv p1.Dev, iv p1.At], .bool p2] rfl ?_
 refine CW.seq (CW.lex [.X, .X, .X, .W] rfl (RW.box (cs := [.slice A1 p0.Devices.length c_1, .slice A2 p0.Tables.length c_2, iv p0.Job.Dev, iv p0.Job.At, iv p0.Job.Table.Dev, iv p0.Job.Table.Size, .slice A3 p0.Job.Table.List_.length c_3, iv p0.Next]) (.inl rfl) ⟨rfl, rfl, rfl, rfl⟩ rfl rfl rfl ?_))
 intro b1 w1 x1 l1 h4
 have sx1 := x1.size
 have ltb1 := h4.lt
 refine RW.box (cs := [iv p1.Dev, iv p1.At]) (.inl rfl) ⟨rfl, rfl, rfl, rfl⟩ rfl rfl rfl ?_
 intro b2 w2 x2 l2 h5
 have sx2 := x2.size
 have ltb2 := h5.lt
 refine RW.alloc tk (.inl rfl) ⟨rfl, rfl, rfl, rfl⟩ rfl rfl ?_
 intro b3 w3 x3 l3 h6
 have sx3 := x3.size
 have ltb3 := h6.lt
 refine pu 1 rfl (RW.done (NW.next (CW.seq (CW.lex [.L, .W, .X, .M] rfl ?_))))
 have h7 := h5.ext x3
 refine RW.ld tk [iv p1.Dev, iv p1.At] (h7.at 0) ?_
 refine pu 1 rfl (RW.alloc tk (.inl rfl) ⟨rfl, rfl, rfl, rfl⟩ rfl rfl ?_)
 intro b4 w4 x4 l4 h8
 have sx4 := x4.size
 have ltb4 := h8.lt
 refine RW.sb tk h8 [iv p1.Dev, iv p1.At, .slice none 0 0] ?_
 intro w5 x5 h9
 have h10 : Box w5.heap b4 85 [iv p1.Dev, iv p1.At, .slice none 0 0] := h9
 have sx5 := x5.size
 refine RW.done (NW.next (CW.seq (CW.block ?_)))
 refine CW.loop (fun n1 a w6 => Sat 92 [(2, .bool p2), (3, .pointer (some ⟨b1, 0, none⟩)), (6, .pointer (some ⟨b3, 0, none⟩)), (8, .pointer (some ⟨b4, 0, none⟩))] a ∧ w5.heap.size ≤ w6.heap.size ∧ Ext w w6 ∧ Box w6.heap b1 30 [.slice A1 p0.Devices.length c_1, .slice A2 p0.Tables.length c_2, iv p0.Job.Dev, iv p0.Job.At, iv p0.Job.Table.Dev, iv p0.Job.Table.Size, .slice A3 p0.Job.Table.List_.length c_3, iv p0.Next] ∧ Box w6.heap b3 85 [iv 0, iv 0, .slice none 0 0] ∧ Box w6.heap b4 85 [iv p1.Dev, iv p1.At, .slice none 0 0] ∧ chain_Trace.l0 p0 p1 p2 k n1 = some r) k ?_ ?_
 have h11 := ((((x0.tr x1).tr x2).tr x3).tr x4).tB x5
 have h12 := (((h4.ext x2).ext x3).ext x4).tB x5
 have h13 := (h6.ext x4).tB x5
 ·exact fun a ha => ⟨ha.sb, by omega, h11, h12, h13, h10, H⟩
 intro n1 a w6 hI hp
 obtain ⟨hS, hle, x0_0, gb1_0, gb3_0, gb4_0, H⟩ := hI
 cases n1 with
 | zero => cases H
 | succ n1 =>
  rw [chain_Trace.l0] at H
  refine CW.go hp hS ?_
  have xt1 : Ext w6 w6 := Upd.refl _ _
  refine CW.seq (CW.seq (CW.lex [.L, .W, .W, .L, .X, .W] rfl (RW.ld tk [.slice A1 p0.Devices.length c_1, .slice A2 p0.Tables.length c_2, iv p0.Job.Dev, iv p0.Job.At, iv p0.Job.Table.Dev, iv p0.Job.Table.Size, .slice A3 p0.Job.Table.List_.length c_3, iv p0.Next] (gb1_0.at 0) ?_)))
  refine pu 2 rfl (RW.lb tk [iv p1.Dev] gb4_0 0 ?_)
  obtain ⟨y1, h14, H⟩ := bind_some H
  refine RW.cl ent59 (chain_device.calls k p0 A1 c_1 A2 c_2 A3 c_3 p1.Dev _ _ (h1.ext x0_0).all hl1 (h2.ext x0_0).all hl2 (h3.ext x0_0).all hl3 h14) ?_
  rintro _ w7 ⟨rfl, x6⟩
  refine ⟨_, rfl, x6, ?_⟩
  have sx6 := x6.size
  refine pu 1 rfl (RW.done (NW.next ?_))
  by_cases c1 : y1 = true
  ·rw [if_pos c1] at H
   refine CW.cond_f rfl (not_f (c1)) (CW.exit ?_)
   refine NW.exit_then (NW.exit_then (NW.exit_hit ?_))
   refine NW.next (CW.seq (CW.seq (CW.lex [.L, .X, .W] rfl ?_)))
   have h15 := gb1_0.ext x6
   refine RW.ld tk [.slice A1 p0.Devices.length c_1, .slice A2 p0.Tables.length c_2, iv p0.Job.Dev, iv p0.Job.At, iv p0.Job.Table.Dev, iv p0.Job.Table.Size, .slice A3 p0.Job.Table.List_.length c_3, iv p0.Next] (h15.at 0) ?_
   have xc1 : Ext w7 w7 := Upd.refl _ _
   refine RW.callK (.inl rfl) ent62 ⟨rfl, rfl, rfl, rfl⟩ rfl rfl rfl ?_
   refine calls_start Tryz.func62 rfl 41 rfl [.pointer (some ⟨b4, 0, none⟩), .agg #[.slice A1 p0.Devices.length c_1, .slice A2 p0.Tables.length c_2, iv p0.Job.Dev, iv p0.Job.At, iv p0.Job.Table.Dev, iv p0.Job.Table.Size, .slice A3 p0.Job.Table.List_.length c_3, iv p0.Next]] rfl ?_
   refine CW.seq (CW.lex [.X, .W] rfl (RW.box (cs := [.slice A1 p0.Devices.length c_1, .slice A2 p0.Tables.length c_2, iv p0.Job.Dev, iv p0.Job.At, iv p0.Job.Table.Dev, iv p0.Job.Table.Size, .slice A3 p0.Job.Table.List_.length c_3, iv p0.Next]) (.inl rfl) ⟨rfl, rfl, rfl, rfl⟩ rfl rfl rfl ?_))
   intro b5 w8 x7 l5 h16
   have sx7 := x7.size
   have ltb5 := h16.lt
   refine pu 1 rfl (RW.done (NW.next (CW.seq (CW.ord [0, 1, 0, 4, 12, 28, 60, 127, 255, 511, 511, 1023, 4095] (ofL [(0, .W), (2, .W), (3, .W), (4, .W), (5, .W), (1, .L), (6, .L), (7, .X), (8, .W), (9, .W), (10, .W), (11, .W), (12, .W)] .nil) mixed (by kernel_rfl) ?_))))
   intro w9 x8
   have sx8 := x8.size
   refine pu 5 rfl ?_
   have h17 := h16.ext x8
   refine RW.lb tk [.slice A1 p0.Devices.length c_1] h17 0 ?_
   have h18 := ((gb4_0.ext x6).ext x7).ext x8
   refine RW.lb tk [iv p1.Dev] h18 0 ?_
   have h19 := (((h1.ext x0_0).ext x6).ext x7).ext x8
   obtain ⟨y2, h20, H⟩ := bind_some H
   refine RW.cl ent31 (room_Find.calls k A1 c_1 p0.Devices p1.Dev _ _ h19.all hl1 h20) ?_
   rintro _ w10 ⟨rfl, x9⟩
   refine ⟨_, rfl, x9, ?_⟩
   have sx9 := x9.size
   refine pu 5 rfl (RW.done (NW.next (CW.seq (CW.ord [0, 1, 3, 7, 15, 31, 63, 127, 255, 511, 1023, 2047, 4095, 8191, 16383, 1023, 33791, 1023, 230399, 492543, 1016831, 2097151, 4194303, 8388607] (ofL [(0, .W), (1, .W), (2, .W), (3, .W), (4, .W), (5, .W), (6, .L), (7, .W), (8, .W), (9, .W), (10, .W), (11, .W), (12, .W), (13, .W), (15, .W), (17, .W), (14, .L), (16, .L), (18, .W), (19, .W), (20, .L), (21, .W), (22, .W), (23, .W)] .nil) mixed (by kernel_rfl) ?_))))
   intro w11 x10
   have sx10 := x10.size
   refine pu 2 rfl ?_
   by_cases c2 : y2.2 = true
   ·rw [if_pos c2] at H
    refine RW.bool 19 (b' := true) (c2) rfl (pu 4 rfl ?_)
    have h21 := (h18.ext x9).ext x10
    refine RW.lb tk [iv p1.At] h21 1 ?_
    refine pu 3 rfl ?_
    by_cases c3 : 0 ≤ p1.At
    ·rw [if_pos c3] at H
     refine RW.bool 27 (b' := true) (decide_eq_true c3) rfl (pu 6 rfl (RW.lb tk [iv p1.At] h21 1 ?_))
     have h22 := (h17.ext x9).ext x10
     refine RW.lb tk [.slice A1 p0.Devices.length c_1] h22 0 ?_
     obtain ⟨g1, H⟩ := guard_some H
     have h23 := (h19.ext x9).ext x10
     obtain ⟨ad1, A4, c_4, A5, c_5, e1, a1, l6, h24, l7, h25⟩ := kDeviceR_at h23 g1.1 g1.2
     refine RW.ix tk g1 e1 ?_
     refine pu 1 rfl (RW.ld tk [iv ((rd p0.Devices y2.1).Size)] ((a1.fld 1).take 1 rfl) ?_)
     refine pu 3 rfl (RW.done (NW.next (CW.ret ?_)))
     have h26 := (((xc1.tr x7).tr x8).tr x9).tr x10
     refine NW.ret1 rfl (by rfl) ⟨_, rfl, h26, ?_⟩
     refine pu 1 rfl (RW.done (NW.next ?_))
     by_cases c4 : p1.At < ((rd p0.Devices y2.1).Size)
     ·rw [if_pos c4] at H
      refine CW.cond_f rfl (not_f (decide_eq_true c4)) (CW.skip (NW.next (CW.seq ?_)))
      refine CW.seqJ (fun a w12 => ∃ (bt80_1 : Bool), Sat 92 [(3, .pointer (some ⟨b1, 0, none⟩)), (6, .pointer (some ⟨b3, 0, none⟩)), (8, .pointer (some ⟨b4, 0, none⟩)), (80, .bool bt80_1)] a ∧ w11.heap.size ≤ w12.heap.size ∧ Ext w w12 ∧ Ext w6 w12 ∧ chain_Trace.j0 p0 p1 k bt80_1 = some r) ?_ ?_
      ·refine CW.lex [.W, .W, .W, .W, .L, .W, .W, .L, .W, .W, .W, .W, .W, .L, .W, .W, .L, .W, .W] rfl (pu 2 rfl ?_)
       have j1 := ((((x0_0.tr x6).tr x7).tr x8).tr x9).tr x10
       have j2 := ((((xt1.tr x6).tr x7).tr x8).tr x9).tr x10
       by_cases c5 : p2 = true
       ·rw [if_pos c5] at H
        refine RW.bool 63 (b' := true) (c5) rfl (pu 2 rfl (RW.lb tk [iv p1.Dev] h21 0 ?_))
        refine pu 2 rfl ?_
        have h27 := (((h15.ext x7).ext x8).ext x9).ext x10
        refine RW.lb tk [iv p0.Job.Dev] h27 2 ?_
        refine pu 3 rfl ?_
        by_cases c6 : p1.Dev = p0.Job.Dev
        ·rw [if_pos c6] at H
         refine RW.bool 72 (b' := true) (beq_t c6) rfl (pu 2 rfl (RW.lb tk [iv p1.At] h21 1 ?_))
         refine pu 2 rfl (RW.lb tk [iv p0.Job.At] h27 3 ?_)
         refine pu 2 rfl (RW.done ?_)
         exact NW.J fun a ha => ⟨(decide (p1.At < p0.Job.At)), ha.sb, by omega, j1, j2, H⟩
        rw [if_neg c6] at H
        refine RW.bool 72 (b' := false) (beq_f c6) rfl (pu 8 rfl (RW.done ?_))
        exact NW.J fun a ha => ⟨false, ha.sb, by omega, j1, j2, H⟩
       rw [if_neg c5] at H
       refine RW.bool 63 (b' := false) (bool_f c5) rfl (pu 17 rfl (RW.done ?_))
       exact NW.J fun a ha => ⟨false, ha.sb, by omega, j1, j2, H⟩
      intro a w12 hJ hp
      obtain ⟨bt80_1, hS, hle, x0_1, x_xt1_1, H⟩ := hJ
      unfold chain_Trace.j0 at H
      refine CW.go hp hS ?_
      by_cases c7 : bt80_1 = true
      ·rw [if_pos c7] at H
       refine CW.cond_t rfl (c7) (CW.seq (CW.lex [.W, .W, .L, .M, .W, .L, .X, .W, .W] rfl (pu 2 rfl (RW.lb tk [iv p0.Job.Table.Dev, iv p0.Job.Table.Size, .slice A3 p0.Job.Table.List_.length c_3] (gb1_0.ext x_xt1_1) 4 ?_))))
       refine RW.callKM ent61 ⟨rfl, rfl, rfl, rfl⟩ rfl rfl rfl ?_
       refine calls_start Tryz.func61 rfl 35 rfl [.pointer (some ⟨b4, 0, none⟩), .agg #[iv p0.Job.Table.Dev, iv p0.Job.Table.Size, .slice A3 p0.Job.Table.List_.length c_3]] rfl ?_
       refine CW.seq (CW.lex [.X, .W] rfl (RW.box (cs := [iv p0.Job.Table.Dev, iv p0.Job.Table.Size, .slice A3 p0.Job.Table.List_.length c_3]) (.inl rfl) ⟨rfl, rfl, rfl, rfl⟩ rfl rfl rfl ?_))
       intro b6 w13 x11 l8 h34
       have sx11 := x11.size
       have ltb6 := h34.lt
       refine pu 1 rfl (RW.done (NW.next (CW.seq (CW.ord [0, 0, 2, 6, 14, 0, 32, 96, 224, 480, 1022, 2047, 4095, 8191] (ofL [(0, .W), (1, .W), (2, .W), (3, .W), (5, .W), (6, .W), (7, .W), (4, .L), (8, .L), (9, .X), (10, .M), (11, .W), (12, .W), (13, .M)] .nil) mixed (by kernel_rfl) ?_))))
       intro w14 x12
       have sx12 := x12.size
       refine pu 7 rfl ?_
       have h35 := ((gb4_0.ext x_xt1_1).ext x11).ext x12
       refine RW.ld tk [.slice none 0 0] (h35.at 2) ?_
       refine RW.lb tk [iv p1.Dev, iv p1.At] h35 0 ?_
       refine RW.buildSlice (cs := [iv p1.Dev, iv p1.At]) tk (.inl rfl) ⟨rfl, rfl, rfl, rfl⟩ rfl rfl rfl rfl rfl rfl rfl ?_
       intro b7 w15 x13 l9 h36
       have sx13 := x13.size
       have ltb7 := h36.lt
       obtain ⟨g2, H⟩ := guard_some H
       refine RW.append1L (d := kPtr) (v := p1) (l := []) (li := []) (ly := []) (xs := ([] : List Ptr)) tk Ow.nil h36 (kPtr_mk p1) trivial (by simp only [maxLen]; omega) g2 ⟨rfl, rfl, rfl, rfl⟩ rfl rfl rfl rfl rfl rfl rfl ?_
       intro A6 c_6 w16 x14 h37
       have sx14 := x14.size
       have h38 := h37.close.sub (l' := [(w15.heap.size, some w16.heap.size, some 43)]) (li' := []) ⟨(.inl ⟨by omega, by omega, rfl⟩), trivial⟩ trivial
       refine pu 2 rfl ?_
       have h39 := (h35.ext x13).tL x14
       refine RW.sb tk h39 [.slice A6 (([] : List Ptr) ++ [p1]).length c_6] ?_
       intro w17 x15 h40
       have h41 : Box w17.heap b4 85 [iv p1.Dev, iv p1.At, .slice A6 (([] : List Ptr) ++ [p1]).length c_6] := h40
       have sx15 := x15.size
       refine RW.done (NW.next ?_)
       refine CW.seqJ (fun a w18 => ∃ (bt6_2 : Bool) (bk5_2 : Nat) (ibk5_2_0_2 : Int) (ibk5_2_1_2 : Int), Sat 35 [(0, .pointer (some ⟨b4, 0, none⟩)), (5, .pointer (some ⟨bk5_2, 0, none⟩)), (6, .bool bt6_2)] a ∧ w17.heap.size ≤ w18.heap.size ∧ Ow kPtr 43 w18.heap (okL [(w15.heap.size, some w16.heap.size, some 43)]) (okL []) A6 c_6 (([] : List Ptr) ++ [p1]) ∧ Ext w w18 ∧ Box w18.heap b4 85 [iv p1.Dev, iv p1.At, .slice A6 (([] : List Ptr) ++ [p1]).length c_6] ∧ Box w18.heap b1 30 [.slice A1 p0.Devices.length c_1, .slice A2 p0.Tables.length c_2, iv p0.Job.Dev, iv p0.Job.At, iv p0.Job.Table.Dev, iv p0.Job.Table.Size, .slice A3 p0.Job.Table.List_.length c_3, iv p0.Next] ∧ Box w18.heap b3 85 [iv 0, iv 0, .slice none 0 0] ∧ Box w18.heap bk5_2 43 [iv ibk5_2_0_2, iv ibk5_2_1_2] ∧ w17.heap.size ≤ bk5_2 ∧ chain_Trace.j1 p0 p1 k bt6_2 ibk5_2_0_2 ibk5_2_1_2 = some r) ?_ ?_
       ·refine CW.ord [0, 0, 2, 6, 14, 30, 63, 127, 255, 255, 0, 1535, 4095] (ofL [(1, .W), (2, .W), (3, .W), (4, .W), (0, .L), (5, .L)] (.two 6 .X (ofL [(7, .W), (8, .W), (9, .W), (10, .X), (11, .M), (12, .W)] .nil) 10 .X (ofL [(6, .X), (7, .W), (8, .W), (9, .W), (11, .M), (12, .W)] .nil))) mixed (by kernel_rfl) ?_
        intro w19 x16
        have sx16 := x16.size
        refine pu 4 rfl ?_
        have h42 := ((((h34.ext x12).ext x13).tL x14).tB x15).ext x16
        refine RW.ld tk [iv p0.Job.Table.Dev, iv p0.Job.Table.Size, .slice A3 p0.Job.Table.List_.length c_3] (h42.at 0) ?_
        have h43 := h41.ext x16
        refine RW.lb tk [iv p1.At] h43 1 ?_
        refine RW.two ?_ ?_
        ·have h44 := ((((((h3.ext x0_1).ext x11).ext x12).ext x13).turnL x14 ⟨trivial, trivial⟩).turnB x15 h39 ⟨.inr (by omega), trivial⟩).ext x16
         obtain ⟨y3, h45, H⟩ := bind_some H
         refine RW.cl ent89 (table_Find.calls k p0.Job.Table A3 c_3 p1.At _ _ h44.all hl3 h45) ?_
         rintro _ w20 ⟨rfl, x17⟩
         refine ⟨_, rfl, x17, ?_⟩
         have sx17 := x17.size
         refine pu 3 rfl (RW.alloc tk (.inl rfl) ⟨rfl, rfl, rfl, rfl⟩ rfl rfl ?_)
         intro b8 w21 x18 l10 h46
         have sx18 := x18.size
         have ltb8 := h46.lt
         refine RW.sb tk h46 [iv y3.1.Dev, iv y3.1.At] ?_
         intro w22 x19 h47
         have h48 : Box w22.heap b8 43 [iv y3.1.Dev, iv y3.1.At] := h47
         have sx19 := x19.size
         refine pu 1 rfl (RW.done ?_)
         have h49 := ((((h38.tB x15 h39).ext x16).ext x17).ext x18).turnB x19 h46 ⟨.inr (by omega), trivial⟩ trivial
         have h50 := (((((Ext.turn (((x0_1.tr x11).tr x12).tr x13) x14 trivial).tB x15).tr x16).tr x17).tr x18).tB x19
         have h51 := ((h43.ext x17).ext x18).tB x19
         have h52 := (((((((((gb1_0.ext x_xt1_1).ext x11).ext x12).ext x13).tL x14).tB x15).ext x16).ext x17).ext x18).tB x19
         have h53 := (((((((((gb3_0.ext x_xt1_1).ext x11).ext x12).ext x13).tL x14).tB x15).ext x16).ext x17).ext x18).tB x19
         exact NW.J fun a ha => ⟨y3.2, b8, y3.1.Dev, y3.1.At, ha.sb, by omega, h49, h50, h51, h52, h53, h48, by omega, H⟩
        refine RW.alloc tk (.inl rfl) ⟨rfl, rfl, rfl, rfl⟩ rfl rfl ?_
        intro b8 w20 x17 l10 h44
        have sx17 := x17.size
        have ltb8 := h44.lt
        have h45 := (((((((h3.ext x0_1).ext x11).ext x12).ext x13).turnL x14 ⟨trivial, trivial⟩).turnB x15 h39 ⟨.inr (by omega), trivial⟩).ext x16).ext x17
        obtain ⟨y3, h46, H⟩ := bind_some H
        refine RW.cl ent89 (table_Find.calls k p0.Job.Table A3 c_3 p1.At _ _ h45.all hl3 h46) ?_
        rintro _ w21 ⟨rfl, x18⟩
        refine ⟨_, rfl, x18, ?_⟩
        have sx18 := x18.size
        refine pu 3 rfl ?_
        have h47 := h44.ext x18
        refine RW.sb tk h47 [iv y3.1.Dev, iv y3.1.At] ?_
        intro w22 x19 h48
        have h49 : Box w22.heap b8 43 [iv y3.1.Dev, iv y3.1.At] := h48
        have sx19 := x19.size
        refine pu 1 rfl (RW.done ?_)
        have h50 := ((((h38.tB x15 h39).ext x16).ext x17).ext x18).turnB x19 h47 ⟨.inr (by omega), trivial⟩ trivial
        have h51 := (((((Ext.turn (((x0_1.tr x11).tr x12).tr x13) x14 trivial).tB x15).tr x16).tr x17).tr x18).tB x19
        have h52 := ((h43.ext x17).ext x18).tB x19
        have h53 := (((((((((gb1_0.ext x_xt1_1).ext x11).ext x12).ext x13).tL x14).tB x15).ext x16).ext x17).ext x18).tB x19
        have h54 := (((((((((gb3_0.ext x_xt1_1).ext x11).ext x12).ext x13).tL x14).tB x15).ext x16).ext x17).ext x18).tB x19
        exact NW.J fun a ha => ⟨y3.2, b8, y3.1.Dev, y3.1.At, ha.sb, by omega, h50, h51, h52, h53, h54, h49, by omega, H⟩
       intro a w18 hJ hp
       obtain ⟨bt6_2, bk5_2, ibk5_2_0_2, ibk5_2_1_2, hS, hle, gF6_2, x0_2, gb4_2, gb1_2, gb3_2, gbk5_2_2, lobk5_2, H⟩ := hJ
       have ltbk5_2 := gbk5_2_2.lt
       unfold chain_Trace.j1 at H
       refine CW.go hp hS ?_
       have xt2 : Ext w18 w18 := Upd.refl _ _
       refine CW.seq (CW.lex [.W, .L, .W, .W, .M] rfl (pu 1 rfl (RW.ld tk [iv ibk5_2_0_2, iv ibk5_2_1_2] (gbk5_2_2.at 0) ?_)))
       refine pu 2 rfl (RW.sb tk gb4_2 [iv ibk5_2_0_2, iv ibk5_2_1_2] ?_)
       intro w23 x20 h55
       have h56 : Box w23.heap b4 85 [iv ibk5_2_0_2, iv ibk5_2_1_2, .slice A6 (([] : List Ptr) ++ [p1]).length c_6] := h55
       have sx20 := x20.size
       refine RW.done (NW.next (CW.seq (CW.lw 2 rfl (pu 2 rfl ?_))))
       refine RW.done (NW.next (CW.ret ?_))
       refine NW.ret1 rfl (by rfl) ⟨_, rfl, ?_⟩
       refine pu 1 rfl ?_
       by_cases c8 : bt6_2 = true
       ·rw [if_pos c8] at H
        refine RW.bool 85 (b' := true) (c8) rfl ?_
        have h57 := gb1_2.tB x20
        refine RW.ld tk [.slice A1 p0.Devices.length c_1, .slice A2 p0.Tables.length c_2, iv p0.Job.Dev, iv p0.Job.At, iv p0.Job.Table.Dev, iv p0.Job.Table.Size, .slice A3 p0.Job.Table.List_.length c_3, iv p0.Next] (h57.at 0) ?_
        have xc2 : Ext w23 w23 := Upd.refl _ _
        refine RW.callK (.inl rfl) ent62 ⟨rfl, rfl, rfl, rfl⟩ rfl rfl rfl ?_
        refine calls_start Tryz.func62 rfl 41 rfl [.pointer (some ⟨b4, 0, none⟩), .agg #[.slice A1 p0.Devices.length c_1, .slice A2 p0.Tables.length c_2, iv p0.Job.Dev, iv p0.Job.At, iv p0.Job.Table.Dev, iv p0.Job.Table.Size, .slice A3 p0.Job.Table.List_.length c_3, iv p0.Next]] rfl ?_
        refine CW.seq (CW.lex [.X, .W] rfl (RW.box (cs := [.slice A1 p0.Devices.length c_1, .slice A2 p0.Tables.length c_2, iv p0.Job.Dev, iv p0.Job.At, iv p0.Job.Table.Dev, iv p0.Job.Table.Size, .slice A3 p0.Job.Table.List_.length c_3, iv p0.Next]) (.inl rfl) ⟨rfl, rfl, rfl, rfl⟩ rfl rfl rfl ?_))
        intro b9 w24 x21 l11 h58
        have sx21 := x21.size
        have ltb9 := h58.lt
        refine pu 1 rfl (RW.done (NW.next (CW.seq (CW.ord [0, 1, 0, 4, 12, 28, 60, 127, 255, 511, 511, 1023, 4095] (ofL [(0, .W), (2, .W), (3, .W), (4, .W), (5, .W), (1, .L), (6, .L), (7, .X), (8, .W), (9, .W), (10, .W), (11, .W), (12, .W)] .nil) mixed (by kernel_rfl) ?_))))
        intro w25 x22
        have sx22 := x22.size
        refine pu 5 rfl ?_
        have h59 := h58.ext x22
        refine RW.lb tk [.slice A1 p0.Devices.length c_1] h59 0 ?_
        have h60 := (h56.ext x21).ext x22
        refine RW.lb tk [iv ibk5_2_0_2] h60 0 ?_
        have h61 := (((h1.ext x0_2).turnB x20 gb4_2 ⟨.inr (by omega), trivial⟩).ext x21).ext x22
        obtain ⟨y4, h62, H⟩ := bind_some H
        refine RW.cl ent31 (room_Find.calls k A1 c_1 p0.Devices ibk5_2_0_2 _ _ h61.all hl1 h62) ?_
        rintro _ w26 ⟨rfl, x23⟩
        refine ⟨_, rfl, x23, ?_⟩
        have sx23 := x23.size
        refine pu 5 rfl (RW.done (NW.next (CW.seq (CW.ord [0, 1, 3, 7, 15, 31, 63, 127, 255, 511, 1023, 2047, 4095, 8191, 16383, 1023, 33791, 1023, 230399, 492543, 1016831, 2097151, 4194303, 8388607] (ofL [(0, .W), (1, .W), (2, .W), (3, .W), (4, .W), (5, .W), (6, .L), (7, .W), (8, .W), (9, .W), (10, .W), (11, .W), (12, .W), (13, .W), (15, .W), (17, .W), (14, .L), (16, .L), (18, .W), (19, .W), (20, .L), (21, .W), (22, .W), (23, .W)] .nil) mixed (by kernel_rfl) ?_))))
        intro w27 x24
        have sx24 := x24.size
        refine pu 2 rfl ?_
        by_cases c9 : y4.2 = true
        ·rw [if_pos c9] at H
         refine RW.bool 19 (b' := true) (c9) rfl (pu 4 rfl ?_)
         have h63 := (h60.ext x23).ext x24
         refine RW.lb tk [iv ibk5_2_1_2] h63 1 ?_
         refine pu 3 rfl ?_
         by_cases c10 : 0 ≤ ibk5_2_1_2
         ·rw [if_pos c10] at H
          refine RW.bool 27 (b' := true) (decide_eq_true c10) rfl (pu 6 rfl (RW.lb tk [iv ibk5_2_1_2] h63 1 ?_))
          have h64 := (h59.ext x23).ext x24
          refine RW.lb tk [.slice A1 p0.Devices.length c_1] h64 0 ?_
          obtain ⟨g3, H⟩ := guard_some H
          have h65 := (h61.ext x23).ext x24
          obtain ⟨ad2, A7, c_7, A8, c_8, e2, a2, l12, h66, l13, h67⟩ := kDeviceR_at h65 g3.1 g3.2
          refine RW.ix tk g3 e2 ?_
          refine pu 1 rfl (RW.ld tk [iv ((rd p0.Devices y4.1).Size)] ((a2.fld 1).take 1 rfl) ?_)
          refine pu 3 rfl (RW.done (NW.next (CW.ret ?_)))
          have h68 := (((xc2.tr x21).tr x22).tr x23).tr x24
          refine NW.ret1 rfl (by rfl) ⟨_, rfl, h68, ?_⟩
          refine pu 2 rfl (RW.done (NW.next (CW.seq (CW.lex [.L, .W, .M, .W] rfl ?_))))
          refine RW.ld tk [iv ibk5_2_0_2, iv ibk5_2_1_2, .slice A6 (([] : List Ptr) ++ [p1]).length c_6] (h63.at 0) ?_
          refine pu 1 rfl ?_
          have h69 := ((((gb3_2.tB x20).ext x21).ext x22).ext x23).ext x24
          refine RW.sb tk h69 [iv ibk5_2_0_2, iv ibk5_2_1_2, .slice A6 (([] : List Ptr) ++ [p1]).length c_6] ?_
          intro w28 x25 h70
          have h71 : Box w28.heap b3 85 [iv ibk5_2_0_2, iv ibk5_2_1_2, .slice A6 (([] : List Ptr) ++ [p1]).length c_6] := h70
          have sx25 := x25.size
          refine pu 1 rfl (RW.done (NW.next (CW.ret (NW.ret_then ?_))))
          have h72 := (((((gF6_2.tB x20 gb4_2).ext x21).ext x22).ext x23).ext x24).tB x25 h69
          obtain rfl := Option.some.inj H
          have h73 := (((((x0_2.tB x20).tr x21).tr x22).tr x23).tr x24).tB x25
          exact NW.ret2 rfl (resOne_cell tk (h71.at 0) rfl rfl rfl) (by rfl) ⟨A6, c_6, rfl, h73, (h72.sub (l' := [(w.heap.size, none, some 43)]) (li' := []) ⟨(.inl ⟨by omega, trivial, rfl⟩), trivial⟩ trivial)⟩
         rw [if_neg c10] at H
         cases H
        rw [if_neg c9] at H
        cases H
       rw [if_neg c8] at H
       cases H
      rw [if_neg c7] at H
      refine CW.cond_f rfl (bool_f c7) (CW.skip (NW.next (CW.seq (CW.lex [.L, .M, .W] rfl ?_))))
      refine RW.ld tk [iv p1.Dev, iv p1.At, .slice none 0 0] ((gb4_0.ext x_xt1_1).at 0) ?_
      refine RW.sb tk (gb3_0.ext x_xt1_1) [iv p1.Dev, iv p1.At, .slice none 0 0] ?_
      intro w29 x26 h74
      have h75 : Box w29.heap b3 85 [iv p1.Dev, iv p1.At, .slice none 0 0] := h74
      have sx26 := x26.size
      refine pu 1 rfl (RW.done (NW.next (CW.ret ?_)))
      obtain rfl := Option.some.inj H
      have h76 := x0_1.tB x26
      exact NW.ret2 rfl (resOne_cell tk (h75.at 0) rfl rfl rfl) (by rfl) ⟨none, 0, rfl, h76, Ow.nil⟩
     rw [if_neg c4] at H
     cases H
    rw [if_neg c3] at H
    cases H
   rw [if_neg c2] at H
   cases H
  rw [if_neg c1] at H
  cases H
theorem move_Cancel.calls (k : Nat) (p0 : Pool) (A1 : Option Addr) (c_1 : Nat) (A2 : Option Addr) (c_2 : Nat) (A3 : Option Addr) (c_3 : Nat) (A4 : Option Addr) (c_4 : Nat) (p1 : List Ptr) (r : Pool × Int) (w : World) (hs1 : Sl kDeviceR w.heap okAll A1 p0.Devices) (hl1 : p0.Devices.length ≤ c_1) (hs2 : Sl kTableR w.heap okAll A2 p0.Tables) (hl2 : p0.Tables.length ≤ c_2) (hs3 : Sl kEntry w.heap okAll A3 p0.Job.Table.List_) (hl3 : p0.Job.Table.List_.length ≤ c_3) (hs4 : Sl kPtr w.heap okAll A4 p1) (hl4 : p1.length ≤ c_4) {gT : Nat} (hG : Box w.heap 0 gT (arrI .u8 64 tz)) (H : move_Cancel.f k p0 p1 = some r) :
    Calls Tryz.prog 13 #[.agg #[.slice A1 p0.Devices.length c_1, .slice A2 p0.Tables.length c_2, iv p0.Job.Dev, iv p0.Job.At, iv p0.Job.Table.Dev, iv p0.Job.Table.Size, .slice A3 p0.Job.Table.List_.length c_3, iv p0.Next], .slice A4 p1.length c_4] w fun e w' => ∃ (B1 : Option Addr) (d1 : Nat) (B2 : Option Addr) (d2 : Nat) (B3 : Option Addr) (d3 : Nat), e = .returned (.tuple #[.agg #[.slice B1 r.1.Devices.length d1, .slice B2 r.1.Tables.length d2, iv r.1.Job.Dev, iv r.1.Job.At, iv r.1.Job.Table.Dev, iv r.1.Job.Table.Size, .slice B3 r.1.Job.Table.List_.length d3, iv r.1.Next], iv r.2]) ∧ Ext w w' ∧ Ow kDeviceO 40 w'.heap (okL [(w.heap.size, none, some 40)]) (okL [(w.heap.size, none, some 105)]) B1 d1 r.1.Devices ∧ Ow kTableO 26 w'.heap (okL [(w.heap.size, none, some 26)]) (okL [(w.heap.size, none, some 66)]) B2 d2 r.1.Tables ∧ Ow kEntry 66 w'.heap (okL [(w.heap.size, none, some 66)]) (okL []) B3 d3 r.1.Job.Table.List_ := by
 have h1 : Sl kDeviceR w.heap (okL [(0, some w.heap.size, none)]) A1 p0.Devices := hs1.old _ rfl
 have h2 : Sl kTableR w.heap (okL [(0, some w.heap.size, none)]) A2 p0.Tables := hs2.old _ rfl
 have h3 : Sl kEntry w.heap (okL [(0, some w.heap.size, none)]) A3 p0.Job.Table.List_ := hs3.old _ rfl
 have h4 : Sl kPtr w.heap (okL [(0, some w.heap.size, none)]) A4 p1 := hs4.old _ rfl
 have hG0 : 0 < w.heap.size := hG.lt
 have x0 : Ext w w := Upd.refl _ w
 unfold move_Cancel.f at H
 refine calls_start Tryz.func13 rfl 154 rfl [.agg #[.slice A1 p0.Devices.length c_1, .slice A2 p0.Tables.length c_2, iv p0.Job.Dev, iv p0.Job.At, iv p0.Job.Table.Dev, iv p0.Job.Table.Size, .slice A3 p0.Job.Table.List_.length c_3, iv p0.Next], .slice A4 p1.length c_4] rfl ?_
 refine CW.seq (CW.lex [.X, .X, .W] rfl (RW.box (cs := [.slice A1 p0.Devices.length c_1, .slice A2 p0.Tables.length c_2, iv p0.Job.Dev, iv p0.Job.At, iv p0.Job.Table.Dev, iv p0.Job.Table.Size, .slice A3 p0.Job.Table.List_.length c_3, iv p0.Next]) (.inl rfl) ⟨rfl, rfl, rfl, rfl⟩ rfl rfl rfl ?_))
 intro b1 w1 x1 l1 h5
 have sx1 := x1.size
 have ltb1 := h5.lt
 refine RW.alloc tk (.inl rfl) ⟨rfl, rfl, rfl, rfl⟩ rfl rfl ?_
 intro b2 w2 x2 l2 h6
 have sx2 := x2.size
 have ltb2 := h6.lt
 refine pu 1 rfl (RW.done (NW.next (CW.seq (CW.lex [.L, .X, .W, .W, .W, .W, .W] rfl ?_))))
 have h7 := h5.ext x2
 refine RW.ld tk [.slice A1 p0.Devices.length c_1, .slice A2 p0.Tables.length c_2, iv p0.Job.Dev, iv p0.Job.At, iv p0.Job.Table.Dev, iv p0.Job.Table.Size, .slice A3 p0.Job.Table.List_.length c_3, iv p0.Next] (h7.at 0) ?_
 have xc1 : Ext w2 w2 := Upd.refl _ _
 refine RW.callK (.inl rfl) ent30 ⟨rfl, rfl, rfl, rfl⟩ rfl rfl rfl ?_
 refine calls_start Tryz.func30 rfl 11 rfl [.agg #[.slice A1 p0.Devices.length c_1, .slice A2 p0.Tables.length c_2, iv p0.Job.Dev, iv p0.Job.At, iv p0.Job.Table.Dev, iv p0.Job.Table.Size, .slice A3 p0.Job.Table.List_.length c_3, iv p0.Next]] rfl ?_
 refine CW.seq (CW.lex [.X, .W, .W] rfl (RW.box (cs := [.slice A1 p0.Devices.length c_1, .slice A2 p0.Tables.length c_2, iv p0.Job.Dev, iv p0.Job.At, iv p0.Job.Table.Dev, iv p0.Job.Table.Size, .slice A3 p0.Job.Table.List_.length c_3, iv p0.Next]) (.inl rfl) ⟨rfl, rfl, rfl, rfl⟩ rfl rfl rfl ?_))
 intro b3 w3 x3 l3 h8
 have sx3 := x3.size
 have ltb3 := h8.lt
 refine pu 2 rfl (RW.done (NW.next (CW.seq (CW.seq ?_))))
 refine CW.lex [.L, .X, .W] rfl (RW.ld tk [.slice A1 p0.Devices.length c_1, .slice A2 p0.Tables.length c_2, iv p0.Job.Dev, iv p0.Job.At, iv p0.Job.Table.Dev, iv p0.Job.Table.Size, .slice A3 p0.Job.Table.List_.length c_3, iv p0.Next] (h8.at 0) ?_)
 have h9 := ((h1.ext x1).ext x2).ext x3
 have h10 := ((h2.ext x1).ext x2).ext x3
 have h11 := ((h3.ext x1).ext x2).ext x3
 obtain ⟨y1, h12, H⟩ := bind_some H
 refine RW.cl ent53 (chain_May.calls k p0 A1 c_1 A2 c_2 A3 c_3 _ _ h9.all hl1 h10.all hl2 h11.all hl3 h12) ?_
 rintro _ w4 ⟨rfl, x4⟩
 refine ⟨_, rfl, x4, ?_⟩
 have sx4 := x4.size
 refine pu 1 rfl (RW.done (NW.next ?_))
 by_cases c1 : y1 = true
 ·rw [if_pos c1] at H
  refine CW.cond_f rfl (not_f (c1)) (CW.skip (NW.next (CW.seq (CW.lex [.L, .X, .W, .X, .W, .W] rfl ?_))))
  have h13 := h8.ext x4
  refine RW.ld tk [.slice A1 p0.Devices.length c_1, .slice A2 p0.Tables.length c_2, iv p0.Job.Dev, iv p0.Job.At, iv p0.Job.Table.Dev, iv p0.Job.Table.Size, .slice A3 p0.Job.Table.List_.length c_3, iv p0.Next] (h13.at 0) ?_
  have h14 := h9.ext x4
  have h15 := h10.ext x4
  have h16 := h11.ext x4
  obtain ⟨y2, h17, H⟩ := bind_some H
  refine RW.cl ent54 (chain_Own.calls k p0 A1 c_1 A2 c_2 A3 c_3 _ _ h14.all hl1 h15.all hl2 h16.all hl3 h17) ?_
  rintro _ w5 ⟨mid1, A5, c_5, A6, c_6, A7, c_7, rfl, x5, lomid1, himid1, h18, h19, h20⟩
  refine ⟨_, rfl, x5, ?_⟩
  have sx5 := x5.size
  have h21 : Ow kDeviceO 40 w5.heap (okL [(w4.heap.size, some w5.heap.size, some 40)]) (okL [(w4.heap.size, some w5.heap.size, some 105)]) A5 c_5 y2.Devices := h18.close
  have h22 : Ow kTableO 26 w5.heap (okL [(w4.heap.size, some w5.heap.size, some 26)]) (okL [(mid1, some w5.heap.size, some 66)]) A6 c_6 y2.Tables := h19.close
  have h23 : Ow kEntry 66 w5.heap (okL [(w4.heap.size, some mid1, some 66)]) (okL []) A7 c_7 y2.Job.Table.List_ := h20.close
  refine pu 1 rfl (RW.box (cs := [.slice A5 y2.Devices.length c_5, .slice A6 y2.Tables.length c_6, iv y2.Job.Dev, iv y2.Job.At, iv y2.Job.Table.Dev, iv y2.Job.Table.Size, .slice A7 y2.Job.Table.List_.length c_7, iv y2.Next]) (.inl rfl) ⟨rfl, rfl, rfl, rfl⟩ rfl rfl rfl ?_)
  intro b4 w6 x6 l4 h24
  have sx6 := x6.size
  have ltb4 := h24.lt
  refine pu 2 rfl (RW.done (NW.next (CW.ret ?_)))
  have h25 := (((xc1.tr x3).tr x4).tr x5).tr x6
  refine NW.ret2 rfl (by rfl) (by rfl) ⟨_, rfl, h25, ?_⟩
  refine pu 5 rfl (RW.done (NW.next (CW.seq (CW.block ?_))))
  refine CW.seq (CW.lw 3 rfl (pu 3 rfl (RW.done (NW.next ?_))))
  refine CW.cond_f rfl rfl (CW.seq (CW.lex [.W, .W, .W, .W, .W, .L, .W, .W] rfl (pu 5 rfl (RW.lb tk [iv y2.Job.Dev] h24 2 ?_))))
  refine pu 2 rfl (RW.done (NW.next ?_))
  by_cases c2 : y2.Job.Dev = 0
  ·rw [if_pos c2] at H
   cases H
  rw [if_neg c2] at H
  refine CW.cond_f rfl (beq_f c2) (CW.skip ?_)
  refine NW.norm_block (NW.next ?_)
  refine CW.seq (CW.lw 1 rfl (pu 1 rfl (RW.done (NW.next ?_))))
  refine CW.seq (CW.seq (CW.lw 3 rfl (pu 3 rfl (RW.done ?_))))
  refine NW.next (CW.block ?_)
  refine CW.loop (fun n1 a w7 => ∃ (it8_0 : Int) (it39_0 : Int) (lb4_0_0 : List Device) (Ab4_0_0 : Option Addr) (cb4_0_0 : Nat), Sat 154 [(4, .pointer (some ⟨b2, 0, none⟩)), (6, .pointer (some ⟨b4, 0, none⟩)), (8, .int .u64 it8_0), (37, .slice A4 p1.length c_4), (38, iv (p1.length : Int)), (39, iv it39_0)] a ∧ w6.heap.size ≤ w7.heap.size ∧ Ow kDeviceO 40 w7.heap (okL [(w4.heap.size, none, some 40)]) (okL [(w4.heap.size, none, some 105)]) Ab4_0_0 cb4_0_0 lb4_0_0 ∧ Ow kTableO 26 w7.heap (okL [(w4.heap.size, some w5.heap.size, some 26)]) (okL [(mid1, some w5.heap.size, some 66)]) A6 c_6 y2.Tables ∧ Ow kEntry 66 w7.heap (okL [(w4.heap.size, some mid1, some 66)]) (okL []) A7 c_7 y2.Job.Table.List_ ∧ Ext w w7 ∧ Box w7.heap b2 30 [.slice none 0 0, .slice none 0 0, iv 0, iv 0, iv 0, iv 0, .slice none 0 0, iv 0] ∧ Box w7.heap b4 78 [.slice Ab4_0_0 lb4_0_0.length cb4_0_0, .slice A6 y2.Tables.length c_6, iv y2.Job.Dev, iv y2.Job.At, iv y2.Job.Table.Dev, iv y2.Job.Table.Size, .slice A7 y2.Job.Table.List_.length c_7, iv y2.Next] ∧ move_Cancel.l0 p1 k y2 n1 it8_0 it39_0 lb4_0_0 = some r) k ?_ ?_
  have h26 := h21.ext x6
  have h27 := h22.ext x6
  have h28 := h23.ext x6
  have h29 := (((((x0.tr x1).tr x2).tr x3).tr x4).tr x5).tr x6
  have h30 := (((h6.ext x3).ext x4).ext x5).ext x6
  ·exact fun a ha => ⟨0, 0, y2.Devices, A5, c_5, ha.sb, by omega, (h26.sb), h27, h28, h29, h30, h24, H⟩
  intro n1 a w7 hI hp
  obtain ⟨it8_0, it39_0, lb4_0_0, Ab4_0_0, cb4_0_0, hS, hle, fb4_0_0, gF6_0, gF7_0, x0_0, gb2_0, gb4_0, H⟩ := hI
  cases n1 with
  | zero => cases H
  | succ n1 =>
   rw [move_Cancel.l0] at H
   refine CW.go hp hS ?_
   have h31 : Ow kDeviceO 40 w7.heap (okL [(w4.heap.size, some w7.heap.size, some 40)]) (okL [(w4.heap.size, some w7.heap.size, some 105)]) Ab4_0_0 cb4_0_0 lb4_0_0 := fb4_0_0.close
   have xt1 : Ext w7 w7 := Upd.refl _ _
   refine CW.seq (CW.lw 1 rfl (pu 1 rfl (RW.done (NW.next ?_))))
   refine CW.seq ?_
   by_cases c3 : it39_0 < (p1.length : Int)
   ·rw [if_pos c3] at H
    refine CW.cond_t rfl (decide_eq_true c3) (CW.skip (NW.next ?_))
    refine CW.seqJ (fun a w8 => ∃ (it8_1 : Int) (lb4_0_1 : List Device) (Ab4_0_1 : Option Addr) (cb4_0_1 : Nat), Sat 154 [(4, .pointer (some ⟨b2, 0, none⟩)), (6, .pointer (some ⟨b4, 0, none⟩)), (8, .int .u64 it8_1), (37, .slice A4 p1.length c_4), (38, iv (p1.length : Int)), (39, iv it39_0)] a ∧ w7.heap.size ≤ w8.heap.size ∧ Ow kDeviceO 40 w8.heap (okL [(w4.heap.size, some w7.heap.size, some 40)]) (okL [(w4.heap.size, none, some 105)]) Ab4_0_1 cb4_0_1 lb4_0_1 ∧ Ow kTableO 26 w8.heap (okL [(w4.heap.size, some w5.heap.size, some 26)]) (okL [(mid1, some w5.heap.size, some 66)]) A6 c_6 y2.Tables ∧ Ow kEntry 66 w8.heap (okL [(w4.heap.size, some mid1, some 66)]) (okL []) A7 c_7 y2.Job.Table.List_ ∧ Ext w w8 ∧ Box w8.heap b2 30 [.slice none 0 0, .slice none 0 0, iv 0, iv 0, iv 0, iv 0, .slice none 0 0, iv 0] ∧ Box w8.heap b4 78 [.slice Ab4_0_1 lb4_0_1.length cb4_0_1, .slice A6 y2.Tables.length c_6, iv y2.Job.Dev, iv y2.Job.At, iv y2.Job.Table.Dev, iv y2.Job.Table.Size, .slice A7 y2.Job.Table.List_.length c_7, iv y2.Next] ∧ move_Cancel.j0 it39_0 (move_Cancel.l0 p1 k y2 n1) it8_1 lb4_0_1 = some r) ?_ ?_
    ·refine CW.block (CW.seq (CW.lex [.W, .L, .X, .M] rfl ?_))
     obtain ⟨g1, H⟩ := guard_some H
     obtain ⟨ad1, e1, a1⟩ := kPtr_at (h4.ext x0_0) g1.1 g1.2
     refine RW.ix tk g1 e1 ?_
     refine RW.ld tk [iv ((rd p1 it39_0).Dev), iv ((rd p1 it39_0).At)] a1 ?_
     refine RW.alloc tk (.inl rfl) ⟨rfl, rfl, rfl, rfl⟩ rfl rfl ?_
     intro b5 w9 x7 l5 h32
     have sx7 := x7.size
     have ltb5 := h32.lt
     refine RW.sb tk h32 [iv ((rd p1 it39_0).Dev), iv ((rd p1 it39_0).At)] ?_
     intro w10 x8 h33
     have h34 : Box w10.heap b5 43 [iv ((rd p1 it39_0).Dev), iv ((rd p1 it39_0).At)] := h33
     have sx8 := x8.size
     refine RW.done (NW.next ?_)
     refine CW.seqJ (fun a w11 => ∃ (bt12_2 : Bool) (bk11_2 : Nat) (ibk11_2_0_2 : Int) (ibk11_2_1_2 : Int) (lbk11_2_2_2 : List Ptr) (Abk11_2_2_2 : Option Addr) (cbk11_2_2_2 : Nat), Sat 154 [(4, .pointer (some ⟨b2, 0, none⟩)), (6, .pointer (some ⟨b4, 0, none⟩)), (8, .int .u64 it8_0), (10, .pointer (some ⟨b5, 0, none⟩)), (11, .pointer (some ⟨bk11_2, 0, none⟩)), (12, .bool bt12_2), (37, .slice A4 p1.length c_4), (38, iv (p1.length : Int)), (39, iv it39_0)] a ∧ w10.heap.size ≤ w11.heap.size ∧ Ow kPtr 43 w11.heap (okL [(w10.heap.size, none, some 43)]) (okL []) Abk11_2_2_2 cbk11_2_2_2 lbk11_2_2_2 ∧ Ext w w11 ∧ Ext w7 w11 ∧ Box w11.heap b5 43 [iv ((rd p1 it39_0).Dev), iv ((rd p1 it39_0).At)] ∧ Box w11.heap bk11_2 85 [iv ibk11_2_0_2, iv ibk11_2_1_2, .slice Abk11_2_2_2 lbk11_2_2_2.length cbk11_2_2_2] ∧ w10.heap.size ≤ bk11_2 ∧ move_Cancel.j1 p1 k y2 it8_0 it39_0 lb4_0_0 (move_Cancel.l0 p1 k y2 n1) bt12_2 ibk11_2_0_2 ibk11_2_1_2 lbk11_2_2_2 = some r) ?_ ?_
     ·refine CW.ord [0, 1, 3, 7, 0, 31, 63, 127, 127, 0, 767, 2047] (ofL [(0, .W), (1, .W), (2, .W), (3, .L), (4, .L)] (.two 5 .X (ofL [(6, .W), (7, .W), (8, .W), (9, .X), (10, .M), (11, .W)] .nil) 9 .X (ofL [(5, .X), (6, .W), (7, .W), (8, .W), (10, .M), (11, .W)] .nil))) mixed (by kernel_rfl) ?_
      intro w12 x9
      have sx9 := x9.size
      refine pu 3 rfl ?_
      have h35 := ((gb4_0.ext x7).tB x8).ext x9
      refine RW.ld tk [.slice Ab4_0_0 lb4_0_0.length cb4_0_0, .slice A6 y2.Tables.length c_6, iv y2.Job.Dev, iv y2.Job.At, iv y2.Job.Table.Dev, iv y2.Job.Table.Size, .slice A7 y2.Job.Table.List_.length c_7, iv y2.Next] (h35.at 0) ?_
      have h36 := h34.ext x9
      refine RW.ld tk [iv ((rd p1 it39_0).Dev), iv ((rd p1 it39_0).At)] (h36.at 0) ?_
      refine RW.two ?_ ?_
      ·have h37 := ((h31.ext x7).tB x8 h32).ext x9
       have h38 := ((gF6_0.ext x7).tB x8 h32).ext x9
       have h39 := ((gF7_0.ext x7).tB x8 h32).ext x9
       obtain ⟨y3, h40, H⟩ := bind_some H
       refine RW.cl ent36 (chain_Trace.calls k (⟨lb4_0_0, y2.Tables, y2.Job, y2.Next⟩ : Pool) Ab4_0_0 cb4_0_0 A6 c_6 A7 c_7 (rd p1 it39_0) true _ _ (h37.all.to kDevice_ro rfl) h37.len (h38.all.to kTable_ro rfl) h38.len h39.all h39.len h40) ?_
       rintro _ w13 ⟨A8, c_8, rfl, x10, h41⟩
       refine ⟨_, rfl, x10, ?_⟩
       have sx10 := x10.size
       have h42 : Ow kPtr 43 w13.heap (okL [(w12.heap.size, some w13.heap.size, some 43)]) (okL []) A8 c_8 y3.1.Way := h41.close
       refine pu 3 rfl (RW.alloc tk (.inl rfl) ⟨rfl, rfl, rfl, rfl⟩ rfl rfl ?_)
       intro b6 w14 x11 l6 h43
       have sx11 := x11.size
       have ltb6 := h43.lt
       refine RW.sb tk h43 [iv y3.1.Ptr_.Dev, iv y3.1.Ptr_.At, .slice A8 y3.1.Way.length c_8] ?_
       intro w15 x12 h44
       have h45 : Box w15.heap b6 85 [iv y3.1.Ptr_.Dev, iv y3.1.Ptr_.At, .slice A8 y3.1.Way.length c_8] := h44
       have sx12 := x12.size
       refine pu 1 rfl (RW.done ?_)
       have h46 := (h42.ext x11).tB x12 h43
       have h47 := (((((x0_0.tr x7).tB x8).tr x9).tr x10).tr x11).tB x12
       have h48 := (((((xt1.tr x7).tB x8).tr x9).tr x10).tr x11).tB x12
       have h49 := ((h36.ext x10).ext x11).tB x12
       exact NW.J fun a ha => ⟨y3.2, b6, y3.1.Ptr_.Dev, y3.1.Ptr_.At, y3.1.Way, A8, c_8, ha.sb, by omega, (h46.sb), h47, h48, h49, h45, by omega, H⟩
      refine RW.alloc tk (.inl rfl) ⟨rfl, rfl, rfl, rfl⟩ rfl rfl ?_
      intro b6 w13 x10 l6 h37
      have sx10 := x10.size
      have ltb6 := h37.lt
      have h38 := (((h31.ext x7).tB x8 h32).ext x9).ext x10
      have h39 := (((gF6_0.ext x7).tB x8 h32).ext x9).ext x10
      have h40 := (((gF7_0.ext x7).tB x8 h32).ext x9).ext x10
      obtain ⟨y3, h41, H⟩ := bind_some H
      refine RW.cl ent36 (chain_Trace.calls k (⟨lb4_0_0, y2.Tables, y2.Job, y2.Next⟩ : Pool) Ab4_0_0 cb4_0_0 A6 c_6 A7 c_7 (rd p1 it39_0) true _ _ (h38.all.to kDevice_ro rfl) h38.len (h39.all.to kTable_ro rfl) h39.len h40.all h40.len h41) ?_
      rintro _ w14 ⟨A8, c_8, rfl, x11, h42⟩
      refine ⟨_, rfl, x11, ?_⟩
      have sx11 := x11.size
      have h43 : Ow kPtr 43 w14.heap (okL [(w13.heap.size, some w14.heap.size, some 43)]) (okL []) A8 c_8 y3.1.Way := h42.close
      refine pu 3 rfl ?_
      have h44 := h37.ext x11
      refine RW.sb tk h44 [iv y3.1.Ptr_.Dev, iv y3.1.Ptr_.At, .slice A8 y3.1.Way.length c_8] ?_
      intro w15 x12 h45
      have h46 : Box w15.heap b6 85 [iv y3.1.Ptr_.Dev, iv y3.1.Ptr_.At, .slice A8 y3.1.Way.length c_8] := h45
      have sx12 := x12.size
      refine pu 1 rfl (RW.done ?_)
      have h47 := h43.tB x12 h44
      have h48 := (((((x0_0.tr x7).tB x8).tr x9).tr x10).tr x11).tB x12
      have h49 := (((((xt1.tr x7).tB x8).tr x9).tr x10).tr x11).tB x12
      have h50 := ((h36.ext x10).ext x11).tB x12
      exact NW.J fun a ha => ⟨y3.2, b6, y3.1.Ptr_.Dev, y3.1.Ptr_.At, y3.1.Way, A8, c_8, ha.sb, by omega, (h47.sb), h48, h49, h50, h46, by omega, H⟩
     intro a w11 hJ hp
     obtain ⟨bt12_2, bk11_2, ibk11_2_0_2, ibk11_2_1_2, lbk11_2_2_2, Abk11_2_2_2, cbk11_2_2_2, hS, hle, fbk11_2_2_2, x0_2, x_xt1_2, gb5_2, gbk11_2_2, lobk11_2, H⟩ := hJ
     have ltbk11_2 := gbk11_2_2.lt
     unfold move_Cancel.j1 at H
     refine CW.go hp hS ?_
     have h51 : Ow kPtr 43 w11.heap (okL [(w10.heap.size, some w11.heap.size, some 43)]) (okL []) Abk11_2_2_2 cbk11_2_2_2 lbk11_2_2_2 := fbk11_2_2_2.close
     have xt2 : Ext w11 w11 := Upd.refl _ _
     refine CW.seq (CW.seq (CW.lw 2 rfl (pu 2 rfl (RW.done ?_))))
     refine NW.next ?_
     by_cases c4 : bt12_2 = true
     ·rw [if_pos c4] at H
      refine CW.cond_f rfl (not_f (c4)) (CW.skip (NW.next ?_))
      refine CW.seqJ (fun a w16 => ∃ (bk13_3 : Nat) (ibk13_3_0_3 : Int) (ibk13_3_1_3 : Int) (lbk13_3_2_3 : List Ptr) (Abk13_3_2_3 : Option Addr) (cbk13_3_2_3 : Nat), Sat 154 [(4, .pointer (some ⟨b2, 0, none⟩)), (6, .pointer (some ⟨b4, 0, none⟩)), (8, .int .u64 it8_0), (11, .pointer (some ⟨bk11_2, 0, none⟩)), (13, .pointer (some ⟨bk13_3, 0, none⟩)), (37, .slice A4 p1.length c_4), (38, iv (p1.length : Int)), (39, iv it39_0)] a ∧ w11.heap.size ≤ w16.heap.size ∧ Ow kPtr 43 w16.heap (okL [(w11.heap.size, none, some 43)]) (okL []) Abk13_3_2_3 cbk13_3_2_3 lbk13_3_2_3 ∧ Ext w w16 ∧ Ext w7 w16 ∧ Ext w11 w16 ∧ Box w16.heap bk13_3 85 [iv ibk13_3_0_3, iv ibk13_3_1_3, .slice Abk13_3_2_3 lbk13_3_2_3.length cbk13_3_2_3] ∧ w11.heap.size ≤ bk13_3 ∧ move_Cancel.j2 k y2 it8_0 it39_0 lb4_0_0 ibk11_2_0_2 ibk11_2_1_2 (move_Cancel.l0 p1 k y2 n1) ibk13_3_0_3 ibk13_3_1_3 lbk13_3_2_3 = some r) ?_ ?_
      ·refine CW.ord [0, 1, 3, 7, 0, 31, 63, 127, 127, 0, 767, 2047] (ofL [(0, .W), (1, .W), (2, .W), (3, .L), (4, .L)] (.two 5 .X (ofL [(6, .W), (7, .W), (8, .W), (9, .X), (10, .M), (11, .W)] .nil) 9 .X (ofL [(5, .X), (6, .W), (7, .W), (8, .W), (10, .M), (11, .W)] .nil))) mixed (by kernel_rfl) ?_
       intro w17 x13
       have sx13 := x13.size
       refine pu 3 rfl ?_
       have h52 := (gb4_0.ext x_xt1_2).ext x13
       refine RW.ld tk [.slice Ab4_0_0 lb4_0_0.length cb4_0_0, .slice A6 y2.Tables.length c_6, iv y2.Job.Dev, iv y2.Job.At, iv y2.Job.Table.Dev, iv y2.Job.Table.Size, .slice A7 y2.Job.Table.List_.length c_7, iv y2.Next] (h52.at 0) ?_
       have h53 := gb5_2.ext x13
       refine RW.ld tk [iv ((rd p1 it39_0).Dev), iv ((rd p1 it39_0).At)] (h53.at 0) ?_
       refine RW.two ?_ ?_
       ·have h54 := (h31.ext x_xt1_2).ext x13
        have h55 := (gF6_0.ext x_xt1_2).ext x13
        have h56 := (gF7_0.ext x_xt1_2).ext x13
        obtain ⟨y4, h57, H⟩ := bind_some H
        refine RW.cl ent36 (chain_Trace.calls k (⟨lb4_0_0, y2.Tables, y2.Job, y2.Next⟩ : Pool) Ab4_0_0 cb4_0_0 A6 c_6 A7 c_7 (rd p1 it39_0) false _ _ (h54.all.to kDevice_ro rfl) h54.len (h55.all.to kTable_ro rfl) h55.len h56.all h56.len h57) ?_
        rintro _ w18 ⟨A9, c_9, rfl, x14, h58⟩
        refine ⟨_, rfl, x14, ?_⟩
        have sx14 := x14.size
        have h59 : Ow kPtr 43 w18.heap (okL [(w17.heap.size, some w18.heap.size, some 43)]) (okL []) A9 c_9 y4.1.Way := h58.close
        refine pu 3 rfl (RW.alloc tk (.inl rfl) ⟨rfl, rfl, rfl, rfl⟩ rfl rfl ?_)
        intro b7 w19 x15 l7 h60
        have sx15 := x15.size
        have ltb7 := h60.lt
        refine RW.sb tk h60 [iv y4.1.Ptr_.Dev, iv y4.1.Ptr_.At, .slice A9 y4.1.Way.length c_9] ?_
        intro w20 x16 h61
        have h62 : Box w20.heap b7 85 [iv y4.1.Ptr_.Dev, iv y4.1.Ptr_.At, .slice A9 y4.1.Way.length c_9] := h61
        have sx16 := x16.size
        refine pu 1 rfl (RW.done ?_)
        have h63 := (h59.ext x15).tB x16 h60
        have h64 := (((x0_2.tr x13).tr x14).tr x15).tB x16
        have h65 := (((x_xt1_2.tr x13).tr x14).tr x15).tB x16
        have h66 := (((xt2.tr x13).tr x14).tr x15).tB x16
        exact NW.J fun a ha => ⟨b7, y4.1.Ptr_.Dev, y4.1.Ptr_.At, y4.1.Way, A9, c_9, ha.sb, by omega, (h63.sb), h64, h65, h66, h62, by omega, H⟩
       refine RW.alloc tk (.inl rfl) ⟨rfl, rfl, rfl, rfl⟩ rfl rfl ?_
       intro b7 w18 x14 l7 h54
       have sx14 := x14.size
       have ltb7 := h54.lt
       have h55 := ((h31.ext x_xt1_2).ext x13).ext x14
       have h56 := ((gF6_0.ext x_xt1_2).ext x13).ext x14
       have h57 := ((gF7_0.ext x_xt1_2).ext x13).ext x14
       obtain ⟨y4, h58, H⟩ := bind_some H
       refine RW.cl ent36 (chain_Trace.calls k (⟨lb4_0_0, y2.Tables, y2.Job, y2.Next⟩ : Pool) Ab4_0_0 cb4_0_0 A6 c_6 A7 c_7 (rd p1 it39_0) false _ _ (h55.all.to kDevice_ro rfl) h55.len (h56.all.to kTable_ro rfl) h56.len h57.all h57.len h58) ?_
       rintro _ w19 ⟨A9, c_9, rfl, x15, h59⟩
       refine ⟨_, rfl, x15, ?_⟩
       have sx15 := x15.size
       have h60 : Ow kPtr 43 w19.heap (okL [(w18.heap.size, some w19.heap.size, some 43)]) (okL []) A9 c_9 y4.1.Way := h59.close
       refine pu 3 rfl ?_
       have h61 := h54.ext x15
       refine RW.sb tk h61 [iv y4.1.Ptr_.Dev, iv y4.1.Ptr_.At, .slice A9 y4.1.Way.length c_9] ?_
       intro w20 x16 h62
       have h63 : Box w20.heap b7 85 [iv y4.1.Ptr_.Dev, iv y4.1.Ptr_.At, .slice A9 y4.1.Way.length c_9] := h62
       have sx16 := x16.size
       refine pu 1 rfl (RW.done ?_)
       have h64 := h60.tB x16 h61
       have h65 := (((x0_2.tr x13).tr x14).tr x15).tB x16
       have h66 := (((x_xt1_2.tr x13).tr x14).tr x15).tB x16
       have h67 := (((xt2.tr x13).tr x14).tr x15).tB x16
       exact NW.J fun a ha => ⟨b7, y4.1.Ptr_.Dev, y4.1.Ptr_.At, y4.1.Way, A9, c_9, ha.sb, by omega, (h64.sb), h65, h66, h67, h63, by omega, H⟩
      intro a w16 hJ hp
      obtain ⟨bk13_3, ibk13_3_0_3, ibk13_3_1_3, lbk13_3_2_3, Abk13_3_2_3, cbk13_3_2_3, hS, hle, fbk13_3_2_3, x0_3, x_xt1_3, x_xt2_3, gbk13_3_3, lobk13_3, H⟩ := hJ
      have ltbk13_3 := gbk13_3_3.lt
      unfold move_Cancel.j2 at H
      refine CW.go hp hS ?_
      have h68 : Ow kPtr 43 w16.heap (okL [(w11.heap.size, some w16.heap.size, some 43)]) (okL []) Abk13_3_2_3 cbk13_3_2_3 lbk13_3_2_3 := fbk13_3_2_3.close
      have xt3 : Ext w16 w16 := Upd.refl _ _
      refine CW.seq (CW.seq (CW.ord [0, 1, 3, 0, 8, 24, 56, 120, 248, 511] (ofL [(0, .W), (1, .W), (3, .W), (4, .W), (5, .W), (6, .W), (7, .W), (2, .L), (8, .L), (9, .W)] .nil) mixed (by kernel_rfl) ?_))
      intro w21 x17
      have sx17 := x17.size
      refine pu 7 rfl ?_
      have h69 := gbk13_3_3.ext x17
      refine RW.lb tk [iv ibk13_3_0_3] h69 0 ?_
      have h70 := (gb4_0.ext x_xt1_3).ext x17
      refine RW.lb tk [iv y2.Job.Dev] h70 2 ?_
      refine pu 1 rfl (RW.done (NW.next ?_))
      have j1 := (h31.ext x_xt1_3).ext x17
      have j2 := (gF6_0.ext x_xt1_3).ext x17
      have j3 := (gF7_0.ext x_xt1_3).ext x17
      have j4 := x0_3.tr x17
      have j5 := (gb2_0.ext x_xt1_3).ext x17
      by_cases c5 : ibk13_3_0_3 = y2.Job.Dev
      ·rw [if_pos c5] at H
       refine CW.cond_f rfl (bne_f c5) (CW.skip (NW.next (CW.seq (CW.lex [.W, .W, .W, .L, .X, .W, .W] rfl ?_))))
       refine pu 3 rfl (RW.lb tk [iv ibk13_3_1_3] h69 1 ?_)
       obtain ⟨y5, h71, H⟩ := bind_some H
       refine RW.cl ent37 (seg_One.calls ibk13_3_1_3 _ _ h71) ?_
       rintro _ w22 ⟨rfl, x18⟩
       refine ⟨_, rfl, x18, ?_⟩
       have sx18 := x18.size
       refine pu 2 rfl (RW.done (NW.next (CW.seq (CW.seq ?_))))
       refine CW.ord [0, 1, 3, 0, 8, 24, 56, 120, 248, 511] (ofL [(0, .W), (1, .W), (3, .W), (4, .W), (5, .W), (6, .W), (7, .W), (2, .L), (8, .L), (9, .W)] .nil) mixed (by kernel_rfl) ?_
       intro w23 x19
       have sx19 := x19.size
       refine pu 7 rfl ?_
       have h72 := (h69.ext x18).ext x19
       refine RW.lb tk [iv ibk13_3_1_3] h72 1 ?_
       have h73 := (h70.ext x18).ext x19
       refine RW.lb tk [iv y2.Job.At] h73 3 ?_
       refine pu 1 rfl (RW.done (NW.next ?_))
       have j6 := (j1.ext x18).ext x19
       have j7 := (j2.ext x18).ext x19
       have j8 := (j3.ext x18).ext x19
       have j9 := (j5.ext x18).ext x19
       by_cases c6 : y2.Job.At ≤ ibk13_3_1_3
       ·rw [if_pos c6] at H
        refine CW.cond_t rfl (decide_eq_true c6) (CW.exit ?_)
        refine NW.exit_then (NW.exit_hit ?_)
        have h77 := (j4.tr x18).tr x19
        exact NW.J fun a ha => ⟨(uor it8_0 y5), lb4_0_0, Ab4_0_0, cb4_0_0, ha.sb, by omega, (j6.sb), j7, j8, h77, j9, h73, H⟩
       rw [if_neg c6] at H
       refine CW.cond_f rfl (decide_eq_false c6) (CW.skip (NW.next (CW.seq (CW.ord [0, 1, 3, 7, 15, 0, 32, 127, 255] (ofL [(0, .W), (1, .W), (2, .W), (3, .W), (5, .W), (4, .L), (6, .L), (7, .M), (8, .W)] .nil) mixed (by kernel_rfl) ?_))))
       intro w24 x20
       have sx20 := x20.size
       refine pu 5 rfl ?_
       have h79 := h73.ext x20
       refine RW.lb tk [.slice Ab4_0_0 lb4_0_0.length cb4_0_0] h79 0 ?_
       have h80 := ((((gbk11_2_2.ext x_xt2_3).ext x17).ext x18).ext x19).ext x20
       refine RW.lb tk [iv ibk11_2_0_2, iv ibk11_2_1_2] h80 0 ?_
       refine RW.callKM ent38 ⟨rfl, rfl, rfl, rfl⟩ rfl rfl rfl ?_
       refine calls_start Tryz.func38 rfl 56 rfl [.slice Ab4_0_0 lb4_0_0.length cb4_0_0, .agg #[iv ibk11_2_0_2, iv ibk11_2_1_2]] rfl ?_
       refine CW.seq (CW.lex [.X, .W] rfl (RW.box (cs := [iv ibk11_2_0_2, iv ibk11_2_1_2]) (.inl rfl) ⟨rfl, rfl, rfl, rfl⟩ rfl rfl rfl ?_))
       intro b8 w25 x21 l8 h81
       have sx21 := x21.size
       have ltb8 := h81.lt
       refine pu 1 rfl (RW.done (NW.next (CW.seq (CW.lex [.W, .W, .L, .X, .W, .W, .W, .W, .W] rfl ?_))))
       refine pu 2 rfl (RW.lb tk [iv ibk11_2_0_2] h81 0 ?_)
       have h82 := (j6.ext x20).ext x21
       obtain ⟨y6, h83, H⟩ := bind_some H
       refine RW.cl ent31 (room_Find.calls k Ab4_0_0 cb4_0_0 lb4_0_0 ibk11_2_0_2 _ _ (h82.all.to kDevice_ro rfl) h82.len h83) ?_
       rintro _ w26 ⟨rfl, x22⟩
       refine ⟨_, rfl, x22, ?_⟩
       have sx22 := x22.size
       refine pu 5 rfl (RW.done (NW.next (CW.seq (CW.block ?_))))
       refine CW.seq (CW.lw 3 rfl (pu 3 rfl (RW.done (NW.next ?_))))
       by_cases c7 : y6.2 = true
       ·rw [if_pos c7] at H
        refine CW.cond_f rfl (not_f (c7)) (CW.seq (CW.ord [0, 1, 3, 7, 15, 31, 15, 15, 207, 463, 975, 2047, 4095, 8191] (ofL [(0, .W), (1, .L), (2, .W), (3, .W), (4, .W), (6, .W), (7, .W), (8, .W), (9, .W), (5, .L), (10, .L), (11, .W), (12, .W), (13, .W)] .nil) mixed (by kernel_rfl) ?_))
        intro w27 x23
        have sx23 := x23.size
        refine pu 1 rfl ?_
        have h84 := (h81.ext x22).ext x23
        refine RW.ld tk [iv ibk11_2_1_2] (h84.at 1) ?_
        refine pu 2 rfl ?_
        by_cases c8 : ibk11_2_1_2 < 0
        ·rw [if_pos c8] at H
         cases H
        rw [if_neg c8] at H
        refine RW.bool 21 (b' := false) (decide_eq_false c8) rfl (pu 3 rfl ?_)
        obtain ⟨g2, H⟩ := guard_some H
        have h85 := (h82.ext x22).ext x23
        obtain ⟨ad2, A10, c_10, A11, c_11, e2, a2, h86, h87⟩ := kDeviceO_ato h85 g2.1 g2.2
        refine RW.ix tk g2 e2 ?_
        refine pu 1 rfl (RW.ld tk [iv ibk11_2_1_2] (h84.at 1) ?_)
        refine RW.ld tk [iv ((rd lb4_0_0 y6.1).Size)] ((a2.fld 1).take 1 rfl) ?_
        refine pu 3 rfl (RW.done (NW.next ?_))
        by_cases c9 : ((rd lb4_0_0 y6.1).Size) ≤ ibk11_2_1_2
        ·rw [if_pos c9] at H
         cases H
        rw [if_neg c9] at H
        refine CW.cond_f rfl (decide_eq_false c9) (CW.seq (CW.ord [0, 0, 3, 7, 15, 0, 32, 127, 255, 511] (ofL [(0, .W), (1, .W), (2, .W), (5, .W), (3, .L), (6, .L), (4, .X), (7, .X), (8, .W), (9, .W)] .nil) mixed (by kernel_rfl) ?_))
        intro w28 x24
        have sx24 := x24.size
        refine pu 2 rfl ?_
        obtain ⟨g3, H⟩ := guard_some H
        have h88 := h85.ext x24
        obtain ⟨ad3, A12, c_12, A13, c_13, e3, a3, h89, h90⟩ := kDeviceO_ato h88 g3.1 g3.2
        refine RW.ix tk g3 e3 ?_
        refine pu 1 rfl (RW.ld tk [iv ((rd lb4_0_0 y6.1).ID), iv ((rd lb4_0_0 y6.1).Size), .slice A12 ((rd lb4_0_0 y6.1).Free).length c_12, .slice A13 ((rd lb4_0_0 y6.1).Late).length c_13] a3 ?_)
        have h91 := h84.ext x24
        refine RW.ld tk [iv ibk11_2_1_2] (h91.at 1) ?_
        obtain ⟨y7, h92, H⟩ := bind_some H
        refine RW.cl ent33 (room_Busy.calls k (rd lb4_0_0 y6.1) A12 c_12 A13 c_13 _ _ h89.all h89.len h90.all h90.len h92) ?_
        rintro _ w29 ⟨rfl, x25⟩
        refine ⟨_, rfl, x25, ?_⟩
        have sx25 := x25.size
        obtain ⟨y8, h93, H⟩ := bind_some H
        refine RW.cl ent63 (seg_Set_Has.calls y7 ibk11_2_1_2 _ _ h93) ?_
        rintro _ w30 ⟨rfl, x26⟩
        refine ⟨_, rfl, x26, ?_⟩
        have sx26 := x26.size
        refine pu 2 rfl (RW.done (NW.next ?_))
        by_cases c10 : y8 = true
        ·rw [if_pos c10] at H
         refine CW.cond_f rfl (not_f (c10)) (CW.skip ?_)
         refine NW.norm_block (NW.next ?_)
         refine CW.seq (CW.ord [0, 0, 0, 0, 12, 28, 60, 124, 0, 256, 1020, 2044, 4092, 8191, 16383, 32767] (ofL [(0, .W), (1, .W), (2, .W), (3, .W), (4, .W), (5, .W), (8, .W), (6, .L), (9, .L), (7, .X), (10, .X), (11, .W), (12, .X), (13, .W), (14, .W), (15, .M)] .nil) mixed (by kernel_rfl) ?_)
         intro w31 x27
         have sx27 := x27.size
         refine pu 4 rfl ?_
         obtain ⟨g4, H⟩ := guard_some H
         have h94 := ((h88.ext x25).ext x26).ext x27
         obtain ⟨ad4, A14, c_14, A15, c_15, e4, a4, h95, h96⟩ := kDeviceO_ato h94 g4.1 g4.2
         refine RW.ix tk g4 e4 ?_
         refine pu 2 rfl (RW.ld tk [.slice A15 ((rd lb4_0_0 y6.1).Late).length c_15] (a4.fld 3) ?_)
         have h97 := ((h91.ext x25).ext x26).ext x27
         refine RW.ld tk [iv ibk11_2_1_2] (h97.at 1) ?_
         obtain ⟨y9, h98, H⟩ := bind_some H
         refine RW.cl ent57 (seg_Make.calls k A15 c_15 ((rd lb4_0_0 y6.1).Late) _ _ h96.all h96.len h98) ?_
         rintro _ w32 ⟨rfl, x28⟩
         refine ⟨_, rfl, x28, ?_⟩
         have sx28 := x28.size
         obtain ⟨y10, h99, H⟩ := bind_some H
         refine RW.cl ent37 (seg_One.calls ibk11_2_1_2 _ _ h99) ?_
         rintro _ w33 ⟨rfl, x29⟩
         refine ⟨_, rfl, x29, ?_⟩
         have sx29 := x29.size
         refine pu 1 rfl ?_
         have h100 := (((((((((((((hG.ext x0_3).ext x17).ext x18).ext x19).ext x20).ext x21).ext x22).ext x23).ext x24).ext x25).ext x26).ext x27).ext x28).ext x29
         obtain ⟨y11, h101, H⟩ := bind_some H
         refine RW.cl ent40 (seg_Set_Segs.calls k (uor y9 y10) _ _ h100 h101) ?_
         rintro _ w34 ⟨A16, c_16, rfl, x30, h102⟩
         refine ⟨_, rfl, x30, ?_⟩
         have sx30 := x30.size
         have h103 : Ow kSeg 105 w34.heap (okL [(w33.heap.size, some w34.heap.size, some 105)]) (okL []) A16 c_16 y11 := h102.close
         obtain ⟨g5, H⟩ := guard_some H
         have h104 := ((h94.ext x28).ext x29).ext x30
         obtain ⟨ad5, A17, c_17, A18, c_18, e5, a5, h105, h106⟩ := kDeviceO_ato h104 g5.1 g5.2
         refine RW.ix tk g5 e5 ?_
         refine pu 1 rfl ?_
         refine RW.storeElL (y := (⟨(rd lb4_0_0 y6.1).ID, (rd lb4_0_0 y6.1).Size, (rd lb4_0_0 y6.1).Free, y11⟩ : Device)) (lv := [(w33.heap.size, some w34.heap.size, some 105)]) (k := 3) tk h104 (j := y6.1.toNat) (by have := g5; omega) default [.slice A16 y11.length c_16] (fun cs ok' hr => by obtain ⟨qa1, qc1, qa2, qc2, rfl, q1, q2⟩ := kDeviceO_open hr; exact ⟨by simp, kDeviceO_mk (⟨(rd lb4_0_0 y6.1).ID, (rd lb4_0_0 y6.1).Size, (rd lb4_0_0 y6.1).Free, y11⟩ : Device) (q1.mono (fun _ _ ho => Or.inl ho) (fun _ _ ho => Or.inl ho)) (h103.mono (fun _ _ ho => Or.inr (okL_sub (l := [(w33.heap.size, some w34.heap.size, some 105)]) (l' := [(w33.heap.size, some w34.heap.size, some 105)]) ⟨(.inl ⟨by omega, by omega, rfl⟩), trivial⟩ ho)) (fun _ _ ho => Or.inr (okL_sub (l := []) (l' := [(w33.heap.size, some w34.heap.size, some 105)]) trivial ho)))⟩) ⟨⟨.inl (nq rfl), trivial⟩, trivial⟩ ⟨rfl, rfl, rfl⟩ rfl rfl e5 rfl rfl rfl rfl rfl ?_
         intro w35 x31 h107
         have sx31 := x31.size
         have h108 := h107.close.sub (l' := [(w4.heap.size, some w7.heap.size, some 40)]) (li' := [(w4.heap.size, some w34.heap.size, some 105)]) ⟨(.inl ⟨by omega, by omega, rfl⟩), trivial⟩ ⟨(.inl ⟨by omega, by omega, rfl⟩), ⟨(.inl ⟨by omega, by omega, rfl⟩), trivial⟩⟩
         have h109 := ((((((((((h79.ext x21).ext x22).ext x23).ext x24).ext x25).ext x26).ext x27).ext x28).ext x29).ext x30).tL x31
         have h110 : Box w35.heap b4 78 [.slice Ab4_0_0 (lb4_0_0.set y6.1.toNat (⟨(rd lb4_0_0 y6.1).ID, (rd lb4_0_0 y6.1).Size, (rd lb4_0_0 y6.1).Free, y11⟩ : Device)).length cb4_0_0, .slice A6 y2.Tables.length c_6, iv y2.Job.Dev, iv y2.Job.At, iv y2.Job.Table.Dev, iv y2.Job.Table.Size, .slice A7 y2.Job.Table.List_.length c_7, iv y2.Next] := by simpa only [List.length_set] using h109
         refine RW.done (NW.next (CW.seq (CW.lw 1 rfl (pu 1 rfl ?_))))
         refine RW.done (NW.next (CW.ret ?_))
         refine NW.ret1 rfl (by rfl) ⟨_, rfl, ?_⟩
         refine pu 1 rfl (RW.done (NW.next (CW.seq (CW.lw 2 rfl ?_))))
         refine pu 2 rfl (RW.done (NW.next ?_))
         have j10 := (((((((((((j9.ext x20).ext x21).ext x22).ext x23).ext x24).ext x25).ext x26).ext x27).ext x28).ext x29).ext x30).tL x31
         by_cases c11 : (0 : Int) = 0
         ·rw [if_pos c11] at H
          refine CW.cond_f rfl (bne_f c11) (CW.skip (NW.norm_block ?_))
          have h111 := (((((((((((j7.ext x20).ext x21).ext x22).ext x23).ext x24).ext x25).ext x26).ext x27).ext x28).ext x29).ext x30).tL x31
          have h112 := (((((((((((j8.ext x20).ext x21).ext x22).ext x23).ext x24).ext x25).ext x26).ext x27).ext x28).ext x29).ext x30).tL x31
          have h113 := Ext.turn ((((((((((((((x0_3.tr x17).tr x18).tr x19).tr x20).tr x21).tr x22).tr x23).tr x24).tr x25).tr x26).tr x27).tr x28).tr x29).tr x30) x31 ⟨by omega, trivial⟩
          exact NW.J fun a ha => ⟨(uor it8_0 y5), (lb4_0_0.set y6.1.toNat (⟨(rd lb4_0_0 y6.1).ID, (rd lb4_0_0 y6.1).Size, (rd lb4_0_0 y6.1).Free, y11⟩ : Device)), Ab4_0_0, cb4_0_0, ha.sb, by omega, (h108.sb), h111, h112, h113, j10, h110, H⟩
         rw [if_neg c11] at H
         refine CW.cond_t rfl (bne_t c11) (CW.seq (CW.lex [.W, .W, .M, .W] rfl (pu 2 rfl (RW.sb tk j10 [.slice none 0 0, .slice none 0 0, iv 0, iv 0, iv 0, iv 0, .slice none 0 0, iv 0] ?_))))
         intro w36 x32 h116
         have h117 : Box w36.heap b2 30 [.slice none 0 0, .slice none 0 0, iv 0, iv 0, iv 0, iv 0, .slice none 0 0, iv 0] := h116
         have sx32 := x32.size
         refine pu 1 rfl (RW.done (NW.next (CW.ret ?_)))
         refine NW.ret_block (NW.ret_then (NW.ret_then (NW.ret_block (NW.ret_then ?_))))
         obtain rfl := Option.some.inj H
         have h118 := (Ext.turn ((((((((((((((x0_3.tr x17).tr x18).tr x19).tr x20).tr x21).tr x22).tr x23).tr x24).tr x25).tr x26).tr x27).tr x28).tr x29).tr x30) x31 ⟨by omega, trivial⟩).tB x32
         exact NW.ret2 rfl (resOne_cell tk (h117.at 0) rfl rfl rfl) (by rfl) ⟨none, 0, none, 0, none, 0, rfl, h118, Ow.nil, Ow.nil, Ow.nil⟩
        rw [if_neg c10] at H
        cases H
       rw [if_neg c7] at H
       cases H
      rw [if_neg c5] at H
      refine CW.cond_t rfl (bne_t c5) (CW.exit ?_)
      refine NW.exit_then (NW.exit_hit ?_)
      exact NW.J fun a ha => ⟨it8_0, lb4_0_0, Ab4_0_0, cb4_0_0, ha.sb, by omega, (j1.sb), j2, j3, j4, j5, h70, H⟩
     rw [if_neg c4] at H
     cases H
    intro a w8 hJ hp
    obtain ⟨it8_1, lb4_0_1, Ab4_0_1, cb4_0_1, hS, hle, fb4_0_1, gF6_1, gF7_1, x0_1, gb2_1, gb4_1, H⟩ := hJ
    unfold move_Cancel.j0 at H
    refine CW.go hp hS ?_
    have h124 : Ow kDeviceO 40 w8.heap (okL [(w4.heap.size, some w7.heap.size, some 40)]) (okL [(w4.heap.size, some w8.heap.size, some 105)]) Ab4_0_1 cb4_0_1 lb4_0_1 := fb4_0_1.close
    have xt4 : Ext w8 w8 := Upd.refl _ _
    refine CW.lw 2 rfl (pu 2 rfl (RW.done ?_))
    exact NW.J fun a ha => ⟨n1, Nat.lt_succ_self n1, it8_1, (w64 (it39_0 + 1)), lb4_0_1, Ab4_0_1, cb4_0_1, ha.sb, by omega, (h124.sb), gF6_1, gF7_1, x0_1, gb2_1, gb4_1, H⟩
   rw [if_neg c3] at H
   refine CW.cond_f rfl (decide_eq_false c3) (CW.exit ?_)
   refine NW.exit_then (NW.exit_then (NW.exit_hit ?_))
   refine NW.next (CW.seq (CW.ord [0, 1, 3, 7, 15, 0, 32, 96, 224, 480, 992, 2047, 4095, 8191, 8191, 16383, 65535] (ofL [(0, .W), (1, .W), (2, .W), (3, .W), (5, .W), (6, .W), (7, .W), (8, .W), (9, .W), (4, .L), (10, .L), (11, .X), (12, .W), (13, .W), (14, .W), (15, .W), (16, .W)] .nil) mixed (by kernel_rfl) ?_))
   intro w37 x33
   have sx33 := x33.size
   refine pu 9 rfl ?_
   have h125 := gb4_0.ext x33
   refine RW.lb tk [.slice Ab4_0_0 lb4_0_0.length cb4_0_0] h125 0 ?_
   refine RW.lb tk [iv y2.Job.Dev] h125 2 ?_
   have h126 := h31.ext x33
   obtain ⟨y12, h127, H⟩ := bind_some H
   refine RW.cl ent31 (room_Find.calls k Ab4_0_0 cb4_0_0 lb4_0_0 y2.Job.Dev _ _ (h126.all.to kDevice_ro rfl) h126.len h127) ?_
   rintro _ w38 ⟨rfl, x34⟩
   refine ⟨_, rfl, x34, ?_⟩
   have sx34 := x34.size
   refine pu 5 rfl (RW.done (NW.next (CW.seq (CW.lex [.W, .W, .W, .W, .L, .W, .W, .W] rfl ?_))))
   refine pu 4 rfl ?_
   have h128 := h125.ext x34
   refine RW.lb tk [.slice Ab4_0_0 lb4_0_0.length cb4_0_0] h128 0 ?_
   refine pu 1 rfl ?_
   obtain ⟨g6, H⟩ := guard_some H
   have h129 := h126.ext x34
   obtain ⟨ad6, A19, c_19, A20, c_20, e6, a6, h130, h131⟩ := kDeviceO_ato h129 g6.1 g6.2
   refine RW.ix tk g6 e6 ?_
   refine pu 1 rfl (RW.done (NW.next (CW.seq (CW.lex [.W, .W, .W, .W, .W, .L, .X, .W, .W, .X, .W, .W, .M, .W, .W, .M] rfl ?_))))
   refine pu 5 rfl (RW.ld tk [iv ((rd lb4_0_0 y12.1).Size)] ((a6.fld 1).take 1 rfl) ?_)
   obtain ⟨y13, h132, H⟩ := bind_some H
   refine RW.cl ent39 (seg_To.calls ((rd lb4_0_0 y12.1).Size) _ _ h132) ?_
   rintro _ w39 ⟨rfl, x35⟩
   refine ⟨_, rfl, x35, ?_⟩
   have sx35 := x35.size
   refine pu 2 rfl ?_
   have h133 := (((hG.ext x0_0).ext x33).ext x34).ext x35
   obtain ⟨y14, h134, H⟩ := bind_some H
   refine RW.cl ent40 (seg_Set_Segs.calls k (uandn y13 it8_0) _ _ h133 h134) ?_
   rintro _ w40 ⟨A21, c_21, rfl, x36, h135⟩
   refine ⟨_, rfl, x36, ?_⟩
   have sx36 := x36.size
   have h136 : Ow kSeg 105 w40.heap (okL [(w39.heap.size, some w40.heap.size, some 105)]) (okL []) A21 c_21 y14 := h135.close
   refine pu 2 rfl ?_
   have h137 := (h129.ext x35).ext x36
   refine RW.storeElL (y := (⟨(rd lb4_0_0 y12.1).ID, (rd lb4_0_0 y12.1).Size, y14, (rd lb4_0_0 y12.1).Late⟩ : Device)) (lv := [(w39.heap.size, some w40.heap.size, some 105)]) (k := 2) tk h137 (j := y12.1.toNat) (by have := g6; omega) default [.slice A21 y14.length c_21] (fun cs ok' hr => by obtain ⟨qa1, qc1, qa2, qc2, rfl, q1, q2⟩ := kDeviceO_open hr; exact ⟨by simp, kDeviceO_mk (⟨(rd lb4_0_0 y12.1).ID, (rd lb4_0_0 y12.1).Size, y14, (rd lb4_0_0 y12.1).Late⟩ : Device) (h136.mono (fun _ _ ho => Or.inr (okL_sub (l := [(w39.heap.size, some w40.heap.size, some 105)]) (l' := [(w39.heap.size, some w40.heap.size, some 105)]) ⟨(.inl ⟨by omega, by omega, rfl⟩), trivial⟩ ho)) (fun _ _ ho => Or.inr (okL_sub (l := []) (l' := [(w39.heap.size, some w40.heap.size, some 105)]) trivial ho))) (q2.mono (fun _ _ ho => Or.inl ho) (fun _ _ ho => Or.inl ho))⟩) ⟨⟨.inl (nq rfl), trivial⟩, trivial⟩ ⟨rfl, rfl, rfl⟩ rfl rfl e6 rfl rfl rfl rfl rfl ?_
   intro w41 x37 h138
   have sx37 := x37.size
   have h139 := h138.close.sub (l' := [(w4.heap.size, some w7.heap.size, some 40)]) (li' := [(w4.heap.size, some w40.heap.size, some 105)]) ⟨(.inl ⟨by omega, by omega, rfl⟩), trivial⟩ ⟨(.inl ⟨by omega, by omega, rfl⟩), ⟨(.inl ⟨by omega, by omega, rfl⟩), trivial⟩⟩
   have g7 : 0 ≤ y12.1 ∧ y12.1 < ((lb4_0_0.set y12.1.toNat (⟨(rd lb4_0_0 y12.1).ID, (rd lb4_0_0 y12.1).Size, y14, (rd lb4_0_0 y12.1).Late⟩ : Device)).length : Int) := by simpa only [List.length_set] using g6
   have h140 := ((h128.ext x35).ext x36).tL x37
   have h141 : Box w41.heap b4 78 [.slice Ab4_0_0 (lb4_0_0.set y12.1.toNat (⟨(rd lb4_0_0 y12.1).ID, (rd lb4_0_0 y12.1).Size, y14, (rd lb4_0_0 y12.1).Late⟩ : Device)).length cb4_0_0, .slice A6 y2.Tables.length c_6, iv y2.Job.Dev, iv y2.Job.At, iv y2.Job.Table.Dev, iv y2.Job.Table.Size, .slice A7 y2.Job.Table.List_.length c_7, iv y2.Next] := by simpa only [List.length_set] using h140
   refine pu 2 rfl ?_
   refine RW.storeElL (y := (⟨(rd (lb4_0_0.set y12.1.toNat (⟨(rd lb4_0_0 y12.1).ID, (rd lb4_0_0 y12.1).Size, y14, (rd lb4_0_0 y12.1).Late⟩ : Device)) y12.1).ID, (rd (lb4_0_0.set y12.1.toNat (⟨(rd lb4_0_0 y12.1).ID, (rd lb4_0_0 y12.1).Size, y14, (rd lb4_0_0 y12.1).Late⟩ : Device)) y12.1).Size, (rd (lb4_0_0.set y12.1.toNat (⟨(rd lb4_0_0 y12.1).ID, (rd lb4_0_0 y12.1).Size, y14, (rd lb4_0_0 y12.1).Late⟩ : Device)) y12.1).Free, ([] : List Seg)⟩ : Device)) (lv := []) (k := 3) tk h139 (j := y12.1.toNat) (by have := g7; omega) default [.slice none 0 0] (fun cs ok' hr => by obtain ⟨qa1, qc1, qa2, qc2, rfl, q1, q2⟩ := kDeviceO_open hr; exact ⟨by simp, kDeviceO_mk (⟨(rd (lb4_0_0.set y12.1.toNat (⟨(rd lb4_0_0 y12.1).ID, (rd lb4_0_0 y12.1).Size, y14, (rd lb4_0_0 y12.1).Late⟩ : Device)) y12.1).ID, (rd (lb4_0_0.set y12.1.toNat (⟨(rd lb4_0_0 y12.1).ID, (rd lb4_0_0 y12.1).Size, y14, (rd lb4_0_0 y12.1).Late⟩ : Device)) y12.1).Size, (rd (lb4_0_0.set y12.1.toNat (⟨(rd lb4_0_0 y12.1).ID, (rd lb4_0_0 y12.1).Size, y14, (rd lb4_0_0 y12.1).Late⟩ : Device)) y12.1).Free, ([] : List Seg)⟩ : Device) (q1.mono (fun _ _ ho => Or.inl ho) (fun _ _ ho => Or.inl ho)) Ow.nil⟩) trivial ⟨rfl, rfl, rfl⟩ rfl rfl e6 rfl rfl rfl rfl rfl ?_
   intro w42 x38 h142
   have sx38 := x38.size
   have h143 := h142.sub (l' := [(w4.heap.size, some w7.heap.size, some 40)]) (li' := [(w4.heap.size, some w40.heap.size, some 105)]) ⟨(.inl ⟨by omega, by omega, rfl⟩), trivial⟩ ⟨(.inl ⟨by omega, by omega, rfl⟩), trivial⟩
   have h144 := h141.tL x38
   have h145 : Box w42.heap b4 78 [.slice Ab4_0_0 ((lb4_0_0.set y12.1.toNat (⟨(rd lb4_0_0 y12.1).ID, (rd lb4_0_0 y12.1).Size, y14, (rd lb4_0_0 y12.1).Late⟩ : Device)).set y12.1.toNat (⟨(rd (lb4_0_0.set y12.1.toNat (⟨(rd lb4_0_0 y12.1).ID, (rd lb4_0_0 y12.1).Size, y14, (rd lb4_0_0 y12.1).Late⟩ : Device)) y12.1).ID, (rd (lb4_0_0.set y12.1.toNat (⟨(rd lb4_0_0 y12.1).ID, (rd lb4_0_0 y12.1).Size, y14, (rd lb4_0_0 y12.1).Late⟩ : Device)) y12.1).Size, (rd (lb4_0_0.set y12.1.toNat (⟨(rd lb4_0_0 y12.1).ID, (rd lb4_0_0 y12.1).Size, y14, (rd lb4_0_0 y12.1).Late⟩ : Device)) y12.1).Free, ([] : List Seg)⟩ : Device)).length cb4_0_0, .slice A6 y2.Tables.length c_6, iv y2.Job.Dev, iv y2.Job.At, iv y2.Job.Table.Dev, iv y2.Job.Table.Size, .slice A7 y2.Job.Table.List_.length c_7, iv y2.Next] := by simpa only [List.length_set] using h144
   refine RW.done (NW.next (CW.seq (CW.lex [.W, .W, .W, .W, .W, .M] rfl (pu 5 rfl ?_))))
   refine RW.sb tk h145 [iv 0, iv 0, iv 0, iv 0, .slice none 0 0] ?_
   intro w43 x39 h146
   have h147 : Box w43.heap b4 78 [.slice Ab4_0_0 ((lb4_0_0.set y12.1.toNat (⟨(rd lb4_0_0 y12.1).ID, (rd lb4_0_0 y12.1).Size, y14, (rd lb4_0_0 y12.1).Late⟩ : Device)).set y12.1.toNat (⟨(rd (lb4_0_0.set y12.1.toNat (⟨(rd lb4_0_0 y12.1).ID, (rd lb4_0_0 y12.1).Size, y14, (rd lb4_0_0 y12.1).Late⟩ : Device)) y12.1).ID, (rd (lb4_0_0.set y12.1.toNat (⟨(rd lb4_0_0 y12.1).ID, (rd lb4_0_0 y12.1).Size, y14, (rd lb4_0_0 y12.1).Late⟩ : Device)) y12.1).Size, (rd (lb4_0_0.set y12.1.toNat (⟨(rd lb4_0_0 y12.1).ID, (rd lb4_0_0 y12.1).Size, y14, (rd lb4_0_0 y12.1).Late⟩ : Device)) y12.1).Free, ([] : List Seg)⟩ : Device)).length cb4_0_0, .slice A6 y2.Tables.length c_6, iv 0, iv 0, iv 0, iv 0, .slice none 0 0, iv y2.Next] := h146
   have sx39 := x39.size
   refine RW.done (NW.next (CW.seq (CW.lex [.W, .W, .W, .W, .L, .M] rfl (pu 4 rfl ?_))))
   refine RW.lb tk [.slice Ab4_0_0 ((lb4_0_0.set y12.1.toNat (⟨(rd lb4_0_0 y12.1).ID, (rd lb4_0_0 y12.1).Size, y14, (rd lb4_0_0 y12.1).Late⟩ : Device)).set y12.1.toNat (⟨(rd (lb4_0_0.set y12.1.toNat (⟨(rd lb4_0_0 y12.1).ID, (rd lb4_0_0 y12.1).Size, y14, (rd lb4_0_0 y12.1).Late⟩ : Device)) y12.1).ID, (rd (lb4_0_0.set y12.1.toNat (⟨(rd lb4_0_0 y12.1).ID, (rd lb4_0_0 y12.1).Size, y14, (rd lb4_0_0 y12.1).Late⟩ : Device)) y12.1).Size, (rd (lb4_0_0.set y12.1.toNat (⟨(rd lb4_0_0 y12.1).ID, (rd lb4_0_0 y12.1).Size, y14, (rd lb4_0_0 y12.1).Late⟩ : Device)) y12.1).Free, ([] : List Seg)⟩ : Device)).length cb4_0_0] h147 0 ?_
   refine RW.callKM ent35 ⟨rfl, rfl, rfl, rfl⟩ rfl rfl rfl ?_
   refine calls_start Tryz.func35 rfl 28 rfl [.slice Ab4_0_0 ((lb4_0_0.set y12.1.toNat (⟨(rd lb4_0_0 y12.1).ID, (rd lb4_0_0 y12.1).Size, y14, (rd lb4_0_0 y12.1).Late⟩ : Device)).set y12.1.toNat (⟨(rd (lb4_0_0.set y12.1.toNat (⟨(rd lb4_0_0 y12.1).ID, (rd lb4_0_0 y12.1).Size, y14, (rd lb4_0_0 y12.1).Late⟩ : Device)) y12.1).ID, (rd (lb4_0_0.set y12.1.toNat (⟨(rd lb4_0_0 y12.1).ID, (rd lb4_0_0 y12.1).Size, y14, (rd lb4_0_0 y12.1).Late⟩ : Device)) y12.1).Size, (rd (lb4_0_0.set y12.1.toNat (⟨(rd lb4_0_0 y12.1).ID, (rd lb4_0_0 y12.1).Size, y14, (rd lb4_0_0 y12.1).Late⟩ : Device)) y12.1).Free, ([] : List Seg)⟩ : Device)).length cb4_0_0] rfl ?_
   refine CW.seq (CW.lw 3 rfl (pu 3 rfl (RW.done (NW.next ?_))))
   refine CW.block ?_
   refine CW.loop (fun n2 a w44 => ∃ (lt0_4 : List Device) (it6_4 : Int), Sat 28 [(0, .slice Ab4_0_0 lt0_4.length cb4_0_0), (4, .slice Ab4_0_0 lt0_4.length cb4_0_0), (5, iv (((lb4_0_0.set y12.1.toNat (⟨(rd lb4_0_0 y12.1).ID, (rd lb4_0_0 y12.1).Size, y14, (rd lb4_0_0 y12.1).Late⟩ : Device)).set y12.1.toNat (⟨(rd (lb4_0_0.set y12.1.toNat (⟨(rd lb4_0_0 y12.1).ID, (rd lb4_0_0 y12.1).Size, y14, (rd lb4_0_0 y12.1).Late⟩ : Device)) y12.1).ID, (rd (lb4_0_0.set y12.1.toNat (⟨(rd lb4_0_0 y12.1).ID, (rd lb4_0_0 y12.1).Size, y14, (rd lb4_0_0 y12.1).Late⟩ : Device)) y12.1).Size, (rd (lb4_0_0.set y12.1.toNat (⟨(rd lb4_0_0 y12.1).ID, (rd lb4_0_0 y12.1).Size, y14, (rd lb4_0_0 y12.1).Late⟩ : Device)) y12.1).Free, ([] : List Seg)⟩ : Device)).length : Int)), (6, iv it6_4)] a ∧ w43.heap.size ≤ w44.heap.size ∧ Ow kDeviceO 40 w44.heap (okL [(w4.heap.size, none, some 40)]) (okL [(w4.heap.size, none, some 105)]) Ab4_0_0 cb4_0_0 lt0_4 ∧ Ow kTableO 26 w44.heap (okL [(w4.heap.size, some w5.heap.size, some 26)]) (okL [(mid1, some w5.heap.size, some 66)]) A6 c_6 y2.Tables ∧ Ext w w44 ∧ lt0_4.length = lb4_0_0.length ∧ Box w44.heap b2 30 [.slice none 0 0, .slice none 0 0, iv 0, iv 0, iv 0, iv 0, .slice none 0 0, iv 0] ∧ Box w44.heap b4 78 [.slice Ab4_0_0 lt0_4.length cb4_0_0, .slice A6 y2.Tables.length c_6, iv 0, iv 0, iv 0, iv 0, .slice none 0 0, iv y2.Next] ∧ move_Cancel.l1 k y2 lb4_0_0 y12 y14 n2 lt0_4 it6_4 = some r) k ?_ ?_
   have h148 := h143.tB x39 h145
   have h149 := ((((((gF6_0.ext x33).ext x34).ext x35).ext x36).tL x37).tL x38).tB x39 h145
   have h150 := (Ext.turn (Ext.turn ((((x0_0.tr x33).tr x34).tr x35).tr x36) x37 ⟨by omega, trivial⟩) x38 ⟨by omega, trivial⟩).tB x39
   have h151 := ((((((gb2_0.ext x33).ext x34).ext x35).ext x36).tL x37).tL x38).tB x39
   ·exact fun a ha => ⟨((lb4_0_0.set y12.1.toNat (⟨(rd lb4_0_0 y12.1).ID, (rd lb4_0_0 y12.1).Size, y14, (rd lb4_0_0 y12.1).Late⟩ : Device)).set y12.1.toNat (⟨(rd (lb4_0_0.set y12.1.toNat (⟨(rd lb4_0_0 y12.1).ID, (rd lb4_0_0 y12.1).Size, y14, (rd lb4_0_0 y12.1).Late⟩ : Device)) y12.1).ID, (rd (lb4_0_0.set y12.1.toNat (⟨(rd lb4_0_0 y12.1).ID, (rd lb4_0_0 y12.1).Size, y14, (rd lb4_0_0 y12.1).Late⟩ : Device)) y12.1).Size, (rd (lb4_0_0.set y12.1.toNat (⟨(rd lb4_0_0 y12.1).ID, (rd lb4_0_0 y12.1).Size, y14, (rd lb4_0_0 y12.1).Late⟩ : Device)) y12.1).Free, ([] : List Seg)⟩ : Device)), 0, ha.sb, by omega, (h148.sb), h149, h150, (by (try simp only [List.length_set]) <;> omega), h151, h147, H⟩
   intro n2 a w44 hI hp
   obtain ⟨lt0_4, it6_4, hS, hle, ft0_4, gF6_4, x0_4, ln_lt0_4, gb2_4, gb4_4, H⟩ := hI
   cases n2 with
   | zero => cases H
   | succ n2 =>
    rw [move_Cancel.l1] at H
    refine CW.go hp hS ?_
    have h152 : Ow kDeviceO 40 w44.heap (okL [(w4.heap.size, some w44.heap.size, some 40)]) (okL [(w4.heap.size, some w44.heap.size, some 105)]) Ab4_0_0 cb4_0_0 lt0_4 := ft0_4.close
    have xt5 : Ext w44 w44 := Upd.refl _ _
    refine CW.seq (CW.lw 1 rfl (pu 1 rfl (RW.done (NW.next ?_))))
    refine CW.seq ?_
    by_cases c12 : it6_4 < (((lb4_0_0.set y12.1.toNat (⟨(rd lb4_0_0 y12.1).ID, (rd lb4_0_0 y12.1).Size, y14, (rd lb4_0_0 y12.1).Late⟩ : Device)).set y12.1.toNat (⟨(rd (lb4_0_0.set y12.1.toNat (⟨(rd lb4_0_0 y12.1).ID, (rd lb4_0_0 y12.1).Size, y14, (rd lb4_0_0 y12.1).Late⟩ : Device)) y12.1).ID, (rd (lb4_0_0.set y12.1.toNat (⟨(rd lb4_0_0 y12.1).ID, (rd lb4_0_0 y12.1).Size, y14, (rd lb4_0_0 y12.1).Late⟩ : Device)) y12.1).Size, (rd (lb4_0_0.set y12.1.toNat (⟨(rd lb4_0_0 y12.1).ID, (rd lb4_0_0 y12.1).Size, y14, (rd lb4_0_0 y12.1).Late⟩ : Device)) y12.1).Free, ([] : List Seg)⟩ : Device)).length : Int)
    ·rw [if_pos c12] at H
     refine CW.cond_t rfl (decide_eq_true c12) (CW.skip (NW.next (CW.seq (CW.block ?_))))
     refine CW.seq (CW.lex [.W, .W, .L, .X, .W, .M] rfl (pu 1 rfl ?_))
     obtain ⟨g8, H⟩ := guard_some H
     obtain ⟨ad7, A22, c_22, A23, c_23, e7, a7, h153, h154⟩ := kDeviceO_ato h152 g8.1 g8.2
     refine RW.ix tk g8 e7 ?_
     refine RW.ld tk [iv ((rd lt0_4 it6_4).ID), iv ((rd lt0_4 it6_4).Size), .slice A22 ((rd lt0_4 it6_4).Free).length c_22, .slice A23 ((rd lt0_4 it6_4).Late).length c_23] a7 ?_
     refine RW.alloc tk (.inl rfl) ⟨rfl, rfl, rfl, rfl⟩ rfl rfl ?_
     intro b9 w45 x40 l21 h155
     have sx40 := x40.size
     have ltb9 := h155.lt
     refine pu 1 rfl (RW.sb tk h155 [iv ((rd lt0_4 it6_4).ID), iv ((rd lt0_4 it6_4).Size), .slice A22 ((rd lt0_4 it6_4).Free).length c_22, .slice A23 ((rd lt0_4 it6_4).Late).length c_23] ?_)
     intro w46 x41 h156
     have h157 : Box w46.heap b9 40 [iv ((rd lt0_4 it6_4).ID), iv ((rd lt0_4 it6_4).Size), .slice A22 ((rd lt0_4 it6_4).Free).length c_22, .slice A23 ((rd lt0_4 it6_4).Late).length c_23] := h156
     have sx41 := x41.size
     refine RW.done (NW.next (CW.ord [0, 0, 0, 0, 0, 16, 48, 0, 128, 496, 1008, 2032, 4083, 8179, 16371, 32767, 65535, 131071] (ofL [(0, .W), (1, .W), (2, .W), (3, .W), (4, .W), (7, .W), (5, .L), (8, .L), (6, .X), (9, .X), (10, .W), (11, .X), (12, .W), (13, .W), (14, .M), (15, .W), (16, .W), (17, .M)] .nil) mixed (by kernel_rfl) ?_))
     intro w47 x42
     have sx42 := x42.size
     refine pu 6 rfl ?_
     have h158 := h157.ext x42
     refine RW.lb tk [.slice A22 ((rd lt0_4 it6_4).Free).length c_22] h158 2 ?_
     refine RW.ld tk [.slice A23 ((rd lt0_4 it6_4).Late).length c_23] (h158.at 3) ?_
     have h159 := ((h153.ext x40).tB x41 h155).ext x42
     obtain ⟨y15, h160, H⟩ := bind_some H
     refine RW.cl ent57 (seg_Make.calls k A22 c_22 ((rd lt0_4 it6_4).Free) _ _ h159.all h159.len h160) ?_
     rintro _ w48 ⟨rfl, x43⟩
     refine ⟨_, rfl, x43, ?_⟩
     have sx43 := x43.size
     have h161 := (((h154.ext x40).tB x41 h155).ext x42).ext x43
     obtain ⟨y16, h162, H⟩ := bind_some H
     refine RW.cl ent57 (seg_Make.calls k A23 c_23 ((rd lt0_4 it6_4).Late) _ _ h161.all h161.len h162) ?_
     rintro _ w49 ⟨rfl, x44⟩
     refine ⟨_, rfl, x44, ?_⟩
     have sx44 := x44.size
     refine pu 1 rfl ?_
     have h163 := (((((hG.ext x0_4).ext x40).tB x41).ext x42).ext x43).ext x44
     obtain ⟨y17, h164, H⟩ := bind_some H
     refine RW.cl ent40 (seg_Set_Segs.calls k (uor y15 y16) _ _ h163 h164) ?_
     rintro _ w50 ⟨A24, c_24, rfl, x45, h165⟩
     refine ⟨_, rfl, x45, ?_⟩
     have sx45 := x45.size
     have h166 : Ow kSeg 105 w50.heap (okL [(w49.heap.size, some w50.heap.size, some 105)]) (okL []) A24 c_24 y17 := h165.close
     obtain ⟨g9, H⟩ := guard_some H
     have h167 := (((((h152.ext x40).turnB x41 h155 ⟨.inr (by omega), trivial⟩ ⟨.inl (nq rfl), trivial⟩).ext x42).ext x43).ext x44).ext x45
     obtain ⟨ad8, A25, c_25, A26, c_26, e8, a8, h168, h169⟩ := kDeviceO_ato h167 g9.1 g9.2
     refine RW.ix tk g9 e8 ?_
     refine pu 1 rfl ?_
     refine RW.storeElL (y := (⟨(rd lt0_4 it6_4).ID, (rd lt0_4 it6_4).Size, y17, (rd lt0_4 it6_4).Late⟩ : Device)) (lv := [(w49.heap.size, some w50.heap.size, some 105)]) (k := 2) tk h167 (j := it6_4.toNat) (by have := g9; omega) default [.slice A24 y17.length c_24] (fun cs ok' hr => by obtain ⟨qa1, qc1, qa2, qc2, rfl, q1, q2⟩ := kDeviceO_open hr; exact ⟨by simp, kDeviceO_mk (⟨(rd lt0_4 it6_4).ID, (rd lt0_4 it6_4).Size, y17, (rd lt0_4 it6_4).Late⟩ : Device) (h166.mono (fun _ _ ho => Or.inr (okL_sub (l := [(w49.heap.size, some w50.heap.size, some 105)]) (l' := [(w49.heap.size, some w50.heap.size, some 105)]) ⟨(.inl ⟨by omega, by omega, rfl⟩), trivial⟩ ho)) (fun _ _ ho => Or.inr (okL_sub (l := []) (l' := [(w49.heap.size, some w50.heap.size, some 105)]) trivial ho))) (q2.mono (fun _ _ ho => Or.inl ho) (fun _ _ ho => Or.inl ho))⟩) ⟨⟨.inl (nq rfl), trivial⟩, trivial⟩ ⟨rfl, rfl, rfl⟩ rfl rfl e8 rfl rfl rfl rfl rfl ?_
     intro w51 x46 h170
     have sx46 := x46.size
     have h171 := h170.close.sub (l' := [(w4.heap.size, some w44.heap.size, some 40)]) (li' := [(w4.heap.size, some w50.heap.size, some 105)]) ⟨(.inl ⟨by omega, by omega, rfl⟩), trivial⟩ ⟨(.inl ⟨by omega, by omega, rfl⟩), ⟨(.inl ⟨by omega, by omega, rfl⟩), trivial⟩⟩
     refine RW.tell 0 (v' := .slice Ab4_0_0 (lt0_4.set it6_4.toNat (⟨(rd lt0_4 it6_4).ID, (rd lt0_4 it6_4).Size, y17, (rd lt0_4 it6_4).Late⟩ : Device)).length cb4_0_0) (by simp only [List.length_set]) rfl (RW.tell 4 (v' := .slice Ab4_0_0 (lt0_4.set it6_4.toNat (⟨(rd lt0_4 it6_4).ID, (rd lt0_4 it6_4).Size, y17, (rd lt0_4 it6_4).Late⟩ : Device)).length cb4_0_0) (by simp only [List.length_set]) rfl (RW.tell 13 (v' := .slice Ab4_0_0 (lt0_4.set it6_4.toNat (⟨(rd lt0_4 it6_4).ID, (rd lt0_4 it6_4).Size, y17, (rd lt0_4 it6_4).Late⟩ : Device)).length cb4_0_0) (by simp only [List.length_set]) rfl ?_))
     have h172 := ((((((gb4_4.ext x40).tB x41).ext x42).ext x43).ext x44).ext x45).tL x46
     have h173 : Box w51.heap b4 78 [.slice Ab4_0_0 (lt0_4.set it6_4.toNat (⟨(rd lt0_4 it6_4).ID, (rd lt0_4 it6_4).Size, y17, (rd lt0_4 it6_4).Late⟩ : Device)).length cb4_0_0, .slice A6 y2.Tables.length c_6, iv 0, iv 0, iv 0, iv 0, .slice none 0 0, iv y2.Next] := by simpa only [List.length_set] using h172
     obtain ⟨g10, H⟩ := guard_some H
     obtain ⟨ad9, A27, c_27, A28, c_28, e9, a9, h174, h175⟩ := kDeviceO_ato h171 g10.1 g10.2
     refine RW.ix tk g10 e9 ?_
     refine pu 1 rfl ?_
     refine RW.storeElL (y := (⟨(rd (lt0_4.set it6_4.toNat (⟨(rd lt0_4 it6_4).ID, (rd lt0_4 it6_4).Size, y17, (rd lt0_4 it6_4).Late⟩ : Device)) it6_4).ID, (rd (lt0_4.set it6_4.toNat (⟨(rd lt0_4 it6_4).ID, (rd lt0_4 it6_4).Size, y17, (rd lt0_4 it6_4).Late⟩ : Device)) it6_4).Size, (rd (lt0_4.set it6_4.toNat (⟨(rd lt0_4 it6_4).ID, (rd lt0_4 it6_4).Size, y17, (rd lt0_4 it6_4).Late⟩ : Device)) it6_4).Free, ([] : List Seg)⟩ : Device)) (lv := []) (k := 3) tk h171 (j := it6_4.toNat) (by have := g10; omega) default [.slice none 0 0] (fun cs ok' hr => by obtain ⟨qa1, qc1, qa2, qc2, rfl, q1, q2⟩ := kDeviceO_open hr; exact ⟨by simp, kDeviceO_mk (⟨(rd (lt0_4.set it6_4.toNat (⟨(rd lt0_4 it6_4).ID, (rd lt0_4 it6_4).Size, y17, (rd lt0_4 it6_4).Late⟩ : Device)) it6_4).ID, (rd (lt0_4.set it6_4.toNat (⟨(rd lt0_4 it6_4).ID, (rd lt0_4 it6_4).Size, y17, (rd lt0_4 it6_4).Late⟩ : Device)) it6_4).Size, (rd (lt0_4.set it6_4.toNat (⟨(rd lt0_4 it6_4).ID, (rd lt0_4 it6_4).Size, y17, (rd lt0_4 it6_4).Late⟩ : Device)) it6_4).Free, ([] : List Seg)⟩ : Device) (q1.mono (fun _ _ ho => Or.inl ho) (fun _ _ ho => Or.inl ho)) Ow.nil⟩) trivial ⟨rfl, rfl, rfl⟩ rfl rfl e9 rfl rfl rfl rfl rfl ?_
     intro w52 x47 h176
     have sx47 := x47.size
     have h177 := h176.sub (l' := [(w4.heap.size, some w44.heap.size, some 40)]) (li' := [(w4.heap.size, some w50.heap.size, some 105)]) ⟨(.inl ⟨by omega, by omega, rfl⟩), trivial⟩ ⟨(.inl ⟨by omega, by omega, rfl⟩), trivial⟩
     refine RW.tell 0 (v' := .slice Ab4_0_0 ((lt0_4.set it6_4.toNat (⟨(rd lt0_4 it6_4).ID, (rd lt0_4 it6_4).Size, y17, (rd lt0_4 it6_4).Late⟩ : Device)).set it6_4.toNat (⟨(rd (lt0_4.set it6_4.toNat (⟨(rd lt0_4 it6_4).ID, (rd lt0_4 it6_4).Size, y17, (rd lt0_4 it6_4).Late⟩ : Device)) it6_4).ID, (rd (lt0_4.set it6_4.toNat (⟨(rd lt0_4 it6_4).ID, (rd lt0_4 it6_4).Size, y17, (rd lt0_4 it6_4).Late⟩ : Device)) it6_4).Size, (rd (lt0_4.set it6_4.toNat (⟨(rd lt0_4 it6_4).ID, (rd lt0_4 it6_4).Size, y17, (rd lt0_4 it6_4).Late⟩ : Device)) it6_4).Free, ([] : List Seg)⟩ : Device)).length cb4_0_0) (by simp only [List.length_set]) rfl (RW.tell 4 (v' := .slice Ab4_0_0 ((lt0_4.set it6_4.toNat (⟨(rd lt0_4 it6_4).ID, (rd lt0_4 it6_4).Size, y17, (rd lt0_4 it6_4).Late⟩ : Device)).set it6_4.toNat (⟨(rd (lt0_4.set it6_4.toNat (⟨(rd lt0_4 it6_4).ID, (rd lt0_4 it6_4).Size, y17, (rd lt0_4 it6_4).Late⟩ : Device)) it6_4).ID, (rd (lt0_4.set it6_4.toNat (⟨(rd lt0_4 it6_4).ID, (rd lt0_4 it6_4).Size, y17, (rd lt0_4 it6_4).Late⟩ : Device)) it6_4).Size, (rd (lt0_4.set it6_4.toNat (⟨(rd lt0_4 it6_4).ID, (rd lt0_4 it6_4).Size, y17, (rd lt0_4 it6_4).Late⟩ : Device)) it6_4).Free, ([] : List Seg)⟩ : Device)).length cb4_0_0) (by simp only [List.length_set]) rfl ?_)
     have h178 := h173.tL x47
     have h179 : Box w52.heap b4 78 [.slice Ab4_0_0 ((lt0_4.set it6_4.toNat (⟨(rd lt0_4 it6_4).ID, (rd lt0_4 it6_4).Size, y17, (rd lt0_4 it6_4).Late⟩ : Device)).set it6_4.toNat (⟨(rd (lt0_4.set it6_4.toNat (⟨(rd lt0_4 it6_4).ID, (rd lt0_4 it6_4).Size, y17, (rd lt0_4 it6_4).Late⟩ : Device)) it6_4).ID, (rd (lt0_4.set it6_4.toNat (⟨(rd lt0_4 it6_4).ID, (rd lt0_4 it6_4).Size, y17, (rd lt0_4 it6_4).Late⟩ : Device)) it6_4).Size, (rd (lt0_4.set it6_4.toNat (⟨(rd lt0_4 it6_4).ID, (rd lt0_4 it6_4).Size, y17, (rd lt0_4 it6_4).Late⟩ : Device)) it6_4).Free, ([] : List Seg)⟩ : Device)).length cb4_0_0, .slice A6 y2.Tables.length c_6, iv 0, iv 0, iv 0, iv 0, .slice none 0 0, iv y2.Next] := by simpa only [List.length_set] using h178
     refine RW.done ?_
     refine NW.norm_block (NW.next ?_)
     refine CW.lw 2 rfl (pu 2 rfl (RW.done ?_))
     have h180 := (((((((gF6_4.ext x40).tB x41 h155).ext x42).ext x43).ext x44).ext x45).tL x46).tL x47
     have h181 := Ext.turn (Ext.turn ((((((x0_4.tr x40).tB x41).tr x42).tr x43).tr x44).tr x45) x46 ⟨by omega, trivial⟩) x47 ⟨by omega, trivial⟩
     have h182 := (((((((gb2_4.ext x40).tB x41).ext x42).ext x43).ext x44).ext x45).tL x46).tL x47
     exact NW.J fun a ha => ⟨n2, Nat.lt_succ_self n2, ((lt0_4.set it6_4.toNat (⟨(rd lt0_4 it6_4).ID, (rd lt0_4 it6_4).Size, y17, (rd lt0_4 it6_4).Late⟩ : Device)).set it6_4.toNat (⟨(rd (lt0_4.set it6_4.toNat (⟨(rd lt0_4 it6_4).ID, (rd lt0_4 it6_4).Size, y17, (rd lt0_4 it6_4).Late⟩ : Device)) it6_4).ID, (rd (lt0_4.set it6_4.toNat (⟨(rd lt0_4 it6_4).ID, (rd lt0_4 it6_4).Size, y17, (rd lt0_4 it6_4).Late⟩ : Device)) it6_4).Size, (rd (lt0_4.set it6_4.toNat (⟨(rd lt0_4 it6_4).ID, (rd lt0_4 it6_4).Size, y17, (rd lt0_4 it6_4).Late⟩ : Device)) it6_4).Free, ([] : List Seg)⟩ : Device)), (w64 (it6_4 + 1)), ha.sb, by omega, (h177.sb), h180, h181, (by (try simp only [List.length_set]) <;> omega), h182, h179, H⟩
    rw [if_neg c12] at H
    refine CW.cond_f rfl (decide_eq_false c12) (CW.exit ?_)
    refine NW.exit_then (NW.exit_then (NW.exit_hit ?_))
    refine NW.end_ ?_
    refine NW.ret0 rfl ⟨_, rfl, ?_⟩
    refine RW.done (NW.next (CW.seq (CW.lex [.W, .W, .W, .L, .M, .W] rfl (pu 3 rfl ?_))))
    refine RW.ld tk [.slice Ab4_0_0 lt0_4.length cb4_0_0, .slice A6 y2.Tables.length c_6, iv 0, iv 0, iv 0, iv 0, .slice none 0 0, iv y2.Next] (gb4_4.at 0) ?_
    refine RW.sb tk gb2_4 [.slice Ab4_0_0 lt0_4.length cb4_0_0, .slice A6 y2.Tables.length c_6, iv 0, iv 0, iv 0, iv 0, .slice none 0 0, iv y2.Next] ?_
    intro w53 x48 h183
    have h184 : Box w53.heap b2 30 [.slice Ab4_0_0 lt0_4.length cb4_0_0, .slice A6 y2.Tables.length c_6, iv 0, iv 0, iv 0, iv 0, .slice none 0 0, iv y2.Next] := h183
    have sx48 := x48.size
    refine pu 1 rfl (RW.done (NW.next (CW.ret ?_)))
    have h185 := h152.tB x48 gb2_4
    have h186 := gF6_4.tB x48 gb2_4
    obtain rfl := Option.some.inj H
    have h187 := x0_4.tB x48
    exact NW.ret2 rfl (resOne_cell tk (h184.at 0) rfl rfl rfl) (by rfl) ⟨Ab4_0_0, cb4_0_0, A6, c_6, none, 0, rfl, h187, (h185.sub (l' := [(w.heap.size, none, some 40)]) (li' := [(w.heap.size, none, some 105)]) ⟨(.inl ⟨by omega, trivial, rfl⟩), trivial⟩ ⟨(.inl ⟨by omega, trivial, rfl⟩), trivial⟩), (h186.sub (l' := [(w.heap.size, none, some 26)]) (li' := [(w.heap.size, none, some 66)]) ⟨(.inl ⟨by omega, trivial, rfl⟩), trivial⟩ ⟨(.inl ⟨by omega, trivial, rfl⟩), trivial⟩), Ow.nil⟩
 rw [if_neg c1] at H
 cases H
theorem hermitageref0_EqSegs.calls (k : Nat) (A1 : Option Addr) (c_1 : Nat) (p0 : List Seg) (A2 : Option Addr) (c_2 : Nat) (p1 : List Seg) (r : Bool) (w : World) (hs1 : Sl kSeg w.heap okAll A1 p0) (hl1 : p0.length ≤ c_1) (hs2 : Sl kSeg w.heap okAll A2 p1) (hl2 : p1.length ≤ c_2) (H : hermitageref0_EqSegs.f k p0 p1 = some r) :
    Calls Tryz.prog 91 #[.slice A1 p0.length c_1, .slice A2 p1.length c_2] w fun e w' => e = .returned (.bool r) ∧ Ext w w' := by
 have h1 : Sl kSeg w.heap (okL [(0, some w.heap.size, none)]) A1 p0 := hs1.old _ rfl
 have h2 : Sl kSeg w.heap (okL [(0, some w.heap.size, none)]) A2 p1 := hs2.old _ rfl
 have x0 : Ext w w := Upd.refl _ w
 unfold hermitageref0_EqSegs.f at H
 refine calls_start Tryz.func91 rfl 26 rfl [.slice A1 p0.length c_1, .slice A2 p1.length c_2] rfl ?_
 refine CW.seq (CW.lw 1 rfl (pu 1 rfl (RW.done (NW.next ?_))))
 refine CW.seq (CW.seq (CW.lw 5 rfl (pu 5 rfl (RW.done ?_))))
 refine NW.next ?_
 by_cases c1 : (p0.length : Int) = (p1.length : Int)
 ·rw [if_pos c1] at H
  refine CW.cond_f rfl (bne_f c1) (CW.skip (NW.next (CW.seq (CW.seq ?_))))
  refine CW.lw 1 rfl (pu 1 rfl (RW.done (NW.next (CW.block ?_))))
  refine CW.loop (fun n1 a w1 => ∃ (it5_0 : Int), Sat 26 [(0, .slice A1 p0.length c_1), (1, .slice A2 p1.length c_2), (5, iv it5_0)] a ∧ w.heap.size ≤ w1.heap.size ∧ Ext w w1 ∧ hermitageref0_EqSegs.l0 p0 p1 n1 it5_0 = some r) k ?_ ?_
  ·exact fun a ha => ⟨0, ha.sb, by omega, x0, H⟩
  intro n1 a w1 hI hp
  obtain ⟨it5_0, hS, hle, x0_0, H⟩ := hI
  cases n1 with
  | zero => cases H
  | succ n1 =>
   rw [hermitageref0_EqSegs.l0] at H
   refine CW.go hp hS (CW.seq (CW.seq (CW.lw 4 rfl (pu 4 rfl ?_))))
   refine RW.done (NW.next ?_)
   by_cases c2 : it5_0 < (p0.length : Int)
   ·rw [if_pos c2] at H
    refine CW.cond_t rfl (decide_eq_true c2) (CW.skip (NW.next (CW.seq (CW.block ?_))))
    refine CW.seq (CW.ord [0, 0, 3, 7, 0, 0, 48, 112, 255] (ofL [(0, .W), (1, .W), (2, .W), (4, .W), (5, .W), (6, .W), (3, .L), (7, .L), (8, .W)] .nil) mixed (by kernel_rfl) ?_)
    intro w2 x1
    have sx1 := x1.size
    refine pu 2 rfl ?_
    obtain ⟨g1, H⟩ := guard_some H
    have h3 := (h1.ext x0_0).ext x1
    obtain ⟨ad1, e1, a1⟩ := kSeg_at h3 g1.1 g1.2
    refine RW.ix tk g1 e1 ?_
    refine pu 2 rfl ?_
    obtain ⟨g2, H⟩ := guard_some H
    have h4 := (h2.ext x0_0).ext x1
    obtain ⟨ad2, e2, a2⟩ := kSeg_at h4 g2.1 g2.2
    refine RW.ix tk g2 e2 ?_
    refine RW.ld tk [iv ((rd p0 it5_0).At), iv ((rd p0 it5_0).Len)] a1 ?_
    refine RW.ld tk [iv ((rd p1 it5_0).At), iv ((rd p1 it5_0).Len)] a2 ?_
    refine RW.eqAgg eqgSeg (eqSeg (rd p0 it5_0) (rd p1 it5_0)) ⟨rfl, rfl, rfl, rfl⟩ rfl rfl rfl rfl (RW.done (NW.next ?_))
    have j1 := x0_0.tr x1
    by_cases c3 : (rd p0 it5_0) = (rd p1 it5_0)
    ·rw [if_pos c3] at H
     refine CW.cond_f rfl (not_f (decide_eq_true c3)) (CW.skip ?_)
     refine NW.norm_block (NW.next ?_)
     refine CW.lw 3 rfl (pu 3 rfl (RW.done ?_))
     exact NW.J fun a ha => ⟨n1, Nat.lt_succ_self n1, (w64 (it5_0 + 1)), ha.sb, by omega, j1, H⟩
    rw [if_neg c3] at H
    refine CW.cond_t rfl (not_t (decide_eq_false c3)) (CW.seq (CW.lw 1 rfl (pu 1 rfl (RW.done ?_))))
    refine NW.next (CW.ret ?_)
    refine NW.ret_block (NW.ret_then (NW.ret_then (NW.ret_block (NW.ret_then ?_))))
    obtain rfl := Option.some.inj H
    exact NW.ret1 rfl (by rfl) ⟨rfl, j1⟩
   rw [if_neg c2] at H
   refine CW.cond_f rfl (decide_eq_false c2) (CW.exit ?_)
   refine NW.exit_then (NW.exit_then (NW.exit_hit ?_))
   refine NW.next (CW.seq (CW.lw 1 rfl (pu 1 rfl (RW.done ?_))))
   refine NW.next (CW.ret ?_)
   obtain rfl := Option.some.inj H
   exact NW.ret1 rfl (by rfl) ⟨rfl, x0_0⟩
 rw [if_neg c1] at H
 refine CW.cond_t rfl (bne_t c1) (CW.seq (CW.lw 1 rfl (pu 1 rfl (RW.done ?_))))
 refine NW.next (CW.ret (NW.ret_then ?_))
 obtain rfl := Option.some.inj H
 exact NW.ret1 rfl (by rfl) ⟨rfl, x0⟩
theorem hermitageref0_EqDevice.calls (k : Nat) (p0 : Device) (A1 : Option Addr) (c_1 : Nat) (A2 : Option Addr) (c_2 : Nat) (p1 : Device) (A3 : Option Addr) (c_3 : Nat) (A4 : Option Addr) (c_4 : Nat) (r : Bool) (w : World) (hs1 : Sl kSeg w.heap okAll A1 p0.Free) (hl1 : p0.Free.length ≤ c_1) (hs2 : Sl kSeg w.heap okAll A2 p0.Late) (hl2 : p0.Late.length ≤ c_2) (hs3 : Sl kSeg w.heap okAll A3 p1.Free) (hl3 : p1.Free.length ≤ c_3) (hs4 : Sl kSeg w.heap okAll A4 p1.Late) (hl4 : p1.Late.length ≤ c_4) (H : hermitageref0_EqDevice.f k p0 p1 = some r) :
    Calls Tryz.prog 65 #[.agg #[iv p0.ID, iv p0.Size, .slice A1 p0.Free.length c_1, .slice A2 p0.Late.length c_2], .agg #[iv p1.ID, iv p1.Size, .slice A3 p1.Free.length c_3, .slice A4 p1.Late.length c_4]] w fun e w' => e = .returned (.bool r) ∧ Ext w w' := by
 have h1 : Sl kSeg w.heap (okL [(0, some w.heap.size, none)]) A1 p0.Free := hs1.old _ rfl
 have h2 : Sl kSeg w.heap (okL [(0, some w.heap.size, none)]) A2 p0.Late := hs2.old _ rfl
 have h3 : Sl kSeg w.heap (okL [(0, some w.heap.size, none)]) A3 p1.Free := hs3.old _ rfl
 have h4 : Sl kSeg w.heap (okL [(0, some w.heap.size, none)]) A4 p1.Late := hs4.old _ rfl
 have x0 : Ext w w := Upd.refl _ w
 unfold hermitageref0_EqDevice.f at H
 refine calls_start Tryz.func65 rfl 31 rfl [.agg #[iv p0.ID, iv p0.Size, .slice A1 p0.Free.length c_1, .slice A2 p0.Late.length c_2], .agg #[iv p1.ID, iv p1.Size, .slice A3 p1.Free.length c_3, .slice A4 p1.Late.length c_4]] rfl ?_
 refine CW.seq (CW.lex [.X, .X, .W] rfl (RW.box (cs := [iv p0.ID, iv p0.Size, .slice A1 p0.Free.length c_1, .slice A2 p0.Late.length c_2]) (.inl rfl) ⟨rfl, rfl, rfl, rfl⟩ rfl rfl rfl ?_))
 intro b1 w1 x1 l1 h5
 have sx1 := x1.size
 have ltb1 := h5.lt
 refine RW.box (cs := [iv p1.ID, iv p1.Size, .slice A3 p1.Free.length c_3, .slice A4 p1.Late.length c_4]) (.inl rfl) ⟨rfl, rfl, rfl, rfl⟩ rfl rfl rfl ?_
 intro b2 w2 x2 l2 h6
 have sx2 := x2.size
 have ltb2 := h6.lt
 refine pu 1 rfl (RW.done (NW.next (CW.seq (CW.lex [.W, .L, .W, .L, .W, .W, .W, .L, .W, .L, .W, .W, .W, .W, .L, .W, .L, .X, .W, .W, .W, .L, .W, .L, .X, .W, .W] rfl ?_))))
 refine pu 1 rfl ?_
 have h7 := h5.ext x2
 refine RW.lb tk [iv p0.ID] h7 0 ?_
 refine pu 1 rfl (RW.lb tk [iv p1.ID] h6 0 ?_)
 refine pu 2 rfl ?_
 have j1 := (x0.tr x1).tr x2
 by_cases c1 : p0.ID = p1.ID
 ·rw [if_pos c1] at H
  refine RW.bool 10 (b' := true) (beq_t c1) rfl (pu 1 rfl (RW.lb tk [iv p0.Size] h7 1 ?_))
  refine pu 1 rfl (RW.lb tk [iv p1.Size] h6 1 ?_)
  refine pu 3 rfl ?_
  by_cases c2 : p0.Size = p1.Size
  ·rw [if_pos c2] at H
   refine RW.bool 17 (b' := true) (beq_t c2) rfl (pu 1 rfl (RW.lb tk [.slice A1 p0.Free.length c_1] h7 2 ?_))
   refine pu 1 rfl (RW.lb tk [.slice A3 p1.Free.length c_3] h6 2 ?_)
   have h8 := (h1.ext x1).ext x2
   have h9 := (h3.ext x1).ext x2
   obtain ⟨y1, h10, H⟩ := bind_some H
   refine RW.cl ent91 (hermitageref0_EqSegs.calls k A1 c_1 p0.Free A3 c_3 p1.Free _ _ h8.all hl1 h9.all hl3 h10) ?_
   rintro _ w3 ⟨rfl, x3⟩
   refine ⟨_, rfl, x3, ?_⟩
   have sx3 := x3.size
   refine pu 2 rfl ?_
   have j2 := j1.tr x3
   by_cases c3 : y1 = true
   ·rw [if_pos c3] at H
    refine RW.bool 24 (b' := true) (c3) rfl (pu 1 rfl ?_)
    have h11 := h7.ext x3
    refine RW.ld tk [.slice A2 p0.Late.length c_2] (h11.at 3) ?_
    refine pu 1 rfl ?_
    have h12 := h6.ext x3
    refine RW.ld tk [.slice A4 p1.Late.length c_4] (h12.at 3) ?_
    have h13 := ((h2.ext x1).ext x2).ext x3
    have h14 := ((h4.ext x1).ext x2).ext x3
    obtain ⟨y2, h15, H⟩ := bind_some H
    refine RW.cl ent91 (hermitageref0_EqSegs.calls k A2 c_2 p0.Late A4 c_4 p1.Late _ _ h13.all hl2 h14.all hl4 h15) ?_
    rintro _ w4 ⟨rfl, x4⟩
    refine ⟨_, rfl, x4, ?_⟩
    have sx4 := x4.size
    refine pu 2 rfl (RW.done (NW.next (CW.ret ?_)))
    obtain rfl := Option.some.inj H
    have h16 := j2.tr x4
    exact NW.ret1 rfl (by rfl) ⟨rfl, h16⟩
   rw [if_neg c3] at H
   refine RW.bool 24 (b' := false) (bool_f c3) rfl (pu 7 rfl (RW.done (NW.next (CW.ret ?_))))
   obtain rfl := Option.some.inj H
   exact NW.ret1 rfl (by rfl) ⟨rfl, j2⟩
  rw [if_neg c2] at H
  refine RW.bool 17 (b' := false) (beq_f c2) rfl (pu 14 rfl (RW.done (NW.next (CW.ret ?_))))
  obtain rfl := Option.some.inj H
  exact NW.ret1 rfl (by rfl) ⟨rfl, j1⟩
 rw [if_neg c1] at H
 refine RW.bool 10 (b' := false) (beq_f c1) rfl (pu 21 rfl (RW.done (NW.next (CW.ret ?_))))
 obtain rfl := Option.some.inj H
 exact NW.ret1 rfl (by rfl) ⟨rfl, j1⟩
theorem hermitageref0_EqDevices.calls (k : Nat) (A1 : Option Addr) (c_1 : Nat) (p0 : List Device) (A2 : Option Addr) (c_2 : Nat) (p1 : List Device) (r : Bool) (w : World) (hs1 : Sl kDeviceR w.heap okAll A1 p0) (hl1 : p0.length ≤ c_1) (hs2 : Sl kDeviceR w.heap okAll A2 p1) (hl2 : p1.length ≤ c_2) (H : hermitageref0_EqDevices.f k p0 p1 = some r) :
    Calls Tryz.prog 41 #[.slice A1 p0.length c_1, .slice A2 p1.length c_2] w fun e w' => e = .returned (.bool r) ∧ Ext w w' := by
 have h1 : Sl kDeviceR w.heap (okL [(0, some w.heap.size, none)]) A1 p0 := hs1.old _ rfl
 have h2 : Sl kDeviceR w.heap (okL [(0, some w.heap.size, none)]) A2 p1 := hs2.old _ rfl
 have x0 : Ext w w := Upd.refl _ w
 unfold hermitageref0_EqDevices.f at H
 refine calls_start Tryz.func41 rfl 27 rfl [.slice A1 p0.length c_1, .slice A2 p1.length c_2] rfl ?_
 refine CW.seq (CW.lw 1 rfl (pu 1 rfl (RW.done (NW.next ?_))))
 refine CW.seq (CW.seq (CW.lw 5 rfl (pu 5 rfl (RW.done ?_))))
 refine NW.next ?_
 by_cases c1 : (p0.length : Int) = (p1.length : Int)
 ·rw [if_pos c1] at H
  refine CW.cond_f rfl (bne_f c1) (CW.skip (NW.next (CW.seq (CW.seq ?_))))
  refine CW.lw 1 rfl (pu 1 rfl (RW.done (NW.next (CW.block ?_))))
  refine CW.loop (fun n1 a w1 => ∃ (it5_0 : Int), Sat 27 [(0, .slice A1 p0.length c_1), (1, .slice A2 p1.length c_2), (5, iv it5_0)] a ∧ w.heap.size ≤ w1.heap.size ∧ Ext w w1 ∧ hermitageref0_EqDevices.l0 p0 p1 k n1 it5_0 = some r) k ?_ ?_
  ·exact fun a ha => ⟨0, ha.sb, by omega, x0, H⟩
  intro n1 a w1 hI hp
  obtain ⟨it5_0, hS, hle, x0_0, H⟩ := hI
  cases n1 with
  | zero => cases H
  | succ n1 =>
   rw [hermitageref0_EqDevices.l0] at H
   refine CW.go hp hS (CW.seq (CW.seq (CW.lw 4 rfl (pu 4 rfl ?_))))
   refine RW.done (NW.next ?_)
   by_cases c2 : it5_0 < (p0.length : Int)
   ·rw [if_pos c2] at H
    refine CW.cond_t rfl (decide_eq_true c2) (CW.skip (NW.next (CW.seq (CW.block ?_))))
    refine CW.seq (CW.ord [0, 0, 3, 7, 0, 0, 48, 112, 255, 511] (ofL [(0, .W), (1, .W), (2, .W), (4, .W), (5, .W), (6, .W), (3, .L), (7, .L), (8, .X), (9, .W)] .nil) mixed (by kernel_rfl) ?_)
    intro w2 x1
    have sx1 := x1.size
    refine pu 2 rfl ?_
    obtain ⟨g1, H⟩ := guard_some H
    have h3 := (h1.ext x0_0).ext x1
    obtain ⟨ad1, A3, c_3, A4, c_4, e1, a1, l1, h4, l2, h5⟩ := kDeviceR_at h3 g1.1 g1.2
    refine RW.ix tk g1 e1 ?_
    refine pu 2 rfl ?_
    obtain ⟨g2, H⟩ := guard_some H
    have h6 := (h2.ext x0_0).ext x1
    obtain ⟨ad2, A5, c_5, A6, c_6, e2, a2, l3, h7, l4, h8⟩ := kDeviceR_at h6 g2.1 g2.2
    refine RW.ix tk g2 e2 ?_
    refine RW.ld tk [iv ((rd p0 it5_0).ID), iv ((rd p0 it5_0).Size), .slice A3 ((rd p0 it5_0).Free).length c_3, .slice A4 ((rd p0 it5_0).Late).length c_4] a1 ?_
    refine RW.ld tk [iv ((rd p1 it5_0).ID), iv ((rd p1 it5_0).Size), .slice A5 ((rd p1 it5_0).Free).length c_5, .slice A6 ((rd p1 it5_0).Late).length c_6] a2 ?_
    obtain ⟨y1, h9, H⟩ := bind_some H
    refine RW.cl ent65 (hermitageref0_EqDevice.calls k (rd p0 it5_0) A3 c_3 A4 c_4 (rd p1 it5_0) A5 c_5 A6 c_6 _ _ h4.all l1 h5.all l2 h7.all l3 h8.all l4 h9) ?_
    rintro _ w3 ⟨rfl, x2⟩
    refine ⟨_, rfl, x2, ?_⟩
    have sx2 := x2.size
    refine pu 1 rfl (RW.done (NW.next ?_))
    have j1 := (x0_0.tr x1).tr x2
    by_cases c3 : y1 = true
    ·rw [if_pos c3] at H
     refine CW.cond_f rfl (not_f (c3)) (CW.skip ?_)
     refine NW.norm_block (NW.next ?_)
     refine CW.lw 3 rfl (pu 3 rfl (RW.done ?_))
     exact NW.J fun a ha => ⟨n1, Nat.lt_succ_self n1, (w64 (it5_0 + 1)), ha.sb, by omega, j1, H⟩
    rw [if_neg c3] at H
    refine CW.cond_t rfl (not_t (bool_f c3)) (CW.seq (CW.lw 1 rfl (pu 1 rfl (RW.done ?_))))
    refine NW.next (CW.ret ?_)
    refine NW.ret_block (NW.ret_then (NW.ret_then (NW.ret_block (NW.ret_then ?_))))
    obtain rfl := Option.some.inj H
    exact NW.ret1 rfl (by rfl) ⟨rfl, j1⟩
   rw [if_neg c2] at H
   refine CW.cond_f rfl (decide_eq_false c2) (CW.exit ?_)
   refine NW.exit_then (NW.exit_then (NW.exit_hit ?_))
   refine NW.next (CW.seq (CW.lw 1 rfl (pu 1 rfl (RW.done ?_))))
   refine NW.next (CW.ret ?_)
   obtain rfl := Option.some.inj H
   exact NW.ret1 rfl (by rfl) ⟨rfl, x0_0⟩
 rw [if_neg c1] at H
 refine CW.cond_t rfl (bne_t c1) (CW.seq (CW.lw 1 rfl (pu 1 rfl (RW.done ?_))))
 refine NW.next (CW.ret (NW.ret_then ?_))
 obtain rfl := Option.some.inj H
 exact NW.ret1 rfl (by rfl) ⟨rfl, x0⟩
theorem hermitageref0_EqTables.calls (k : Nat) (A1 : Option Addr) (c_1 : Nat) (p0 : List Table) (A2 : Option Addr) (c_2 : Nat) (p1 : List Table) (r : Bool) (w : World) (hs1 : Sl kTableR w.heap okAll A1 p0) (hl1 : p0.length ≤ c_1) (hs2 : Sl kTableR w.heap okAll A2 p1) (hl2 : p1.length ≤ c_2) (H : hermitageref0_EqTables.f k p0 p1 = some r) :
    Calls Tryz.prog 42 #[.slice A1 p0.length c_1, .slice A2 p1.length c_2] w fun e w' => e = .returned (.bool r) ∧ Ext w w' := by
 have h1 : Sl kTableR w.heap (okL [(0, some w.heap.size, none)]) A1 p0 := hs1.old _ rfl
 have h2 : Sl kTableR w.heap (okL [(0, some w.heap.size, none)]) A2 p1 := hs2.old _ rfl
 have x0 : Ext w w := Upd.refl _ w
 unfold hermitageref0_EqTables.f at H
 refine calls_start Tryz.func42 rfl 27 rfl [.slice A1 p0.length c_1, .slice A2 p1.length c_2] rfl ?_
 refine CW.seq (CW.lw 1 rfl (pu 1 rfl (RW.done (NW.next ?_))))
 refine CW.seq (CW.seq (CW.lw 5 rfl (pu 5 rfl (RW.done ?_))))
 refine NW.next ?_
 by_cases c1 : (p0.length : Int) = (p1.length : Int)
 ·rw [if_pos c1] at H
  refine CW.cond_f rfl (bne_f c1) (CW.skip (NW.next (CW.seq (CW.seq ?_))))
  refine CW.lw 1 rfl (pu 1 rfl (RW.done (NW.next (CW.block ?_))))
  refine CW.loop (fun n1 a w1 => ∃ (it5_0 : Int), Sat 27 [(0, .slice A1 p0.length c_1), (1, .slice A2 p1.length c_2), (5, iv it5_0)] a ∧ w.heap.size ≤ w1.heap.size ∧ Ext w w1 ∧ hermitageref0_EqTables.l0 p0 p1 k n1 it5_0 = some r) k ?_ ?_
  ·exact fun a ha => ⟨0, ha.sb, by omega, x0, H⟩
  intro n1 a w1 hI hp
  obtain ⟨it5_0, hS, hle, x0_0, H⟩ := hI
  cases n1 with
  | zero => cases H
  | succ n1 =>
   rw [hermitageref0_EqTables.l0] at H
   refine CW.go hp hS (CW.seq (CW.seq (CW.lw 4 rfl (pu 4 rfl ?_))))
   refine RW.done (NW.next ?_)
   by_cases c2 : it5_0 < (p0.length : Int)
   ·rw [if_pos c2] at H
    refine CW.cond_t rfl (decide_eq_true c2) (CW.skip (NW.next (CW.seq (CW.block ?_))))
    refine CW.seq (CW.ord [0, 0, 3, 7, 0, 0, 48, 112, 255, 511] (ofL [(0, .W), (1, .W), (2, .W), (4, .W), (5, .W), (6, .W), (3, .L), (7, .L), (8, .X), (9, .W)] .nil) mixed (by kernel_rfl) ?_)
    intro w2 x1
    have sx1 := x1.size
    refine pu 2 rfl ?_
    obtain ⟨g1, H⟩ := guard_some H
    have h3 := (h1.ext x0_0).ext x1
    obtain ⟨ad1, A3, c_3, e1, a1, l1, h4⟩ := kTableR_at h3 g1.1 g1.2
    refine RW.ix tk g1 e1 ?_
    refine pu 2 rfl ?_
    obtain ⟨g2, H⟩ := guard_some H
    have h5 := (h2.ext x0_0).ext x1
    obtain ⟨ad2, A4, c_4, e2, a2, l2, h6⟩ := kTableR_at h5 g2.1 g2.2
    refine RW.ix tk g2 e2 ?_
    refine RW.ld tk [iv ((rd p0 it5_0).Dev), iv ((rd p0 it5_0).Size), .slice A3 ((rd p0 it5_0).List_).length c_3] a1 ?_
    refine RW.ld tk [iv ((rd p1 it5_0).Dev), iv ((rd p1 it5_0).Size), .slice A4 ((rd p1 it5_0).List_).length c_4] a2 ?_
    obtain ⟨y1, h7, H⟩ := bind_some H
    refine RW.cl ent43 (hermitageref0_EqTable.calls k (rd p0 it5_0) A3 c_3 (rd p1 it5_0) A4 c_4 _ _ h4.all l1 h6.all l2 h7) ?_
    rintro _ w3 ⟨rfl, x2⟩
    refine ⟨_, rfl, x2, ?_⟩
    have sx2 := x2.size
    refine pu 1 rfl (RW.done (NW.next ?_))
    have j1 := (x0_0.tr x1).tr x2
    by_cases c3 : y1 = true
    ·rw [if_pos c3] at H
     refine CW.cond_f rfl (not_f (c3)) (CW.skip ?_)
     refine NW.norm_block (NW.next ?_)
     refine CW.lw 3 rfl (pu 3 rfl (RW.done ?_))
     exact NW.J fun a ha => ⟨n1, Nat.lt_succ_self n1, (w64 (it5_0 + 1)), ha.sb, by omega, j1, H⟩
    rw [if_neg c3] at H
    refine CW.cond_t rfl (not_t (bool_f c3)) (CW.seq (CW.lw 1 rfl (pu 1 rfl (RW.done ?_))))
    refine NW.next (CW.ret ?_)
    refine NW.ret_block (NW.ret_then (NW.ret_then (NW.ret_block (NW.ret_then ?_))))
    obtain rfl := Option.some.inj H
    exact NW.ret1 rfl (by rfl) ⟨rfl, j1⟩
   rw [if_neg c2] at H
   refine CW.cond_f rfl (decide_eq_false c2) (CW.exit ?_)
   refine NW.exit_then (NW.exit_then (NW.exit_hit ?_))
   refine NW.next (CW.seq (CW.lw 1 rfl (pu 1 rfl (RW.done ?_))))
   refine NW.next (CW.ret ?_)
   obtain rfl := Option.some.inj H
   exact NW.ret1 rfl (by rfl) ⟨rfl, x0_0⟩
 rw [if_neg c1] at H
 refine CW.cond_t rfl (bne_t c1) (CW.seq (CW.lw 1 rfl (pu 1 rfl (RW.done ?_))))
 refine NW.next (CW.ret (NW.ret_then ?_))
 obtain rfl := Option.some.inj H
 exact NW.ret1 rfl (by rfl) ⟨rfl, x0⟩
theorem hermitageref0_EqPool.calls (k : Nat) (p0 : Pool) (A1 : Option Addr) (c_1 : Nat) (A2 : Option Addr) (c_2 : Nat) (A3 : Option Addr) (c_3 : Nat) (p1 : Pool) (A4 : Option Addr) (c_4 : Nat) (A5 : Option Addr) (c_5 : Nat) (A6 : Option Addr) (c_6 : Nat) (r : Bool) (w : World) (hs1 : Sl kDeviceR w.heap okAll A1 p0.Devices) (hl1 : p0.Devices.length ≤ c_1) (hs2 : Sl kTableR w.heap okAll A2 p0.Tables) (hl2 : p0.Tables.length ≤ c_2) (hs3 : Sl kEntry w.heap okAll A3 p0.Job.Table.List_) (hl3 : p0.Job.Table.List_.length ≤ c_3) (hs4 : Sl kDeviceR w.heap okAll A4 p1.Devices) (hl4 : p1.Devices.length ≤ c_4) (hs5 : Sl kTableR w.heap okAll A5 p1.Tables) (hl5 : p1.Tables.length ≤ c_5) (hs6 : Sl kEntry w.heap okAll A6 p1.Job.Table.List_) (hl6 : p1.Job.Table.List_.length ≤ c_6) (H : hermitageref0_EqPool.f k p0 p1 = some r) :
    Calls Tryz.prog 14 #[.agg #[.slice A1 p0.Devices.length c_1, .slice A2 p0.Tables.length c_2, iv p0.Job.Dev, iv p0.Job.At, iv p0.Job.Table.Dev, iv p0.Job.Table.Size, .slice A3 p0.Job.Table.List_.length c_3, iv p0.Next], .agg #[.slice A4 p1.Devices.length c_4, .slice A5 p1.Tables.length c_5, iv p1.Job.Dev, iv p1.Job.At, iv p1.Job.Table.Dev, iv p1.Job.Table.Size, .slice A6 p1.Job.Table.List_.length c_6, iv p1.Next]] w fun e w' => e = .returned (.bool r) ∧ Ext w w' := by
 have h1 : Sl kDeviceR w.heap (okL [(0, some w.heap.size, none)]) A1 p0.Devices := hs1.old _ rfl
 have h2 : Sl kTableR w.heap (okL [(0, some w.heap.size, none)]) A2 p0.Tables := hs2.old _ rfl
 have h3 : Sl kEntry w.heap (okL [(0, some w.heap.size, none)]) A3 p0.Job.Table.List_ := hs3.old _ rfl
 have h4 : Sl kDeviceR w.heap (okL [(0, some w.heap.size, none)]) A4 p1.Devices := hs4.old _ rfl
 have h5 : Sl kTableR w.heap (okL [(0, some w.heap.size, none)]) A5 p1.Tables := hs5.old _ rfl
 have h6 : Sl kEntry w.heap (okL [(0, some w.heap.size, none)]) A6 p1.Job.Table.List_ := hs6.old _ rfl
 have x0 : Ext w w := Upd.refl _ w
 unfold hermitageref0_EqPool.f at H
 refine calls_start Tryz.func14 rfl 51 rfl [.agg #[.slice A1 p0.Devices.length c_1, .slice A2 p0.Tables.length c_2, iv p0.Job.Dev, iv p0.Job.At, iv p0.Job.Table.Dev, iv p0.Job.Table.Size, .slice A3 p0.Job.Table.List_.length c_3, iv p0.Next], .agg #[.slice A4 p1.Devices.length c_4, .slice A5 p1.Tables.length c_5, iv p1.Job.Dev, iv p1.Job.At, iv p1.Job.Table.Dev, iv p1.Job.Table.Size, .slice A6 p1.Job.Table.List_.length c_6, iv p1.Next]] rfl ?_
 refine CW.seq (CW.lex [.X, .X, .W] rfl (RW.box (cs := [.slice A1 p0.Devices.length c_1, .slice A2 p0.Tables.length c_2, iv p0.Job.Dev, iv p0.Job.At, iv p0.Job.Table.Dev, iv p0.Job.Table.Size, .slice A3 p0.Job.Table.List_.length c_3, iv p0.Next]) (.inl rfl) ⟨rfl, rfl, rfl, rfl⟩ rfl rfl rfl ?_))
 intro b1 w1 x1 l1 h7
 have sx1 := x1.size
 have ltb1 := h7.lt
 refine RW.box (cs := [.slice A4 p1.Devices.length c_4, .slice A5 p1.Tables.length c_5, iv p1.Job.Dev, iv p1.Job.At, iv p1.Job.Table.Dev, iv p1.Job.Table.Size, .slice A6 p1.Job.Table.List_.length c_6, iv p1.Next]) (.inl rfl) ⟨rfl, rfl, rfl, rfl⟩ rfl rfl rfl ?_
 intro b2 w2 x2 l2 h8
 have sx2 := x2.size
 have ltb2 := h8.lt
 refine pu 1 rfl (RW.done (NW.next (CW.seq (CW.lex [.W, .L, .W, .L, .X, .W, .W, .L, .W, .L, .X, .W, .W, .W, .W, .L, .W, .W, .L, .W, .W, .W, .W, .W, .L, .W, .W, .L, .W, .W, .W, .W, .W, .L, .W, .W, .L, .X, .W, .W, .W, .L, .W, .L, .W, .W, .W] rfl ?_))))
 refine pu 1 rfl ?_
 have h9 := h7.ext x2
 refine RW.lb tk [.slice A1 p0.Devices.length c_1] h9 0 ?_
 refine pu 1 rfl (RW.lb tk [.slice A4 p1.Devices.length c_4] h8 0 ?_)
 have h10 := (h1.ext x1).ext x2
 have h11 := (h4.ext x1).ext x2
 obtain ⟨y1, h12, H⟩ := bind_some H
 refine RW.cl ent41 (hermitageref0_EqDevices.calls k A1 c_1 p0.Devices A4 c_4 p1.Devices _ _ h10.all hl1 h11.all hl4 h12) ?_
 rintro _ w3 ⟨rfl, x3⟩
 refine ⟨_, rfl, x3, ?_⟩
 have sx3 := x3.size
 refine pu 1 rfl ?_
 have j1 := ((x0.tr x1).tr x2).tr x3
 by_cases c1 : y1 = true
 ·rw [if_pos c1] at H
  refine RW.bool 10 (b' := true) (c1) rfl (pu 1 rfl ?_)
  have h13 := h9.ext x3
  refine RW.lb tk [.slice A2 p0.Tables.length c_2] h13 1 ?_
  refine pu 1 rfl ?_
  have h14 := h8.ext x3
  refine RW.lb tk [.slice A5 p1.Tables.length c_5] h14 1 ?_
  have h15 := ((h2.ext x1).ext x2).ext x3
  have h16 := ((h5.ext x1).ext x2).ext x3
  obtain ⟨y2, h17, H⟩ := bind_some H
  refine RW.cl ent42 (hermitageref0_EqTables.calls k A2 c_2 p0.Tables A5 c_5 p1.Tables _ _ h15.all hl2 h16.all hl5 h17) ?_
  rintro _ w4 ⟨rfl, x4⟩
  refine ⟨_, rfl, x4, ?_⟩
  have sx4 := x4.size
  refine pu 2 rfl ?_
  have j2 := j1.tr x4
  by_cases c2 : y2 = true
  ·rw [if_pos c2] at H
   refine RW.bool 17 (b' := true) (c2) rfl (pu 2 rfl ?_)
   have h18 := h13.ext x4
   refine RW.lb tk [iv p0.Job.Dev] h18 2 ?_
   refine pu 2 rfl ?_
   have h19 := h14.ext x4
   refine RW.lb tk [iv p1.Job.Dev] h19 2 ?_
   refine pu 3 rfl ?_
   by_cases c3 : p0.Job.Dev = p1.Job.Dev
   ·rw [if_pos c3] at H
    refine RW.bool 26 (b' := true) (beq_t c3) rfl (pu 2 rfl (RW.lb tk [iv p0.Job.At] h18 3 ?_))
    refine pu 2 rfl (RW.lb tk [iv p1.Job.At] h19 3 ?_)
    refine pu 3 rfl ?_
    by_cases c4 : p0.Job.At = p1.Job.At
    ·rw [if_pos c4] at H
     refine RW.bool 35 (b' := true) (beq_t c4) rfl (pu 2 rfl (RW.lb tk [iv p0.Job.Table.Dev, iv p0.Job.Table.Size, .slice A3 p0.Job.Table.List_.length c_3] h18 4 ?_))
     refine pu 2 rfl (RW.lb tk [iv p1.Job.Table.Dev, iv p1.Job.Table.Size, .slice A6 p1.Job.Table.List_.length c_6] h19 4 ?_)
     have h20 := (((h3.ext x1).ext x2).ext x3).ext x4
     have h21 := (((h6.ext x1).ext x2).ext x3).ext x4
     obtain ⟨y3, h22, H⟩ := bind_some H
     refine RW.cl ent43 (hermitageref0_EqTable.calls k p0.Job.Table A3 c_3 p1.Job.Table A6 c_6 _ _ h20.all hl3 h21.all hl6 h22) ?_
     rintro _ w5 ⟨rfl, x5⟩
     refine ⟨_, rfl, x5, ?_⟩
     have sx5 := x5.size
     refine pu 2 rfl ?_
     have j3 := j2.tr x5
     by_cases c5 : y3 = true
     ·rw [if_pos c5] at H
      refine RW.bool 44 (b' := true) (c5) rfl (pu 1 rfl ?_)
      have h23 := h18.ext x5
      refine RW.ld tk [iv p0.Next] (h23.at 7) ?_
      refine pu 1 rfl ?_
      have h24 := h19.ext x5
      refine RW.ld tk [iv p1.Next] (h24.at 7) ?_
      refine pu 3 rfl (RW.done (NW.next (CW.ret ?_)))
      obtain rfl := Option.some.inj H
      exact NW.ret1 rfl (by rfl) ⟨rfl, j3⟩
     rw [if_neg c5] at H
     refine RW.bool 44 (b' := false) (bool_f c5) rfl (pu 7 rfl (RW.done (NW.next (CW.ret ?_))))
     obtain rfl := Option.some.inj H
     exact NW.ret1 rfl (by rfl) ⟨rfl, j3⟩
    rw [if_neg c4] at H
    refine RW.bool 35 (b' := false) (beq_f c4) rfl (pu 16 rfl (RW.done (NW.next (CW.ret ?_))))
    obtain rfl := Option.some.inj H
    exact NW.ret1 rfl (by rfl) ⟨rfl, j2⟩
   rw [if_neg c3] at H
   refine RW.bool 26 (b' := false) (beq_f c3) rfl (pu 25 rfl (RW.done (NW.next (CW.ret ?_))))
   obtain rfl := Option.some.inj H
   exact NW.ret1 rfl (by rfl) ⟨rfl, j2⟩
  rw [if_neg c2] at H
  refine RW.bool 17 (b' := false) (bool_f c2) rfl (pu 34 rfl (RW.done (NW.next (CW.ret ?_))))
  obtain rfl := Option.some.inj H
  exact NW.ret1 rfl (by rfl) ⟨rfl, j2⟩
 rw [if_neg c1] at H
 refine RW.bool 10 (b' := false) (bool_f c1) rfl (pu 41 rfl (RW.done (NW.next (CW.ret ?_))))
 obtain rfl := Option.some.inj H
 exact NW.ret1 rfl (by rfl) ⟨rfl, j1⟩
theorem hermitageref0_CopySegs.calls (k : Nat) (A1 : Option Addr) (c_1 : Nat) (p0 : List Seg) (r : (List Seg)) (w : World) (hs1 : Sl kSeg w.heap okAll A1 p0) (hl1 : p0.length ≤ c_1) (H : hermitageref0_CopySegs.f k p0 = some r) :
    Calls Tryz.prog 127 #[.slice A1 p0.length c_1] w fun e w' => ∃ (B1 : Option Addr) (d1 : Nat), e = .returned (.slice B1 r.length d1) ∧ Ext w w' ∧ Ow kSeg 105 w'.heap (okL [(w.heap.size, none, some 105)]) (okL []) B1 d1 r := by
 have h1 : Sl kSeg w.heap (okL [(0, some w.heap.size, none)]) A1 p0 := hs1.old _ rfl
 have x0 : Ext w w := Upd.refl _ w
 unfold hermitageref0_CopySegs.f at H
 refine calls_start Tryz.func127 rfl 19 rfl [.slice A1 p0.length c_1] rfl ?_
 refine CW.seq (CW.lw 1 rfl (pu 1 rfl (RW.done (NW.next ?_))))
 refine CW.seq (CW.lw 1 rfl (pu 1 rfl (RW.done (NW.next ?_))))
 refine CW.seq (CW.seq (CW.lw 1 rfl (pu 1 rfl (RW.done ?_))))
 refine NW.next (CW.block ?_)
 refine CW.loop (fun n1 a w1 => ∃ (lt3_0 : List Seg) (At3_0 : Option Addr) (ct3_0 : Nat) (it4_0 : Int), Sat 19 [(0, .slice A1 p0.length c_1), (3, .slice At3_0 lt3_0.length ct3_0), (4, iv it4_0)] a ∧ w.heap.size ≤ w1.heap.size ∧ Ow kSeg 105 w1.heap (okL [(w.heap.size, none, some 105)]) (okL []) At3_0 ct3_0 lt3_0 ∧ Ext w w1 ∧ hermitageref0_CopySegs.l0 p0 n1 lt3_0 it4_0 = some r) k ?_ ?_
 ·exact fun a ha => ⟨([] : List Seg), none, 0, 0, ha.sb, by omega, Ow.nil, x0, H⟩
 intro n1 a w1 hI hp
 obtain ⟨lt3_0, At3_0, ct3_0, it4_0, hS, hle, ft3_0, x0_0, H⟩ := hI
 cases n1 with
 | zero => cases H
 | succ n1 =>
  rw [hermitageref0_CopySegs.l0] at H
  refine CW.go hp hS ?_
  have h2 : Ow kSeg 105 w1.heap (okL [(w.heap.size, some w1.heap.size, some 105)]) (okL []) At3_0 ct3_0 lt3_0 := ft3_0.close
  have xt1 : Ext w1 w1 := Upd.refl _ _
  refine CW.seq (CW.seq (CW.lw 4 rfl (pu 4 rfl (RW.done ?_))))
  refine NW.next ?_
  by_cases c1 : it4_0 < (p0.length : Int)
  ·rw [if_pos c1] at H
   refine CW.cond_t rfl (decide_eq_true c1) (CW.skip (NW.next (CW.seq (CW.block ?_))))
   refine CW.lex [.W, .W, .W, .W, .L, .X, .M, .W] rfl (pu 3 rfl ?_)
   obtain ⟨g1, H⟩ := guard_some H
   obtain ⟨ad1, e1, a1⟩ := kSeg_at (h1.ext x0_0) g1.1 g1.2
   refine RW.ix tk g1 e1 ?_
   refine RW.ld tk [iv ((rd p0 it4_0).At), iv ((rd p0 it4_0).Len)] a1 ?_
   refine RW.buildSlice (cs := [iv ((rd p0 it4_0).At), iv ((rd p0 it4_0).Len)]) tk (.inl rfl) ⟨rfl, rfl, rfl, rfl⟩ rfl rfl rfl rfl rfl rfl rfl ?_
   intro b1 w2 x1 l1 h3
   have sx1 := x1.size
   have ltb1 := h3.lt
   have h4 := h2.ext x1
   obtain ⟨g2, H⟩ := guard_some H
   refine RW.append1L (d := kSeg) (v := (rd p0 it4_0)) (l := [(w.heap.size, some w1.heap.size, some 105)]) (li := []) (ly := []) (xs := lt3_0) tk h4 h3 (kSeg_mk (rd p0 it4_0)) trivial (by simp only [maxLen]; omega) g2 ⟨rfl, rfl, rfl, rfl⟩ rfl rfl rfl rfl rfl rfl rfl ?_
   intro A2 c_2 w3 x2 h5
   have sx2 := x2.size
   have h6 := h5.close.sub (l' := [(w.heap.size, some w3.heap.size, some 105)]) (li' := []) ⟨(.inl ⟨by omega, by omega, rfl⟩), ⟨(.inl ⟨by omega, by omega, rfl⟩), trivial⟩⟩ trivial
   refine pu 1 rfl (RW.done ?_)
   refine NW.norm_block (NW.next ?_)
   refine CW.lw 3 rfl (pu 3 rfl (RW.done ?_))
   have h7 := Ext.turn (x0_0.tr x1) x2 ⟨by omega, trivial⟩
   exact NW.J fun a ha => ⟨n1, Nat.lt_succ_self n1, (lt3_0 ++ [(rd p0 it4_0)]), A2, c_2, (w64 (it4_0 + 1)), ha.sb, by omega, (h6.sb), h7, H⟩
  rw [if_neg c1] at H
  refine CW.cond_f rfl (decide_eq_false c1) (CW.exit ?_)
  refine NW.exit_then (NW.exit_then (NW.exit_hit ?_))
  refine NW.next (CW.seq (CW.lw 2 rfl (pu 2 rfl (RW.done ?_))))
  refine NW.next (CW.ret ?_)
  obtain rfl := Option.some.inj H
  exact NW.ret1 rfl (by rfl) ⟨At3_0, ct3_0, rfl, x0_0, (h2.sub (l' := [(w.heap.size, none, some 105)]) (li' := []) ⟨(.inl ⟨by omega, trivial, rfl⟩), trivial⟩ trivial)⟩
theorem hermitageref0_CopyDevice.calls (k : Nat) (p0 : Device) (A1 : Option Addr) (c_1 : Nat) (A2 : Option Addr) (c_2 : Nat) (r : Device) (w : World) (hs1 : Sl kSeg w.heap okAll A1 p0.Free) (hl1 : p0.Free.length ≤ c_1) (hs2 : Sl kSeg w.heap okAll A2 p0.Late) (hl2 : p0.Late.length ≤ c_2) (H : hermitageref0_CopyDevice.f k p0 = some r) :
    Calls Tryz.prog 92 #[.agg #[iv p0.ID, iv p0.Size, .slice A1 p0.Free.length c_1, .slice A2 p0.Late.length c_2]] w fun e w' => ∃ (B1 : Option Addr) (d1 : Nat) (B2 : Option Addr) (d2 : Nat), e = .returned (.agg #[iv r.ID, iv r.Size, .slice B1 r.Free.length d1, .slice B2 r.Late.length d2]) ∧ Ext w w' ∧ Ow kSeg 105 w'.heap (okL [(w.heap.size, none, some 105)]) (okL []) B1 d1 r.Free ∧ Ow kSeg 105 w'.heap (okL [(w.heap.size, none, some 105)]) (okL []) B2 d2 r.Late := by
 have h1 : Sl kSeg w.heap (okL [(0, some w.heap.size, none)]) A1 p0.Free := hs1.old _ rfl
 have h2 : Sl kSeg w.heap (okL [(0, some w.heap.size, none)]) A2 p0.Late := hs2.old _ rfl
 have x0 : Ext w w := Upd.refl _ w
 unfold hermitageref0_CopyDevice.f at H
 refine calls_start Tryz.func92 rfl 14 rfl [.agg #[iv p0.ID, iv p0.Size, .slice A1 p0.Free.length c_1, .slice A2 p0.Late.length c_2]] rfl ?_
 refine CW.seq (CW.lex [.X, .X] rfl (RW.box (cs := [iv p0.ID, iv p0.Size, .slice A1 p0.Free.length c_1, .slice A2 p0.Late.length c_2]) (.inl rfl) ⟨rfl, rfl, rfl, rfl⟩ rfl rfl rfl ?_))
 intro b1 w1 x1 l1 h3
 have sx1 := x1.size
 have ltb1 := h3.lt
 refine RW.alloc tk (.inl rfl) ⟨rfl, rfl, rfl, rfl⟩ rfl rfl ?_
 intro b2 w2 x2 l2 h4
 have sx2 := x2.size
 have ltb2 := h4.lt
 refine RW.done (NW.next (CW.seq (CW.lex [.L, .X, .M] rfl ?_)))
 have h5 := h3.ext x2
 refine RW.ld tk [iv p0.ID, iv p0.Size, .slice A1 p0.Free.length c_1, .slice A2 p0.Late.length c_2] (h5.at 0) ?_
 refine RW.alloc tk (.inl rfl) ⟨rfl, rfl, rfl, rfl⟩ rfl rfl ?_
 intro b3 w3 x3 l3 h6
 have sx3 := x3.size
 have ltb3 := h6.lt
 refine RW.sb tk h6 [iv p0.ID, iv p0.Size, .slice A1 p0.Free.length c_1, .slice A2 p0.Late.length c_2] ?_
 intro w4 x4 h7
 have h8 : Box w4.heap b3 40 [iv p0.ID, iv p0.Size, .slice A1 p0.Free.length c_1, .slice A2 p0.Late.length c_2] := h7
 have sx4 := x4.size
 refine RW.done (NW.next (CW.seq (CW.lex [.W, .L, .X, .W, .M] rfl (pu 1 rfl ?_))))
 have h9 := (h5.ext x3).tB x4
 refine RW.lb tk [.slice A1 p0.Free.length c_1] h9 2 ?_
 have h10 := (((h1.ext x1).ext x2).ext x3).turnB x4 h6 ⟨.inr (by omega), trivial⟩
 obtain ⟨y1, h11, H⟩ := bind_some H
 refine RW.cl ent127 (hermitageref0_CopySegs.calls k A1 c_1 p0.Free _ _ h10.all hl1 h11) ?_
 rintro _ w5 ⟨A3, c_3, rfl, x5, h12⟩
 refine ⟨_, rfl, x5, ?_⟩
 have sx5 := x5.size
 have h13 : Ow kSeg 105 w5.heap (okL [(w4.heap.size, some w5.heap.size, some 105)]) (okL []) A3 c_3 y1 := h12.close
 refine pu 1 rfl ?_
 have h14 := h8.ext x5
 refine RW.sb tk h14 [.slice A3 y1.length c_3] ?_
 intro w6 x6 h15
 have h16 : Box w6.heap b3 40 [iv p0.ID, iv p0.Size, .slice A3 y1.length c_3, .slice A2 p0.Late.length c_2] := h15
 have sx6 := x6.size
 refine RW.done (NW.next (CW.seq (CW.lex [.W, .L, .X, .W, .M] rfl (pu 1 rfl ?_))))
 have h17 := (h9.ext x5).tB x6
 refine RW.ld tk [.slice A2 p0.Late.length c_2] (h17.at 3) ?_
 have h18 := (((((h2.ext x1).ext x2).ext x3).turnB x4 h6 ⟨.inr (by omega), trivial⟩).ext x5).turnB x6 h14 ⟨.inr (by omega), trivial⟩
 obtain ⟨y2, h19, H⟩ := bind_some H
 refine RW.cl ent127 (hermitageref0_CopySegs.calls k A2 c_2 p0.Late _ _ h18.all hl2 h19) ?_
 rintro _ w7 ⟨A4, c_4, rfl, x7, h20⟩
 refine ⟨_, rfl, x7, ?_⟩
 have sx7 := x7.size
 have h21 : Ow kSeg 105 w7.heap (okL [(w6.heap.size, some w7.heap.size, some 105)]) (okL []) A4 c_4 y2 := h20.close
 refine pu 1 rfl ?_
 have h22 := h16.ext x7
 refine RW.sb tk h22 [.slice A4 y2.length c_4] ?_
 intro w8 x8 h23
 have h24 : Box w8.heap b3 40 [iv p0.ID, iv p0.Size, .slice A3 y1.length c_3, .slice A4 y2.length c_4] := h23
 have sx8 := x8.size
 refine RW.done (NW.next (CW.seq (CW.lex [.L, .M] rfl (RW.ld tk [iv p0.ID, iv p0.Size, .slice A3 y1.length c_3, .slice A4 y2.length c_4] (h24.at 0) ?_))))
 have h25 := (((((h4.ext x3).tB x4).ext x5).tB x6).ext x7).tB x8
 refine RW.sb tk h25 [iv p0.ID, iv p0.Size, .slice A3 y1.length c_3, .slice A4 y2.length c_4] ?_
 intro w9 x9 h26
 have h27 : Box w9.heap b2 40 [iv p0.ID, iv p0.Size, .slice A3 y1.length c_3, .slice A4 y2.length c_4] := h26
 have sx9 := x9.size
 refine RW.done (NW.next (CW.ret ?_))
 have h28 := (((h13.tB x6 h14).ext x7).tB x8 h22).tB x9 h25
 have h29 := (h21.tB x8 h22).tB x9 h25
 obtain rfl := Option.some.inj H
 have h30 := ((((((((x0.tr x1).tr x2).tr x3).tB x4).tr x5).tB x6).tr x7).tB x8).tB x9
 exact NW.ret1 rfl (resOne_cell tk (h27.at 0) rfl rfl rfl) ⟨A3, c_3, A4, c_4, rfl, h30, (h28.sub (l' := [(w.heap.size, none, some 105)]) (li' := []) ⟨(.inl ⟨by omega, trivial, rfl⟩), trivial⟩ trivial), (h29.sub (l' := [(w.heap.size, none, some 105)]) (li' := []) ⟨(.inl ⟨by omega, trivial, rfl⟩), trivial⟩ trivial)⟩
theorem hermitageref0_CopyDevices.calls (k : Nat) (A1 : Option Addr) (c_1 : Nat) (p0 : List Device) (r : (List Device)) (w : World) (hs1 : Sl kDeviceR w.heap okAll A1 p0) (hl1 : p0.length ≤ c_1) (H : hermitageref0_CopyDevices.f k p0 = some r) :
    Calls Tryz.prog 67 #[.slice A1 p0.length c_1] w fun e w' => ∃ (B1 : Option Addr) (d1 : Nat), e = .returned (.slice B1 r.length d1) ∧ Ext w w' ∧ Ow kDeviceO 40 w'.heap (okL [(w.heap.size, none, some 40)]) (okL [(w.heap.size, none, some 105)]) B1 d1 r := by
 have h1 : Sl kDeviceR w.heap (okL [(0, some w.heap.size, none)]) A1 p0 := hs1.old _ rfl
 have x0 : Ext w w := Upd.refl _ w
 unfold hermitageref0_CopyDevices.f at H
 refine calls_start Tryz.func67 rfl 20 rfl [.slice A1 p0.length c_1] rfl ?_
 refine CW.seq (CW.lw 1 rfl (pu 1 rfl (RW.done (NW.next ?_))))
 refine CW.seq (CW.lw 1 rfl (pu 1 rfl (RW.done (NW.next ?_))))
 refine CW.seq (CW.seq (CW.lw 1 rfl (pu 1 rfl (RW.done ?_))))
 refine NW.next (CW.block ?_)
 refine CW.loop (fun n1 a w1 => ∃ (lt3_0 : List Device) (At3_0 : Option Addr) (ct3_0 : Nat) (it4_0 : Int), Sat 20 [(0, .slice A1 p0.length c_1), (3, .slice At3_0 lt3_0.length ct3_0), (4, iv it4_0)] a ∧ w.heap.size ≤ w1.heap.size ∧ Ow kDeviceO 40 w1.heap (okL [(w.heap.size, none, some 40)]) (okL [(w.heap.size, none, some 105)]) At3_0 ct3_0 lt3_0 ∧ Ext w w1 ∧ hermitageref0_CopyDevices.l0 p0 k n1 lt3_0 it4_0 = some r) k ?_ ?_
 ·exact fun a ha => ⟨([] : List Device), none, 0, 0, ha.sb, by omega, Ow.nil, x0, H⟩
 intro n1 a w1 hI hp
 obtain ⟨lt3_0, At3_0, ct3_0, it4_0, hS, hle, ft3_0, x0_0, H⟩ := hI
 cases n1 with
 | zero => cases H
 | succ n1 =>
  rw [hermitageref0_CopyDevices.l0] at H
  refine CW.go hp hS ?_
  have h2 : Ow kDeviceO 40 w1.heap (okL [(w.heap.size, some w1.heap.size, some 40)]) (okL [(w.heap.size, some w1.heap.size, some 105)]) At3_0 ct3_0 lt3_0 := ft3_0.close
  have xt1 : Ext w1 w1 := Upd.refl _ _
  refine CW.seq (CW.seq (CW.lw 4 rfl (pu 4 rfl (RW.done ?_))))
  refine NW.next ?_
  by_cases c1 : it4_0 < (p0.length : Int)
  ·rw [if_pos c1] at H
   refine CW.cond_t rfl (decide_eq_true c1) (CW.skip (NW.next (CW.seq (CW.block ?_))))
   refine CW.lex [.W, .W, .W, .W, .L, .X, .X, .M, .W] rfl (pu 3 rfl ?_)
   obtain ⟨g1, H⟩ := guard_some H
   obtain ⟨ad1, A2, c_2, A3, c_3, e1, a1, l1, h3, l2, h4⟩ := kDeviceR_at (h1.ext x0_0) g1.1 g1.2
   refine RW.ix tk g1 e1 ?_
   refine RW.ld tk [iv ((rd p0 it4_0).ID), iv ((rd p0 it4_0).Size), .slice A2 ((rd p0 it4_0).Free).length c_2, .slice A3 ((rd p0 it4_0).Late).length c_3] a1 ?_
   obtain ⟨y1, h5, H⟩ := bind_some H
   refine RW.cl ent92 (hermitageref0_CopyDevice.calls k (rd p0 it4_0) A2 c_2 A3 c_3 _ _ h3.all l1 h4.all l2 h5) ?_
   rintro _ w2 ⟨A4, c_4, A5, c_5, rfl, x1, h6, h7⟩
   refine ⟨_, rfl, x1, ?_⟩
   have sx1 := x1.size
   have h8 : Ow kSeg 105 w2.heap (okL [(w1.heap.size, some w2.heap.size, some 105)]) (okL []) A4 c_4 y1.Free := h6.close
   have h9 : Ow kSeg 105 w2.heap (okL [(w1.heap.size, some w2.heap.size, some 105)]) (okL []) A5 c_5 y1.Late := h7.close
   refine RW.buildSlice (cs := [iv y1.ID, iv y1.Size, .slice A4 y1.Free.length c_4, .slice A5 y1.Late.length c_5]) tk (.inl rfl) ⟨rfl, rfl, rfl, rfl⟩ rfl rfl rfl rfl rfl rfl rfl ?_
   intro b1 w3 x2 l3 h10
   have sx2 := x2.size
   have ltb1 := h10.lt
   have h11 := (h2.ext x1).ext x2
   have h12 := h8.ext x2
   have h13 := h9.ext x2
   obtain ⟨g2, H⟩ := guard_some H
   refine RW.append1L (d := kDeviceO) (v := y1) (l := [(w.heap.size, some w1.heap.size, some 40)]) (li := [(w.heap.size, some w1.heap.size, some 105)]) (ly := [(w1.heap.size, some w2.heap.size, some 105)]) (xs := lt3_0) tk h11 h10 (kDeviceO_mk y1 (h12.sub (l' := [(w1.heap.size, some w2.heap.size, some 105)]) (li' := [(w1.heap.size, some w2.heap.size, some 105)]) ⟨(.inl ⟨by omega, by omega, rfl⟩), trivial⟩ trivial) (h13.sub (l' := [(w1.heap.size, some w2.heap.size, some 105)]) (li' := [(w1.heap.size, some w2.heap.size, some 105)]) ⟨(.inl ⟨by omega, by omega, rfl⟩), trivial⟩ trivial)) ⟨⟨.inl (nq rfl), trivial⟩, trivial⟩ (by simp only [maxLen]; omega) g2 ⟨rfl, rfl, rfl, rfl⟩ rfl rfl rfl rfl rfl rfl rfl ?_
   intro A6 c_6 w4 x3 h14
   have sx3 := x3.size
   have h15 := h14.close.sub (l' := [(w.heap.size, some w4.heap.size, some 40)]) (li' := [(w.heap.size, some w2.heap.size, some 105)]) ⟨(.inl ⟨by omega, by omega, rfl⟩), ⟨(.inl ⟨by omega, by omega, rfl⟩), trivial⟩⟩ ⟨(.inl ⟨by omega, by omega, rfl⟩), ⟨(.inl ⟨by omega, by omega, rfl⟩), trivial⟩⟩
   refine pu 1 rfl (RW.done ?_)
   refine NW.norm_block (NW.next ?_)
   refine CW.lw 3 rfl (pu 3 rfl (RW.done ?_))
   have h16 := Ext.turn ((x0_0.tr x1).tr x2) x3 ⟨by omega, trivial⟩
   exact NW.J fun a ha => ⟨n1, Nat.lt_succ_self n1, (lt3_0 ++ [y1]), A6, c_6, (w64 (it4_0 + 1)), ha.sb, by omega, (h15.sb), h16, H⟩
  rw [if_neg c1] at H
  refine CW.cond_f rfl (decide_eq_false c1) (CW.exit ?_)
  refine NW.exit_then (NW.exit_then (NW.exit_hit ?_))
  refine NW.next (CW.seq (CW.lw 2 rfl (pu 2 rfl (RW.done ?_))))
  refine NW.next (CW.ret ?_)
  obtain rfl := Option.some.inj H
  exact NW.ret1 rfl (by rfl) ⟨At3_0, ct3_0, rfl, x0_0, (h2.sub (l' := [(w.heap.size, none, some 40)]) (li' := [(w.heap.size, none, some 105)]) ⟨(.inl ⟨by omega, trivial, rfl⟩), trivial⟩ ⟨(.inl ⟨by omega, trivial, rfl⟩), trivial⟩)⟩
theorem hermitageref0_CopyEntries.calls (k : Nat) (A1 : Option Addr) (c_1 : Nat) (p0 : List Entry) (r : (List Entry)) (w : World) (hs1 : Sl kEntry w.heap okAll A1 p0) (hl1 : p0.length ≤ c_1) (H : hermitageref0_CopyEntries.f k p0 = some r) :
    Calls Tryz.prog 93 #[.slice A1 p0.length c_1] w fun e w' => ∃ (B1 : Option Addr) (d1 : Nat), e = .returned (.slice B1 r.length d1) ∧ Ext w w' ∧ Ow kEntry 66 w'.heap (okL [(w.heap.size, none, some 66)]) (okL []) B1 d1 r := by
 have h1 : Sl kEntry w.heap (okL [(0, some w.heap.size, none)]) A1 p0 := hs1.old _ rfl
 have x0 : Ext w w := Upd.refl _ w
 unfold hermitageref0_CopyEntries.f at H
 refine calls_start Tryz.func93 rfl 19 rfl [.slice A1 p0.length c_1] rfl ?_
 refine CW.seq (CW.lw 1 rfl (pu 1 rfl (RW.done (NW.next ?_))))
 refine CW.seq (CW.lw 1 rfl (pu 1 rfl (RW.done (NW.next ?_))))
 refine CW.seq (CW.seq (CW.lw 1 rfl (pu 1 rfl (RW.done ?_))))
 refine NW.next (CW.block ?_)
 refine CW.loop (fun n1 a w1 => ∃ (lt3_0 : List Entry) (At3_0 : Option Addr) (ct3_0 : Nat) (it4_0 : Int), Sat 19 [(0, .slice A1 p0.length c_1), (3, .slice At3_0 lt3_0.length ct3_0), (4, iv it4_0)] a ∧ w.heap.size ≤ w1.heap.size ∧ Ow kEntry 66 w1.heap (okL [(w.heap.size, none, some 66)]) (okL []) At3_0 ct3_0 lt3_0 ∧ Ext w w1 ∧ hermitageref0_CopyEntries.l0 p0 n1 lt3_0 it4_0 = some r) k ?_ ?_
 ·exact fun a ha => ⟨([] : List Entry), none, 0, 0, ha.sb, by omega, Ow.nil, x0, H⟩
 intro n1 a w1 hI hp
 obtain ⟨lt3_0, At3_0, ct3_0, it4_0, hS, hle, ft3_0, x0_0, H⟩ := hI
 cases n1 with
 | zero => cases H
 | succ n1 =>
  rw [hermitageref0_CopyEntries.l0] at H
  refine CW.go hp hS ?_
  have h2 : Ow kEntry 66 w1.heap (okL [(w.heap.size, some w1.heap.size, some 66)]) (okL []) At3_0 ct3_0 lt3_0 := ft3_0.close
  have xt1 : Ext w1 w1 := Upd.refl _ _
  refine CW.seq (CW.seq (CW.lw 4 rfl (pu 4 rfl (RW.done ?_))))
  refine NW.next ?_
  by_cases c1 : it4_0 < (p0.length : Int)
  ·rw [if_pos c1] at H
   refine CW.cond_t rfl (decide_eq_true c1) (CW.skip (NW.next (CW.seq (CW.block ?_))))
   refine CW.lex [.W, .W, .W, .W, .L, .X, .M, .W] rfl (pu 3 rfl ?_)
   obtain ⟨g1, H⟩ := guard_some H
   obtain ⟨ad1, e1, a1⟩ := kEntry_at (h1.ext x0_0) g1.1 g1.2
   refine RW.ix tk g1 e1 ?_
   refine RW.ld tk [iv ((rd p0 it4_0).From), iv ((rd p0 it4_0).Len), iv ((rd p0 it4_0).Dev), iv ((rd p0 it4_0).To), iv ((rd p0 it4_0).Stale)] a1 ?_
   refine RW.buildSlice (cs := [iv ((rd p0 it4_0).From), iv ((rd p0 it4_0).Len), iv ((rd p0 it4_0).Dev), iv ((rd p0 it4_0).To), iv ((rd p0 it4_0).Stale)]) tk (.inl rfl) ⟨rfl, rfl, rfl, rfl⟩ rfl rfl rfl rfl rfl rfl rfl ?_
   intro b1 w2 x1 l1 h3
   have sx1 := x1.size
   have ltb1 := h3.lt
   have h4 := h2.ext x1
   obtain ⟨g2, H⟩ := guard_some H
   refine RW.append1L (d := kEntry) (v := (rd p0 it4_0)) (l := [(w.heap.size, some w1.heap.size, some 66)]) (li := []) (ly := []) (xs := lt3_0) tk h4 h3 (kEntry_mk (rd p0 it4_0)) trivial (by simp only [maxLen]; omega) g2 ⟨rfl, rfl, rfl, rfl⟩ rfl rfl rfl rfl rfl rfl rfl ?_
   intro A2 c_2 w3 x2 h5
   have sx2 := x2.size
   have h6 := h5.close.sub (l' := [(w.heap.size, some w3.heap.size, some 66)]) (li' := []) ⟨(.inl ⟨by omega, by omega, rfl⟩), ⟨(.inl ⟨by omega, by omega, rfl⟩), trivial⟩⟩ trivial
   refine pu 1 rfl (RW.done ?_)
   refine NW.norm_block (NW.next ?_)
   refine CW.lw 3 rfl (pu 3 rfl (RW.done ?_))
   have h7 := Ext.turn (x0_0.tr x1) x2 ⟨by omega, trivial⟩
   exact NW.J fun a ha => ⟨n1, Nat.lt_succ_self n1, (lt3_0 ++ [(rd p0 it4_0)]), A2, c_2, (w64 (it4_0 + 1)), ha.sb, by omega, (h6.sb), h7, H⟩
  rw [if_neg c1] at H
  refine CW.cond_f rfl (decide_eq_false c1) (CW.exit ?_)
  refine NW.exit_then (NW.exit_then (NW.exit_hit ?_))
  refine NW.next (CW.seq (CW.lw 2 rfl (pu 2 rfl (RW.done ?_))))
  refine NW.next (CW.ret ?_)
  obtain rfl := Option.some.inj H
  exact NW.ret1 rfl (by rfl) ⟨At3_0, ct3_0, rfl, x0_0, (h2.sub (l' := [(w.heap.size, none, some 66)]) (li' := []) ⟨(.inl ⟨by omega, trivial, rfl⟩), trivial⟩ trivial)⟩
theorem hermitageref0_CopyTable.calls (k : Nat) (p0 : Table) (A1 : Option Addr) (c_1 : Nat) (r : Table) (w : World) (hs1 : Sl kEntry w.heap okAll A1 p0.List_) (hl1 : p0.List_.length ≤ c_1) (H : hermitageref0_CopyTable.f k p0 = some r) :
    Calls Tryz.prog 69 #[.agg #[iv p0.Dev, iv p0.Size, .slice A1 p0.List_.length c_1]] w fun e w' => ∃ (B1 : Option Addr) (d1 : Nat), e = .returned (.agg #[iv r.Dev, iv r.Size, .slice B1 r.List_.length d1]) ∧ Ext w w' ∧ Ow kEntry 66 w'.heap (okL [(w.heap.size, none, some 66)]) (okL []) B1 d1 r.List_ := by
 have h1 : Sl kEntry w.heap (okL [(0, some w.heap.size, none)]) A1 p0.List_ := hs1.old _ rfl
 have x0 : Ext w w := Upd.refl _ w
 unfold hermitageref0_CopyTable.f at H
 refine calls_start Tryz.func69 rfl 10 rfl [.agg #[iv p0.Dev, iv p0.Size, .slice A1 p0.List_.length c_1]] rfl ?_
 refine CW.seq (CW.lex [.X, .X] rfl (RW.box (cs := [iv p0.Dev, iv p0.Size, .slice A1 p0.List_.length c_1]) (.inl rfl) ⟨rfl, rfl, rfl, rfl⟩ rfl rfl rfl ?_))
 intro b1 w1 x1 l1 h2
 have sx1 := x1.size
 have ltb1 := h2.lt
 refine RW.alloc tk (.inl rfl) ⟨rfl, rfl, rfl, rfl⟩ rfl rfl ?_
 intro b2 w2 x2 l2 h3
 have sx2 := x2.size
 have ltb2 := h3.lt
 refine RW.done (NW.next (CW.seq (CW.lex [.L, .X, .M] rfl ?_)))
 have h4 := h2.ext x2
 refine RW.ld tk [iv p0.Dev, iv p0.Size, .slice A1 p0.List_.length c_1] (h4.at 0) ?_
 refine RW.alloc tk (.inl rfl) ⟨rfl, rfl, rfl, rfl⟩ rfl rfl ?_
 intro b3 w3 x3 l3 h5
 have sx3 := x3.size
 have ltb3 := h5.lt
 refine RW.sb tk h5 [iv p0.Dev, iv p0.Size, .slice A1 p0.List_.length c_1] ?_
 intro w4 x4 h6
 have h7 : Box w4.heap b3 26 [iv p0.Dev, iv p0.Size, .slice A1 p0.List_.length c_1] := h6
 have sx4 := x4.size
 refine RW.done (NW.next (CW.seq (CW.lex [.W, .L, .X, .W, .M] rfl (pu 1 rfl ?_))))
 have h8 := (h4.ext x3).tB x4
 refine RW.ld tk [.slice A1 p0.List_.length c_1] (h8.at 2) ?_
 have h9 := (((h1.ext x1).ext x2).ext x3).turnB x4 h5 ⟨.inr (by omega), trivial⟩
 obtain ⟨y1, h10, H⟩ := bind_some H
 refine RW.cl ent93 (hermitageref0_CopyEntries.calls k A1 c_1 p0.List_ _ _ h9.all hl1 h10) ?_
 rintro _ w5 ⟨A2, c_2, rfl, x5, h11⟩
 refine ⟨_, rfl, x5, ?_⟩
 have sx5 := x5.size
 have h12 : Ow kEntry 66 w5.heap (okL [(w4.heap.size, some w5.heap.size, some 66)]) (okL []) A2 c_2 y1 := h11.close
 refine pu 1 rfl ?_
 have h13 := h7.ext x5
 refine RW.sb tk h13 [.slice A2 y1.length c_2] ?_
 intro w6 x6 h14
 have h15 : Box w6.heap b3 26 [iv p0.Dev, iv p0.Size, .slice A2 y1.length c_2] := h14
 have sx6 := x6.size
 refine RW.done (NW.next (CW.seq (CW.lex [.L, .M] rfl (RW.ld tk [iv p0.Dev, iv p0.Size, .slice A2 y1.length c_2] (h15.at 0) ?_))))
 have h16 := (((h3.ext x3).tB x4).ext x5).tB x6
 refine RW.sb tk h16 [iv p0.Dev, iv p0.Size, .slice A2 y1.length c_2] ?_
 intro w7 x7 h17
 have h18 : Box w7.heap b2 26 [iv p0.Dev, iv p0.Size, .slice A2 y1.length c_2] := h17
 have sx7 := x7.size
 refine RW.done (NW.next (CW.ret ?_))
 have h19 := (h12.tB x6 h13).tB x7 h16
 obtain rfl := Option.some.inj H
 have h20 := ((((((x0.tr x1).tr x2).tr x3).tB x4).tr x5).tB x6).tB x7
 exact NW.ret1 rfl (resOne_cell tk (h18.at 0) rfl rfl rfl) ⟨A2, c_2, rfl, h20, (h19.sub (l' := [(w.heap.size, none, some 66)]) (li' := []) ⟨(.inl ⟨by omega, trivial, rfl⟩), trivial⟩ trivial)⟩
theorem hermitageref0_CopyTables.calls (k : Nat) (A1 : Option Addr) (c_1 : Nat) (p0 : List Table) (r : (List Table)) (w : World) (hs1 : Sl kTableR w.heap okAll A1 p0) (hl1 : p0.length ≤ c_1) (H : hermitageref0_CopyTables.f k p0 = some r) :
    Calls Tryz.prog 68 #[.slice A1 p0.length c_1] w fun e w' => ∃ (B1 : Option Addr) (d1 : Nat), e = .returned (.slice B1 r.length d1) ∧ Ext w w' ∧ Ow kTableO 26 w'.heap (okL [(w.heap.size, none, some 26)]) (okL [(w.heap.size, none, some 66)]) B1 d1 r := by
 have h1 : Sl kTableR w.heap (okL [(0, some w.heap.size, none)]) A1 p0 := hs1.old _ rfl
 have x0 : Ext w w := Upd.refl _ w
 unfold hermitageref0_CopyTables.f at H
 refine calls_start Tryz.func68 rfl 20 rfl [.slice A1 p0.length c_1] rfl ?_
 refine CW.seq (CW.lw 1 rfl (pu 1 rfl (RW.done (NW.next ?_))))
 refine CW.seq (CW.lw 1 rfl (pu 1 rfl (RW.done (NW.next ?_))))
 refine CW.seq (CW.seq (CW.lw 1 rfl (pu 1 rfl (RW.done ?_))))
 refine NW.next (CW.block ?_)
 refine CW.loop (fun n1 a w1 => ∃ (lt3_0 : List Table) (At3_0 : Option Addr) (ct3_0 : Nat) (it4_0 : Int), Sat 20 [(0, .slice A1 p0.length c_1), (3, .slice At3_0 lt3_0.length ct3_0), (4, iv it4_0)] a ∧ w.heap.size ≤ w1.heap.size ∧ Ow kTableO 26 w1.heap (okL [(w.heap.size, none, some 26)]) (okL [(w.heap.size, none, some 66)]) At3_0 ct3_0 lt3_0 ∧ Ext w w1 ∧ hermitageref0_CopyTables.l0 p0 k n1 lt3_0 it4_0 = some r) k ?_ ?_
 ·exact fun a ha => ⟨([] : List Table), none, 0, 0, ha.sb, by omega, Ow.nil, x0, H⟩
 intro n1 a w1 hI hp
 obtain ⟨lt3_0, At3_0, ct3_0, it4_0, hS, hle, ft3_0, x0_0, H⟩ := hI
 cases n1 with
 | zero => cases H
 | succ n1 =>
  rw [hermitageref0_CopyTables.l0] at H
  refine CW.go hp hS ?_
  have h2 : Ow kTableO 26 w1.heap (okL [(w.heap.size, some w1.heap.size, some 26)]) (okL [(w.heap.size, some w1.heap.size, some 66)]) At3_0 ct3_0 lt3_0 := ft3_0.close
  have xt1 : Ext w1 w1 := Upd.refl _ _
  refine CW.seq (CW.seq (CW.lw 4 rfl (pu 4 rfl (RW.done ?_))))
  refine NW.next ?_
  by_cases c1 : it4_0 < (p0.length : Int)
  ·rw [if_pos c1] at H
   refine CW.cond_t rfl (decide_eq_true c1) (CW.skip (NW.next (CW.seq (CW.block ?_))))
   refine CW.lex [.W, .W, .W, .W, .L, .X, .X, .M, .W] rfl (pu 3 rfl ?_)
   obtain ⟨g1, H⟩ := guard_some H
   obtain ⟨ad1, A2, c_2, e1, a1, l1, h3⟩ := kTableR_at (h1.ext x0_0) g1.1 g1.2
   refine RW.ix tk g1 e1 ?_
   refine RW.ld tk [iv ((rd p0 it4_0).Dev), iv ((rd p0 it4_0).Size), .slice A2 ((rd p0 it4_0).List_).length c_2] a1 ?_
   obtain ⟨y1, h4, H⟩ := bind_some H
   refine RW.cl ent69 (hermitageref0_CopyTable.calls k (rd p0 it4_0) A2 c_2 _ _ h3.all l1 h4) ?_
   rintro _ w2 ⟨A3, c_3, rfl, x1, h5⟩
   refine ⟨_, rfl, x1, ?_⟩
   have sx1 := x1.size
   have h6 : Ow kEntry 66 w2.heap (okL [(w1.heap.size, some w2.heap.size, some 66)]) (okL []) A3 c_3 y1.List_ := h5.close
   refine RW.buildSlice (cs := [iv y1.Dev, iv y1.Size, .slice A3 y1.List_.length c_3]) tk (.inl rfl) ⟨rfl, rfl, rfl, rfl⟩ rfl rfl rfl rfl rfl rfl rfl ?_
   intro b1 w3 x2 l2 h7
   have sx2 := x2.size
   have ltb1 := h7.lt
   have h8 := (h2.ext x1).ext x2
   have h9 := h6.ext x2
   obtain ⟨g2, H⟩ := guard_some H
   refine RW.append1L (d := kTableO) (v := y1) (l := [(w.heap.size, some w1.heap.size, some 26)]) (li := [(w.heap.size, some w1.heap.size, some 66)]) (ly := [(w1.heap.size, some w2.heap.size, some 66)]) (xs := lt3_0) tk h8 h7 (kTableO_mk y1 (h9.sub (l' := [(w1.heap.size, some w2.heap.size, some 66)]) (li' := [(w1.heap.size, some w2.heap.size, some 66)]) ⟨(.inl ⟨by omega, by omega, rfl⟩), trivial⟩ trivial)) ⟨⟨.inl (nq rfl), trivial⟩, trivial⟩ (by simp only [maxLen]; omega) g2 ⟨rfl, rfl, rfl, rfl⟩ rfl rfl rfl rfl rfl rfl rfl ?_
   intro A4 c_4 w4 x3 h10
   have sx3 := x3.size
   have h11 := h10.close.sub (l' := [(w.heap.size, some w4.heap.size, some 26)]) (li' := [(w.heap.size, some w2.heap.size, some 66)]) ⟨(.inl ⟨by omega, by omega, rfl⟩), ⟨(.inl ⟨by omega, by omega, rfl⟩), trivial⟩⟩ ⟨(.inl ⟨by omega, by omega, rfl⟩), ⟨(.inl ⟨by omega, by omega, rfl⟩), trivial⟩⟩
   refine pu 1 rfl (RW.done ?_)
   refine NW.norm_block (NW.next ?_)
   refine CW.lw 3 rfl (pu 3 rfl (RW.done ?_))
   have h12 := Ext.turn ((x0_0.tr x1).tr x2) x3 ⟨by omega, trivial⟩
   exact NW.J fun a ha => ⟨n1, Nat.lt_succ_self n1, (lt3_0 ++ [y1]), A4, c_4, (w64 (it4_0 + 1)), ha.sb, by omega, (h11.sb), h12, H⟩
  rw [if_neg c1] at H
  refine CW.cond_f rfl (decide_eq_false c1) (CW.exit ?_)
  refine NW.exit_then (NW.exit_then (NW.exit_hit ?_))
  refine NW.next (CW.seq (CW.lw 2 rfl (pu 2 rfl (RW.done ?_))))
  refine NW.next (CW.ret ?_)
  obtain rfl := Option.some.inj H
  exact NW.ret1 rfl (by rfl) ⟨At3_0, ct3_0, rfl, x0_0, (h2.sub (l' := [(w.heap.size, none, some 26)]) (li' := [(w.heap.size, none, some 66)]) ⟨(.inl ⟨by omega, trivial, rfl⟩), trivial⟩ ⟨(.inl ⟨by omega, trivial, rfl⟩), trivial⟩)⟩
theorem hermitageref0_CopyPool.calls (k : Nat) (p0 : Pool) (A1 : Option Addr) (c_1 : Nat) (A2 : Option Addr) (c_2 : Nat) (A3 : Option Addr) (c_3 : Nat) (r : Pool) (w : World) (hs1 : Sl kDeviceR w.heap okAll A1 p0.Devices) (hl1 : p0.Devices.length ≤ c_1) (hs2 : Sl kTableR w.heap okAll A2 p0.Tables) (hl2 : p0.Tables.length ≤ c_2) (hs3 : Sl kEntry w.heap okAll A3 p0.Job.Table.List_) (hl3 : p0.Job.Table.List_.length ≤ c_3) (H : hermitageref0_CopyPool.f k p0 = some r) :
    Calls Tryz.prog 44 #[.agg #[.slice A1 p0.Devices.length c_1, .slice A2 p0.Tables.length c_2, iv p0.Job.Dev, iv p0.Job.At, iv p0.Job.Table.Dev, iv p0.Job.Table.Size, .slice A3 p0.Job.Table.List_.length c_3, iv p0.Next]] w fun e w' => ∃ (B1 : Option Addr) (d1 : Nat) (B2 : Option Addr) (d2 : Nat) (B3 : Option Addr) (d3 : Nat), e = .returned (.agg #[.slice B1 r.Devices.length d1, .slice B2 r.Tables.length d2, iv r.Job.Dev, iv r.Job.At, iv r.Job.Table.Dev, iv r.Job.Table.Size, .slice B3 r.Job.Table.List_.length d3, iv r.Next]) ∧ Ext w w' ∧ Ow kDeviceO 40 w'.heap (okL [(w.heap.size, none, some 40)]) (okL [(w.heap.size, none, some 105)]) B1 d1 r.Devices ∧ Ow kTableO 26 w'.heap (okL [(w.heap.size, none, some 26)]) (okL [(w.heap.size, none, some 66)]) B2 d2 r.Tables ∧ Ow kEntry 66 w'.heap (okL [(w.heap.size, none, some 66)]) (okL []) B3 d3 r.Job.Table.List_ := by
 have h1 : Sl kDeviceR w.heap (okL [(0, some w.heap.size, none)]) A1 p0.Devices := hs1.old _ rfl
 have h2 : Sl kTableR w.heap (okL [(0, some w.heap.size, none)]) A2 p0.Tables := hs2.old _ rfl
 have h3 : Sl kEntry w.heap (okL [(0, some w.heap.size, none)]) A3 p0.Job.Table.List_ := hs3.old _ rfl
 have x0 : Ext w w := Upd.refl _ w
 unfold hermitageref0_CopyPool.f at H
 refine calls_start Tryz.func44 rfl 20 rfl [.agg #[.slice A1 p0.Devices.length c_1, .slice A2 p0.Tables.length c_2, iv p0.Job.Dev, iv p0.Job.At, iv p0.Job.Table.Dev, iv p0.Job.Table.Size, .slice A3 p0.Job.Table.List_.length c_3, iv p0.Next]] rfl ?_
 refine CW.seq (CW.lex [.X, .X] rfl (RW.box (cs := [.slice A1 p0.Devices.length c_1, .slice A2 p0.Tables.length c_2, iv p0.Job.Dev, iv p0.Job.At, iv p0.Job.Table.Dev, iv p0.Job.Table.Size, .slice A3 p0.Job.Table.List_.length c_3, iv p0.Next]) (.inl rfl) ⟨rfl, rfl, rfl, rfl⟩ rfl rfl rfl ?_))
 intro b1 w1 x1 l1 h4
 have sx1 := x1.size
 have ltb1 := h4.lt
 refine RW.alloc tk (.inl rfl) ⟨rfl, rfl, rfl, rfl⟩ rfl rfl ?_
 intro b2 w2 x2 l2 h5
 have sx2 := x2.size
 have ltb2 := h5.lt
 refine RW.done (NW.next (CW.seq (CW.lex [.L, .X, .M] rfl ?_)))
 have h6 := h4.ext x2
 refine RW.ld tk [.slice A1 p0.Devices.length c_1, .slice A2 p0.Tables.length c_2, iv p0.Job.Dev, iv p0.Job.At, iv p0.Job.Table.Dev, iv p0.Job.Table.Size, .slice A3 p0.Job.Table.List_.length c_3, iv p0.Next] (h6.at 0) ?_
 refine RW.alloc tk (.inl rfl) ⟨rfl, rfl, rfl, rfl⟩ rfl rfl ?_
 intro b3 w3 x3 l3 h7
 have sx3 := x3.size
 have ltb3 := h7.lt
 refine RW.sb tk h7 [.slice A1 p0.Devices.length c_1, .slice A2 p0.Tables.length c_2, iv p0.Job.Dev, iv p0.Job.At, iv p0.Job.Table.Dev, iv p0.Job.Table.Size, .slice A3 p0.Job.Table.List_.length c_3, iv p0.Next] ?_
 intro w4 x4 h8
 have h9 : Box w4.heap b3 30 [.slice A1 p0.Devices.length c_1, .slice A2 p0.Tables.length c_2, iv p0.Job.Dev, iv p0.Job.At, iv p0.Job.Table.Dev, iv p0.Job.Table.Size, .slice A3 p0.Job.Table.List_.length c_3, iv p0.Next] := h8
 have sx4 := x4.size
 refine RW.done (NW.next (CW.seq (CW.lex [.W, .L, .X, .W, .M] rfl (pu 1 rfl ?_))))
 have h10 := (h6.ext x3).tB x4
 refine RW.lb tk [.slice A1 p0.Devices.length c_1] h10 0 ?_
 have h11 := (((h1.ext x1).ext x2).ext x3).turnB x4 h7 ⟨.inr (by omega), trivial⟩
 obtain ⟨y1, h12, H⟩ := bind_some H
 refine RW.cl ent67 (hermitageref0_CopyDevices.calls k A1 c_1 p0.Devices _ _ h11.all hl1 h12) ?_
 rintro _ w5 ⟨A4, c_4, rfl, x5, h13⟩
 refine ⟨_, rfl, x5, ?_⟩
 have sx5 := x5.size
 have h14 : Ow kDeviceO 40 w5.heap (okL [(w4.heap.size, some w5.heap.size, some 40)]) (okL [(w4.heap.size, some w5.heap.size, some 105)]) A4 c_4 y1 := h13.close
 refine pu 1 rfl ?_
 have h15 := h9.ext x5
 refine RW.sb tk h15 [.slice A4 y1.length c_4] ?_
 intro w6 x6 h16
 have h17 : Box w6.heap b3 30 [.slice A4 y1.length c_4, .slice A2 p0.Tables.length c_2, iv p0.Job.Dev, iv p0.Job.At, iv p0.Job.Table.Dev, iv p0.Job.Table.Size, .slice A3 p0.Job.Table.List_.length c_3, iv p0.Next] := h16
 have sx6 := x6.size
 refine RW.done (NW.next (CW.seq (CW.lex [.W, .L, .X, .W, .M] rfl (pu 1 rfl ?_))))
 have h18 := (h10.ext x5).tB x6
 refine RW.lb tk [.slice A2 p0.Tables.length c_2] h18 1 ?_
 have h19 := (((((h2.ext x1).ext x2).ext x3).turnB x4 h7 ⟨.inr (by omega), trivial⟩).ext x5).turnB x6 h15 ⟨.inr (by omega), trivial⟩
 obtain ⟨y2, h20, H⟩ := bind_some H
 refine RW.cl ent68 (hermitageref0_CopyTables.calls k A2 c_2 p0.Tables _ _ h19.all hl2 h20) ?_
 rintro _ w7 ⟨A5, c_5, rfl, x7, h21⟩
 refine ⟨_, rfl, x7, ?_⟩
 have sx7 := x7.size
 have h22 : Ow kTableO 26 w7.heap (okL [(w6.heap.size, some w7.heap.size, some 26)]) (okL [(w6.heap.size, some w7.heap.size, some 66)]) A5 c_5 y2 := h21.close
 refine pu 1 rfl ?_
 have h23 := h17.ext x7
 refine RW.sb tk h23 [.slice A5 y2.length c_5] ?_
 intro w8 x8 h24
 have h25 : Box w8.heap b3 30 [.slice A4 y1.length c_4, .slice A5 y2.length c_5, iv p0.Job.Dev, iv p0.Job.At, iv p0.Job.Table.Dev, iv p0.Job.Table.Size, .slice A3 p0.Job.Table.List_.length c_3, iv p0.Next] := h24
 have sx8 := x8.size
 refine RW.done (NW.next (CW.seq (CW.lex [.W, .W, .L, .X, .W, .W, .M] rfl (pu 2 rfl ?_))))
 have h26 := (h18.ext x7).tB x8
 refine RW.lb tk [iv p0.Job.Table.Dev, iv p0.Job.Table.Size, .slice A3 p0.Job.Table.List_.length c_3] h26 4 ?_
 have h27 := (((((((h3.ext x1).ext x2).ext x3).turnB x4 h7 ⟨.inr (by omega), trivial⟩).ext x5).turnB x6 h15 ⟨.inr (by omega), trivial⟩).ext x7).turnB x8 h23 ⟨.inr (by omega), trivial⟩
 obtain ⟨y3, h28, H⟩ := bind_some H
 refine RW.cl ent69 (hermitageref0_CopyTable.calls k p0.Job.Table A3 c_3 _ _ h27.all hl3 h28) ?_
 rintro _ w9 ⟨A6, c_6, rfl, x9, h29⟩
 refine ⟨_, rfl, x9, ?_⟩
 have sx9 := x9.size
 have h30 : Ow kEntry 66 w9.heap (okL [(w8.heap.size, some w9.heap.size, some 66)]) (okL []) A6 c_6 y3.List_ := h29.close
 refine pu 2 rfl ?_
 have h31 := h25.ext x9
 refine RW.sb tk h31 [iv y3.Dev, iv y3.Size, .slice A6 y3.List_.length c_6] ?_
 intro w10 x10 h32
 have h33 : Box w10.heap b3 30 [.slice A4 y1.length c_4, .slice A5 y2.length c_5, iv p0.Job.Dev, iv p0.Job.At, iv y3.Dev, iv y3.Size, .slice A6 y3.List_.length c_6, iv p0.Next] := h32
 have sx10 := x10.size
 refine RW.done (NW.next (CW.seq (CW.lex [.L, .M] rfl (RW.ld tk [.slice A4 y1.length c_4, .slice A5 y2.length c_5, iv p0.Job.Dev, iv p0.Job.At, iv y3.Dev, iv y3.Size, .slice A6 y3.List_.length c_6, iv p0.Next] (h33.at 0) ?_))))
 have h34 := (((((((h5.ext x3).tB x4).ext x5).tB x6).ext x7).tB x8).ext x9).tB x10
 refine RW.sb tk h34 [.slice A4 y1.length c_4, .slice A5 y2.length c_5, iv p0.Job.Dev, iv p0.Job.At, iv y3.Dev, iv y3.Size, .slice A6 y3.List_.length c_6, iv p0.Next] ?_
 intro w11 x11 h35
 have h36 : Box w11.heap b2 30 [.slice A4 y1.length c_4, .slice A5 y2.length c_5, iv p0.Job.Dev, iv p0.Job.At, iv y3.Dev, iv y3.Size, .slice A6 y3.List_.length c_6, iv p0.Next] := h35
 have sx11 := x11.size
 refine RW.done (NW.next (CW.ret ?_))
 have h37 := (((((h14.tB x6 h15).ext x7).tB x8 h23).ext x9).tB x10 h31).tB x11 h34
 have h38 := (((h22.tB x8 h23).ext x9).tB x10 h31).tB x11 h34
 have h39 := (h30.tB x10 h31).tB x11 h34
 obtain rfl := Option.some.inj H
 have h40 := ((((((((((x0.tr x1).tr x2).tr x3).tB x4).tr x5).tB x6).tr x7).tB x8).tr x9).tB x10).tB x11
 exact NW.ret1 rfl (resOne_cell tk (h36.at 0) rfl rfl rfl) ⟨A4, c_4, A5, c_5, A6, c_6, rfl, h40, (h37.sub (l' := [(w.heap.size, none, some 40)]) (li' := [(w.heap.size, none, some 105)]) ⟨(.inl ⟨by omega, trivial, rfl⟩), trivial⟩ ⟨(.inl ⟨by omega, trivial, rfl⟩), trivial⟩), (h38.sub (l' := [(w.heap.size, none, some 26)]) (li' := [(w.heap.size, none, some 66)]) ⟨(.inl ⟨by omega, trivial, rfl⟩), trivial⟩ ⟨(.inl ⟨by omega, trivial, rfl⟩), trivial⟩), (h39.sub (l' := [(w.heap.size, none, some 66)]) (li' := []) ⟨(.inl ⟨by omega, trivial, rfl⟩), trivial⟩ trivial)⟩
theorem hermitageref7_Commit.calls (k : Nat) (A1 : Option Addr) (c_1 : Nat) (p0 : List Device) (r : (List Device)) (w : World) (hs1 : Sl kDeviceR w.heap okAll A1 p0) (hl1 : p0.length ≤ c_1) (H : hermitageref7_Commit.f k p0 = some r) :
    Calls Tryz.prog 45 #[.slice A1 p0.length c_1] w fun e w' => ∃ (B1 : Option Addr) (d1 : Nat), e = .returned (.slice B1 r.length d1) ∧ Ext w w' ∧ Ow kDeviceO 40 w'.heap (okL [(w.heap.size, none, some 40)]) (okL [(w.heap.size, none, some 105)]) B1 d1 r := by
 have h1 : Sl kDeviceR w.heap (okL [(0, some w.heap.size, none)]) A1 p0 := hs1.old _ rfl
 have x0 : Ext w w := Upd.refl _ w
 unfold hermitageref7_Commit.f at H
 refine calls_start Tryz.func45 rfl 32 rfl [.slice A1 p0.length c_1] rfl ?_
 refine CW.seq (CW.lw 1 rfl (pu 1 rfl (RW.done (NW.next ?_))))
 refine CW.seq (CW.lex [.W, .X, .W] rfl (pu 1 rfl ?_))
 obtain ⟨y1, h2, H⟩ := bind_some H
 refine RW.cl ent67 (hermitageref0_CopyDevices.calls k A1 c_1 p0 _ _ h1.all hl1 h2) ?_
 rintro _ w1 ⟨A2, c_2, rfl, x1, h3⟩
 refine ⟨_, rfl, x1, ?_⟩
 have sx1 := x1.size
 have h4 : Ow kDeviceO 40 w1.heap (okL [(w.heap.size, some w1.heap.size, some 40)]) (okL [(w.heap.size, some w1.heap.size, some 105)]) A2 c_2 y1 := h3.close
 refine pu 1 rfl (RW.done (NW.next (CW.seq (CW.seq ?_))))
 refine CW.lw 1 rfl (pu 1 rfl (RW.done (NW.next (CW.block ?_))))
 refine CW.loop (fun n1 a w2 => ∃ (lt0_0 : List Device) (it3_0 : Int), Sat 32 [(0, .slice A2 lt0_0.length c_2), (3, iv it3_0)] a ∧ w1.heap.size ≤ w2.heap.size ∧ Ow kDeviceO 40 w2.heap (okL [(w.heap.size, none, some 40)]) (okL [(w.heap.size, none, some 105)]) A2 c_2 lt0_0 ∧ Ext w w2 ∧ lt0_0.length = y1.length ∧ hermitageref7_Commit.l0 k n1 lt0_0 it3_0 = some r) k ?_ ?_
 have h5 := x0.tr x1
 ·exact fun a ha => ⟨y1, 0, ha.sb, by omega, (h4.sb), h5, (by (try simp only [List.length_set]) <;> omega), H⟩
 intro n1 a w2 hI hp
 obtain ⟨lt0_0, it3_0, hS, hle, ft0_0, x0_0, ln_lt0_0, H⟩ := hI
 cases n1 with
 | zero => cases H
 | succ n1 =>
  rw [hermitageref7_Commit.l0] at H
  refine CW.go hp hS ?_
  have h6 : Ow kDeviceO 40 w2.heap (okL [(w.heap.size, some w2.heap.size, some 40)]) (okL [(w.heap.size, some w2.heap.size, some 105)]) A2 c_2 lt0_0 := ft0_0.close
  have xt1 : Ext w2 w2 := Upd.refl _ _
  refine CW.seq (CW.seq (CW.lw 4 rfl (pu 4 rfl (RW.done ?_))))
  refine NW.next ?_
  by_cases c1 : it3_0 < (lt0_0.length : Int)
  ·rw [if_pos c1] at H
   refine CW.cond_t rfl (decide_eq_true c1) (CW.skip (NW.next (CW.seq (CW.block ?_))))
   refine CW.ord [0, 0, 0, 0, 0, 0, 48, 112, 240, 0, 0, 1536, 3584, 7680, 16368, 32755, 65523, 131059, 262143, 524287, 1048575] (ofL [(0, .W), (1, .W), (2, .W), (3, .W), (4, .W), (5, .W), (6, .W), (7, .W), (9, .W), (10, .W), (11, .W), (12, .W), (8, .L), (13, .L), (14, .X), (15, .W), (16, .W), (17, .M), (18, .W), (19, .W), (20, .M)] .nil) mixed (by kernel_rfl) ?_
   intro w3 x2
   have sx2 := x2.size
   refine pu 6 rfl ?_
   obtain ⟨g1, H⟩ := guard_some H
   have h7 := h6.ext x2
   obtain ⟨ad1, A3, c_3, A4, c_4, e1, a1, h8, h9⟩ := kDeviceO_ato h7 g1.1 g1.2
   refine RW.ix tk g1 e1 ?_
   refine pu 3 rfl ?_
   obtain ⟨g2, H⟩ := guard_some H
   obtain ⟨ad2, A5, c_5, A6, c_6, e2, a2, h10, h11⟩ := kDeviceO_ato h7 g2.1 g2.2
   refine RW.ix tk g2 e2 ?_
   refine pu 1 rfl (RW.ld tk [.slice A3 ((rd lt0_0 it3_0).Free).length c_3] ((a1.fld 2).take 1 rfl) ?_)
   refine RW.ld tk [.slice A6 ((rd lt0_0 it3_0).Late).length c_6] (a2.fld 3) ?_
   obtain ⟨y2, h12, H⟩ := bind_some H
   refine RW.cl ent70 (hermitageref1_Two.calls k A3 c_3 ((rd lt0_0 it3_0).Free) A6 c_6 ((rd lt0_0 it3_0).Late) 0 _ _ h8.all h8.len h11.all h11.len h12) ?_
   rintro _ w4 ⟨A7, c_7, rfl, x3, h13⟩
   refine ⟨_, rfl, x3, ?_⟩
   have sx3 := x3.size
   have h14 : Ow kSeg 105 w4.heap (okL [(w3.heap.size, some w4.heap.size, some 105)]) (okL []) A7 c_7 y2 := h13.close
   obtain ⟨g3, H⟩ := guard_some H
   have h15 := h7.ext x3
   obtain ⟨ad3, A8, c_8, A9, c_9, e3, a3, h16, h17⟩ := kDeviceO_ato h15 g3.1 g3.2
   refine RW.ix tk g3 e3 ?_
   refine pu 1 rfl ?_
   refine RW.storeElL (y := (⟨(rd lt0_0 it3_0).ID, (rd lt0_0 it3_0).Size, y2, (rd lt0_0 it3_0).Late⟩ : Device)) (lv := [(w3.heap.size, some w4.heap.size, some 105)]) (k := 2) tk h15 (j := it3_0.toNat) (by have := g3; omega) default [.slice A7 y2.length c_7] (fun cs ok' hr => by obtain ⟨qa1, qc1, qa2, qc2, rfl, q1, q2⟩ := kDeviceO_open hr; exact ⟨by simp, kDeviceO_mk (⟨(rd lt0_0 it3_0).ID, (rd lt0_0 it3_0).Size, y2, (rd lt0_0 it3_0).Late⟩ : Device) (h14.mono (fun _ _ ho => Or.inr (okL_sub (l := [(w3.heap.size, some w4.heap.size, some 105)]) (l' := [(w3.heap.size, some w4.heap.size, some 105)]) ⟨(.inl ⟨by omega, by omega, rfl⟩), trivial⟩ ho)) (fun _ _ ho => Or.inr (okL_sub (l := []) (l' := [(w3.heap.size, some w4.heap.size, some 105)]) trivial ho))) (q2.mono (fun _ _ ho => Or.inl ho) (fun _ _ ho => Or.inl ho))⟩) ⟨⟨.inl (nq rfl), trivial⟩, trivial⟩ ⟨rfl, rfl, rfl⟩ rfl rfl e3 rfl rfl rfl rfl rfl ?_
   intro w5 x4 h18
   have sx4 := x4.size
   have h19 := h18.close.sub (l' := [(w.heap.size, some w2.heap.size, some 40)]) (li' := [(w.heap.size, some w4.heap.size, some 105)]) ⟨(.inl ⟨by omega, by omega, rfl⟩), trivial⟩ ⟨(.inl ⟨by omega, by omega, rfl⟩), ⟨(.inl ⟨by omega, by omega, rfl⟩), trivial⟩⟩
   refine RW.tell 0 (v' := .slice A2 (lt0_0.set it3_0.toNat (⟨(rd lt0_0 it3_0).ID, (rd lt0_0 it3_0).Size, y2, (rd lt0_0 it3_0).Late⟩ : Device)).length c_2) (by simp only [List.length_set]) rfl (RW.tell 14 (v' := .slice A2 (lt0_0.set it3_0.toNat (⟨(rd lt0_0 it3_0).ID, (rd lt0_0 it3_0).Size, y2, (rd lt0_0 it3_0).Late⟩ : Device)).length c_2) (by simp only [List.length_set]) rfl ?_)
   obtain ⟨g4, H⟩ := guard_some H
   obtain ⟨ad4, A10, c_10, A11, c_11, e4, a4, h20, h21⟩ := kDeviceO_ato h19 g4.1 g4.2
   refine RW.ix tk g4 e4 ?_
   refine pu 1 rfl ?_
   refine RW.storeElL (y := (⟨(rd (lt0_0.set it3_0.toNat (⟨(rd lt0_0 it3_0).ID, (rd lt0_0 it3_0).Size, y2, (rd lt0_0 it3_0).Late⟩ : Device)) it3_0).ID, (rd (lt0_0.set it3_0.toNat (⟨(rd lt0_0 it3_0).ID, (rd lt0_0 it3_0).Size, y2, (rd lt0_0 it3_0).Late⟩ : Device)) it3_0).Size, (rd (lt0_0.set it3_0.toNat (⟨(rd lt0_0 it3_0).ID, (rd lt0_0 it3_0).Size, y2, (rd lt0_0 it3_0).Late⟩ : Device)) it3_0).Free, ([] : List Seg)⟩ : Device)) (lv := []) (k := 3) tk h19 (j := it3_0.toNat) (by have := g4; omega) default [.slice none 0 0] (fun cs ok' hr => by obtain ⟨qa1, qc1, qa2, qc2, rfl, q1, q2⟩ := kDeviceO_open hr; exact ⟨by simp, kDeviceO_mk (⟨(rd (lt0_0.set it3_0.toNat (⟨(rd lt0_0 it3_0).ID, (rd lt0_0 it3_0).Size, y2, (rd lt0_0 it3_0).Late⟩ : Device)) it3_0).ID, (rd (lt0_0.set it3_0.toNat (⟨(rd lt0_0 it3_0).ID, (rd lt0_0 it3_0).Size, y2, (rd lt0_0 it3_0).Late⟩ : Device)) it3_0).Size, (rd (lt0_0.set it3_0.toNat (⟨(rd lt0_0 it3_0).ID, (rd lt0_0 it3_0).Size, y2, (rd lt0_0 it3_0).Late⟩ : Device)) it3_0).Free, ([] : List Seg)⟩ : Device) (q1.mono (fun _ _ ho => Or.inl ho) (fun _ _ ho => Or.inl ho)) Ow.nil⟩) trivial ⟨rfl, rfl, rfl⟩ rfl rfl e4 rfl rfl rfl rfl rfl ?_
   intro w6 x5 h22
   have sx5 := x5.size
   have h23 := h22.sub (l' := [(w.heap.size, some w2.heap.size, some 40)]) (li' := [(w.heap.size, some w4.heap.size, some 105)]) ⟨(.inl ⟨by omega, by omega, rfl⟩), trivial⟩ ⟨(.inl ⟨by omega, by omega, rfl⟩), trivial⟩
   refine RW.tell 0 (v' := .slice A2 ((lt0_0.set it3_0.toNat (⟨(rd lt0_0 it3_0).ID, (rd lt0_0 it3_0).Size, y2, (rd lt0_0 it3_0).Late⟩ : Device)).set it3_0.toNat (⟨(rd (lt0_0.set it3_0.toNat (⟨(rd lt0_0 it3_0).ID, (rd lt0_0 it3_0).Size, y2, (rd lt0_0 it3_0).Late⟩ : Device)) it3_0).ID, (rd (lt0_0.set it3_0.toNat (⟨(rd lt0_0 it3_0).ID, (rd lt0_0 it3_0).Size, y2, (rd lt0_0 it3_0).Late⟩ : Device)) it3_0).Size, (rd (lt0_0.set it3_0.toNat (⟨(rd lt0_0 it3_0).ID, (rd lt0_0 it3_0).Size, y2, (rd lt0_0 it3_0).Late⟩ : Device)) it3_0).Free, ([] : List Seg)⟩ : Device)).length c_2) (by simp only [List.length_set]) rfl (RW.done ?_)
   refine NW.norm_block (NW.next ?_)
   refine CW.lw 3 rfl (pu 3 rfl (RW.done ?_))
   have h24 := Ext.turn (Ext.turn ((x0_0.tr x2).tr x3) x4 ⟨by omega, trivial⟩) x5 ⟨by omega, trivial⟩
   exact NW.J fun a ha => ⟨n1, Nat.lt_succ_self n1, ((lt0_0.set it3_0.toNat (⟨(rd lt0_0 it3_0).ID, (rd lt0_0 it3_0).Size, y2, (rd lt0_0 it3_0).Late⟩ : Device)).set it3_0.toNat (⟨(rd (lt0_0.set it3_0.toNat (⟨(rd lt0_0 it3_0).ID, (rd lt0_0 it3_0).Size, y2, (rd lt0_0 it3_0).Late⟩ : Device)) it3_0).ID, (rd (lt0_0.set it3_0.toNat (⟨(rd lt0_0 it3_0).ID, (rd lt0_0 it3_0).Size, y2, (rd lt0_0 it3_0).Late⟩ : Device)) it3_0).Size, (rd (lt0_0.set it3_0.toNat (⟨(rd lt0_0 it3_0).ID, (rd lt0_0 it3_0).Size, y2, (rd lt0_0 it3_0).Late⟩ : Device)) it3_0).Free, ([] : List Seg)⟩ : Device)), (w64 (it3_0 + 1)), ha.sb, by omega, (h23.sb), h24, (by (try simp only [List.length_set]) <;> omega), H⟩
  rw [if_neg c1] at H
  refine CW.cond_f rfl (decide_eq_false c1) (CW.exit ?_)
  refine NW.exit_then (NW.exit_then (NW.exit_hit ?_))
  refine NW.next (CW.seq (CW.lw 2 rfl (pu 2 rfl (RW.done ?_))))
  refine NW.next (CW.ret ?_)
  obtain rfl := Option.some.inj H
  exact NW.ret1 rfl (by rfl) ⟨A2, c_2, rfl, x0_0, (h6.sub (l' := [(w.heap.size, none, some 40)]) (li' := [(w.heap.size, none, some 105)]) ⟨(.inl ⟨by omega, trivial, rfl⟩), trivial⟩ ⟨(.inl ⟨by omega, trivial, rfl⟩), trivial⟩)⟩
theorem hermitageref9_Commit.calls (k : Nat) (p0 : Pool) (A1 : Option Addr) (c_1 : Nat) (A2 : Option Addr) (c_2 : Nat) (A3 : Option Addr) (c_3 : Nat) (r : Pool) (w : World) (hs1 : Sl kDeviceR w.heap okAll A1 p0.Devices) (hl1 : p0.Devices.length ≤ c_1) (hs2 : Sl kTableR w.heap okAll A2 p0.Tables) (hl2 : p0.Tables.length ≤ c_2) (hs3 : Sl kEntry w.heap okAll A3 p0.Job.Table.List_) (hl3 : p0.Job.Table.List_.length ≤ c_3) (H : hermitageref9_Commit.f k p0 = some r) :
    Calls Tryz.prog 15 #[.agg #[.slice A1 p0.Devices.length c_1, .slice A2 p0.Tables.length c_2, iv p0.Job.Dev, iv p0.Job.At, iv p0.Job.Table.Dev, iv p0.Job.Table.Size, .slice A3 p0.Job.Table.List_.length c_3, iv p0.Next]] w fun e w' => ∃ (B1 : Option Addr) (d1 : Nat) (B2 : Option Addr) (d2 : Nat) (B3 : Option Addr) (d3 : Nat), e = .returned (.agg #[.slice B1 r.Devices.length d1, .slice B2 r.Tables.length d2, iv r.Job.Dev, iv r.Job.At, iv r.Job.Table.Dev, iv r.Job.Table.Size, .slice B3 r.Job.Table.List_.length d3, iv r.Next]) ∧ Ext w w' ∧ Ow kDeviceO 40 w'.heap (okL [(w.heap.size, none, some 40)]) (okL [(w.heap.size, none, some 105)]) B1 d1 r.Devices ∧ Ow kTableO 26 w'.heap (okL [(w.heap.size, none, some 26)]) (okL [(w.heap.size, none, some 66)]) B2 d2 r.Tables ∧ Ow kEntry 66 w'.heap (okL [(w.heap.size, none, some 66)]) (okL []) B3 d3 r.Job.Table.List_ := by
 have h1 : Sl kDeviceR w.heap (okL [(0, some w.heap.size, none)]) A1 p0.Devices := hs1.old _ rfl
 have h2 : Sl kTableR w.heap (okL [(0, some w.heap.size, none)]) A2 p0.Tables := hs2.old _ rfl
 have h3 : Sl kEntry w.heap (okL [(0, some w.heap.size, none)]) A3 p0.Job.Table.List_ := hs3.old _ rfl
 have x0 : Ext w w := Upd.refl _ w
 unfold hermitageref9_Commit.f at H
 refine calls_start Tryz.func15 rfl 10 rfl [.agg #[.slice A1 p0.Devices.length c_1, .slice A2 p0.Tables.length c_2, iv p0.Job.Dev, iv p0.Job.At, iv p0.Job.Table.Dev, iv p0.Job.Table.Size, .slice A3 p0.Job.Table.List_.length c_3, iv p0.Next]] rfl ?_
 refine CW.seq (CW.lex [.X, .X] rfl (RW.box (cs := [.slice A1 p0.Devices.length c_1, .slice A2 p0.Tables.length c_2, iv p0.Job.Dev, iv p0.Job.At, iv p0.Job.Table.Dev, iv p0.Job.Table.Size, .slice A3 p0.Job.Table.List_.length c_3, iv p0.Next]) (.inl rfl) ⟨rfl, rfl, rfl, rfl⟩ rfl rfl rfl ?_))
 intro b1 w1 x1 l1 h4
 have sx1 := x1.size
 have ltb1 := h4.lt
 refine RW.alloc tk (.inl rfl) ⟨rfl, rfl, rfl, rfl⟩ rfl rfl ?_
 intro b2 w2 x2 l2 h5
 have sx2 := x2.size
 have ltb2 := h5.lt
 refine RW.done (NW.next (CW.seq (CW.lex [.L, .X, .M] rfl ?_)))
 have h6 := h4.ext x2
 refine RW.ld tk [.slice A1 p0.Devices.length c_1, .slice A2 p0.Tables.length c_2, iv p0.Job.Dev, iv p0.Job.At, iv p0.Job.Table.Dev, iv p0.Job.Table.Size, .slice A3 p0.Job.Table.List_.length c_3, iv p0.Next] (h6.at 0) ?_
 have h7 := (h1.ext x1).ext x2
 have h8 := (h2.ext x1).ext x2
 have h9 := (h3.ext x1).ext x2
 obtain ⟨y1, h10, H⟩ := bind_some H
 refine RW.cl ent44 (hermitageref0_CopyPool.calls k p0 A1 c_1 A2 c_2 A3 c_3 _ _ h7.all hl1 h8.all hl2 h9.all hl3 h10) ?_
 rintro _ w3 ⟨A4, c_4, A5, c_5, A6, c_6, rfl, x3, h11, h12, h13⟩
 refine ⟨_, rfl, x3, ?_⟩
 have sx3 := x3.size
 have h14 : Ow kDeviceO 40 w3.heap (okL [(w2.heap.size, some w3.heap.size, some 40)]) (okL [(w2.heap.size, some w3.heap.size, some 105)]) A4 c_4 y1.Devices := h11.close
 have h15 : Ow kTableO 26 w3.heap (okL [(w2.heap.size, some w3.heap.size, some 26)]) (okL [(w2.heap.size, some w3.heap.size, some 66)]) A5 c_5 y1.Tables := h12.close
 have h16 : Ow kEntry 66 w3.heap (okL [(w2.heap.size, some w3.heap.size, some 66)]) (okL []) A6 c_6 y1.Job.Table.List_ := h13.close
 have h17 := h6.ext x3
 refine RW.sb tk h17 [.slice A4 y1.Devices.length c_4, .slice A5 y1.Tables.length c_5, iv y1.Job.Dev, iv y1.Job.At, iv y1.Job.Table.Dev, iv y1.Job.Table.Size, .slice A6 y1.Job.Table.List_.length c_6, iv y1.Next] ?_
 intro w4 x4 h18
 have h19 : Box w4.heap b1 30 [.slice A4 y1.Devices.length c_4, .slice A5 y1.Tables.length c_5, iv y1.Job.Dev, iv y1.Job.At, iv y1.Job.Table.Dev, iv y1.Job.Table.Size, .slice A6 y1.Job.Table.List_.length c_6, iv y1.Next] := h18
 have sx4 := x4.size
 refine RW.done (NW.next (CW.seq (CW.lex [.W, .L, .X, .W, .M] rfl (pu 1 rfl ?_))))
 refine RW.lb tk [.slice A4 y1.Devices.length c_4] h19 0 ?_
 have h20 := h14.tB x4 h17
 obtain ⟨y2, h21, H⟩ := bind_some H
 refine RW.cl ent45 (hermitageref7_Commit.calls k A4 c_4 y1.Devices _ _ (h20.all.to kDevice_ro rfl) h20.len h21) ?_
 rintro _ w5 ⟨A7, c_7, rfl, x5, h22⟩
 refine ⟨_, rfl, x5, ?_⟩
 have sx5 := x5.size
 have h23 : Ow kDeviceO 40 w5.heap (okL [(w4.heap.size, some w5.heap.size, some 40)]) (okL [(w4.heap.size, some w5.heap.size, some 105)]) A7 c_7 y2 := h22.close
 refine pu 1 rfl ?_
 have h24 := h19.ext x5
 refine RW.sb tk h24 [.slice A7 y2.length c_7] ?_
 intro w6 x6 h25
 have h26 : Box w6.heap b1 30 [.slice A7 y2.length c_7, .slice A5 y1.Tables.length c_5, iv y1.Job.Dev, iv y1.Job.At, iv y1.Job.Table.Dev, iv y1.Job.Table.Size, .slice A6 y1.Job.Table.List_.length c_6, iv y1.Next] := h25
 have sx6 := x6.size
 refine RW.done (NW.next (CW.seq (CW.lex [.L, .M] rfl (RW.ld tk [.slice A7 y2.length c_7, .slice A5 y1.Tables.length c_5, iv y1.Job.Dev, iv y1.Job.At, iv y1.Job.Table.Dev, iv y1.Job.Table.Size, .slice A6 y1.Job.Table.List_.length c_6, iv y1.Next] (h26.at 0) ?_))))
 have h27 := (((h5.ext x3).tB x4).ext x5).tB x6
 refine RW.sb tk h27 [.slice A7 y2.length c_7, .slice A5 y1.Tables.length c_5, iv y1.Job.Dev, iv y1.Job.At, iv y1.Job.Table.Dev, iv y1.Job.Table.Size, .slice A6 y1.Job.Table.List_.length c_6, iv y1.Next] ?_
 intro w7 x7 h28
 have h29 : Box w7.heap b2 30 [.slice A7 y2.length c_7, .slice A5 y1.Tables.length c_5, iv y1.Job.Dev, iv y1.Job.At, iv y1.Job.Table.Dev, iv y1.Job.Table.Size, .slice A6 y1.Job.Table.List_.length c_6, iv y1.Next] := h28
 have sx7 := x7.size
 refine RW.done (NW.next (CW.ret ?_))
 have h30 := (h23.tB x6 h24).tB x7 h27
 have h31 := (((h15.tB x4 h17).ext x5).tB x6 h24).tB x7 h27
 have h32 := (((h16.tB x4 h17).ext x5).tB x6 h24).tB x7 h27
 obtain rfl := Option.some.inj H
 have h33 := ((((((x0.tr x1).tr x2).tr x3).tB x4).tr x5).tB x6).tB x7
 exact NW.ret1 rfl (resOne_cell tk (h29.at 0) rfl rfl rfl) ⟨A7, c_7, A5, c_5, A6, c_6, rfl, h33, (h30.sub (l' := [(w.heap.size, none, some 40)]) (li' := [(w.heap.size, none, some 105)]) ⟨(.inl ⟨by omega, trivial, rfl⟩), trivial⟩ ⟨(.inl ⟨by omega, trivial, rfl⟩), trivial⟩), (h31.sub (l' := [(w.heap.size, none, some 26)]) (li' := [(w.heap.size, none, some 66)]) ⟨(.inl ⟨by omega, trivial, rfl⟩), trivial⟩ ⟨(.inl ⟨by omega, trivial, rfl⟩), trivial⟩), (h32.sub (l' := [(w.heap.size, none, some 66)]) (li' := []) ⟨(.inl ⟨by omega, trivial, rfl⟩), trivial⟩ trivial)⟩
theorem hermitagelaw9_Heavy.calls (k : Nat) (p0 : Ask) (A1 : Option Addr) (c_1 : Nat) (A2 : Option Addr) (c_2 : Nat) (A3 : Option Addr) (c_3 : Nat) (A4 : Option Addr) (c_4 : Nat) (r : Bool) (w : World) (hs1 : Sl kDeviceR w.heap okAll A1 p0.P.Devices) (hl1 : p0.P.Devices.length ≤ c_1) (hs2 : Sl kTableR w.heap okAll A2 p0.P.Tables) (hl2 : p0.P.Tables.length ≤ c_2) (hs3 : Sl kEntry w.heap okAll A3 p0.P.Job.Table.List_) (hl3 : p0.P.Job.Table.List_.length ≤ c_3) (hs4 : Sl kPtr w.heap okAll A4 p0.Q) (hl4 : p0.Q.length ≤ c_4) (H : hermitagelaw9_Heavy.f k p0 = some r) :
    Calls Tryz.prog 17 #[.agg #[.slice A1 p0.P.Devices.length c_1, .slice A2 p0.P.Tables.length c_2, iv p0.P.Job.Dev, iv p0.P.Job.At, iv p0.P.Job.Table.Dev, iv p0.P.Job.Table.Size, .slice A3 p0.P.Job.Table.List_.length c_3, iv p0.P.Next, .slice A4 p0.Q.length c_4]] w fun e w' => e = .returned (.bool r) ∧ Ext w w' := by
 have h1 : Sl kDeviceR w.heap (okL [(0, some w.heap.size, none)]) A1 p0.P.Devices := hs1.old _ rfl
 have h2 : Sl kTableR w.heap (okL [(0, some w.heap.size, none)]) A2 p0.P.Tables := hs2.old _ rfl
 have h3 : Sl kEntry w.heap (okL [(0, some w.heap.size, none)]) A3 p0.P.Job.Table.List_ := hs3.old _ rfl
 have h4 : Sl kPtr w.heap (okL [(0, some w.heap.size, none)]) A4 p0.Q := hs4.old _ rfl
 have x0 : Ext w w := Upd.refl _ w
 unfold hermitagelaw9_Heavy.f at H
 refine calls_start Tryz.func17 rfl 13 rfl [.agg #[.slice A1 p0.P.Devices.length c_1, .slice A2 p0.P.Tables.length c_2, iv p0.P.Job.Dev, iv p0.P.Job.At, iv p0.P.Job.Table.Dev, iv p0.P.Job.Table.Size, .slice A3 p0.P.Job.Table.List_.length c_3, iv p0.P.Next, .slice A4 p0.Q.length c_4]] rfl ?_
 refine CW.seq (CW.lex [.X, .W] rfl (RW.box (cs := [.slice A1 p0.P.Devices.length c_1, .slice A2 p0.P.Tables.length c_2, iv p0.P.Job.Dev, iv p0.P.Job.At, iv p0.P.Job.Table.Dev, iv p0.P.Job.Table.Size, .slice A3 p0.P.Job.Table.List_.length c_3, iv p0.P.Next, .slice A4 p0.Q.length c_4]) (.inl rfl) ⟨rfl, rfl, rfl, rfl⟩ rfl rfl rfl ?_))
 intro b1 w1 x1 l1 h5
 have sx1 := x1.size
 have ltb1 := h5.lt
 refine pu 1 rfl (RW.done (NW.next (CW.seq (CW.lex [.W, .L, .X, .W, .W, .W, .L, .W, .W, .W, .W] rfl ?_))))
 refine pu 1 rfl (RW.lb tk [.slice A1 p0.P.Devices.length c_1, .slice A2 p0.P.Tables.length c_2, iv p0.P.Job.Dev, iv p0.P.Job.At, iv p0.P.Job.Table.Dev, iv p0.P.Job.Table.Size, .slice A3 p0.P.Job.Table.List_.length c_3, iv p0.P.Next] h5 0 ?_)
 have h6 := h1.ext x1
 have h7 := h2.ext x1
 have h8 := h3.ext x1
 obtain ⟨y1, h9, H⟩ := bind_some H
 refine RW.cl ent19 (hermitagelaw0_PoolWeight.calls k p0.P A1 c_1 A2 c_2 A3 c_3 _ _ h6.all hl1 h7.all hl2 h8.all hl3 h9) ?_
 rintro _ w2 ⟨rfl, x2⟩
 refine ⟨_, rfl, x2, ?_⟩
 have sx2 := x2.size
 refine pu 2 rfl ?_
 have j1 := (x0.tr x1).tr x2
 by_cases c1 : 1200 < y1
 ·rw [if_pos c1] at H
  refine RW.bool 7 (b' := true) (decide_eq_true c1) rfl (pu 6 rfl (RW.done (NW.next (CW.ret ?_))))
  obtain rfl := Option.some.inj H
  exact NW.ret1 rfl (by rfl) ⟨rfl, j1⟩
 rw [if_neg c1] at H
 refine RW.bool 7 (b' := false) (decide_eq_false c1) rfl (pu 1 rfl ?_)
 have h11 := h5.ext x2
 refine RW.ld tk [.slice A4 p0.Q.length c_4] (h11.at 8) ?_
 refine pu 4 rfl (RW.done (NW.next (CW.ret ?_)))
 obtain rfl := Option.some.inj H
 exact NW.ret1 rfl (by rfl) ⟨rfl, j1⟩
end Go.Proofs.YtnaajldlloglkaaGreatDoor.W
