/- Walks; printed by a program of the claim. -/
import Derived.Test.YtnaajldlloglkaaGreatDoorMoveW2
set_option linter.unusedVariables false
set_option linter.unusedSimpArgs false
set_option maxHeartbeats 20000000
set_option maxRecDepth 100000
namespace Go.Proofs.YtnaajldlloglkaaGreatDoor.W
open Go.H Go.Proofs
theorem move_Remove.calls (k : Nat) (p0 : Pool) (A1 : Option Addr) (c_1 : Nat) (A2 : Option Addr) (c_2 : Nat) (A3 : Option Addr) (c_3 : Nat) (p1 : Int) (r : Pool × Int) (w : World) (hs1 : Sl kDeviceR w.heap okAll A1 p0.Devices) (hl1 : p0.Devices.length ≤ c_1) (hs2 : Sl kTableR w.heap okAll A2 p0.Tables) (hl2 : p0.Tables.length ≤ c_2) (hs3 : Sl kEntry w.heap okAll A3 p0.Job.Table.List_) (hl3 : p0.Job.Table.List_.length ≤ c_3) {gT : Nat} (hG : Box w.heap 0 gT (arrI .u8 64 tz)) (H : move_Remove.f k p0 p1 = some r) :
    Calls Tryz.prog 11 #[.agg #[.slice A1 p0.Devices.length c_1, .slice A2 p0.Tables.length c_2, iv p0.Job.Dev, iv p0.Job.At, iv p0.Job.Table.Dev, iv p0.Job.Table.Size, .slice A3 p0.Job.Table.List_.length c_3, iv p0.Next], iv p1] w fun e w' => ∃ (B1 : Option Addr) (d1 : Nat) (B2 : Option Addr) (d2 : Nat) (B3 : Option Addr) (d3 : Nat), e = .returned (.tuple #[.agg #[.slice B1 r.1.Devices.length d1, .slice B2 r.1.Tables.length d2, iv r.1.Job.Dev, iv r.1.Job.At, iv r.1.Job.Table.Dev, iv r.1.Job.Table.Size, .slice B3 r.1.Job.Table.List_.length d3, iv r.1.Next], iv r.2]) ∧ Ext w w' ∧ Ow kDeviceO 40 w'.heap (okL [(w.heap.size, none, some 40)]) (okL [(w.heap.size, none, some 105)]) B1 d1 r.1.Devices ∧ Ow kTableO 26 w'.heap (okL [(w.heap.size, none, some 26)]) (okL [(w.heap.size, none, some 66)]) B2 d2 r.1.Tables ∧ Ow kEntry 66 w'.heap (okL [(w.heap.size, none, some 66)]) (okL []) B3 d3 r.1.Job.Table.List_ := by
 have h1 : Sl kDeviceR w.heap (okL [(0, some w.heap.size, none)]) A1 p0.Devices := hs1.old _ rfl
 have h2 : Sl kTableR w.heap (okL [(0, some w.heap.size, none)]) A2 p0.Tables := hs2.old _ rfl
 have h3 : Sl kEntry w.heap (okL [(0, some w.heap.size, none)]) A3 p0.Job.Table.List_ := hs3.old _ rfl
 have hG0 : 0 < w.heap.size := hG.lt
 have x0 : Ext w w := Upd.refl _ w
 unfold move_Remove.f at H
 refine calls_start Tryz.func11 rfl 106 rfl [.agg #[.slice A1 p0.Devices.length c_1, .slice A2 p0.Tables.length c_2, iv p0.Job.Dev, iv p0.Job.At, iv p0.Job.Table.Dev, iv p0.Job.Table.Size, .slice A3 p0.Job.Table.List_.length c_3, iv p0.Next], iv p1] rfl ?_
 refine CW.seq (CW.lex [.X, .X, .W] rfl (RW.box (cs := [.slice A1 p0.Devices.length c_1, .slice A2 p0.Tables.length c_2, iv p0.Job.Dev, iv p0.Job.At, iv p0.Job.Table.Dev, iv p0.Job.Table.Size, .slice A3 p0.Job.Table.List_.length c_3, iv p0.Next]) (.inl rfl) ⟨rfl, rfl, rfl, rfl⟩ rfl rfl rfl ?_))
 intro b1 w1 x1 l1 h4
 have sx1 := x1.size
 have ltb1 := h4.lt
 refine RW.alloc tk (.inl rfl) ⟨rfl, rfl, rfl, rfl⟩ rfl rfl ?_
 intro b2 w2 x2 l2 h5
 have sx2 := x2.size
 have ltb2 := h5.lt
 refine pu 1 rfl (RW.done (NW.next (CW.seq (CW.lex [.L, .X, .W, .W, .W, .W, .W] rfl ?_))))
 have h6 := h4.ext x2
 refine RW.ld tk [.slice A1 p0.Devices.length c_1, .slice A2 p0.Tables.length c_2, iv p0.Job.Dev, iv p0.Job.At, iv p0.Job.Table.Dev, iv p0.Job.Table.Size, .slice A3 p0.Job.Table.List_.length c_3, iv p0.Next] (h6.at 0) ?_
 have xc1 : Ext w2 w2 := Upd.refl _ _
 refine RW.callK (.inl rfl) ent30 ⟨rfl, rfl, rfl, rfl⟩ rfl rfl rfl ?_
 refine calls_start Tryz.func30 rfl 11 rfl [.agg #[.slice A1 p0.Devices.length c_1, .slice A2 p0.Tables.length c_2, iv p0.Job.Dev, iv p0.Job.At, iv p0.Job.Table.Dev, iv p0.Job.Table.Size, .slice A3 p0.Job.Table.List_.length c_3, iv p0.Next]] rfl ?_
 refine CW.seq (CW.lex [.X, .W, .W] rfl (RW.box (cs := [.slice A1 p0.Devices.length c_1, .slice A2 p0.Tables.length c_2, iv p0.Job.Dev, iv p0.Job.At, iv p0.Job.Table.Dev, iv p0.Job.Table.Size, .slice A3 p0.Job.Table.List_.length c_3, iv p0.Next]) (.inl rfl) ⟨rfl, rfl, rfl, rfl⟩ rfl rfl rfl ?_))
 intro b3 w3 x3 l3 h7
 have sx3 := x3.size
 have ltb3 := h7.lt
 refine pu 2 rfl (RW.done (NW.next (CW.seq (CW.seq ?_))))
 refine CW.lex [.L, .X, .W] rfl (RW.ld tk [.slice A1 p0.Devices.length c_1, .slice A2 p0.Tables.length c_2, iv p0.Job.Dev, iv p0.Job.At, iv p0.Job.Table.Dev, iv p0.Job.Table.Size, .slice A3 p0.Job.Table.List_.length c_3, iv p0.Next] (h7.at 0) ?_)
 have h8 := ((h1.ext x1).ext x2).ext x3
 have h9 := ((h2.ext x1).ext x2).ext x3
 have h10 := ((h3.ext x1).ext x2).ext x3
 obtain ⟨y1, h11, H⟩ := bind_some H
 refine RW.cl ent53 (chain_May.calls k p0 A1 c_1 A2 c_2 A3 c_3 _ _ h8.all hl1 h9.all hl2 h10.all hl3 h11) ?_
 rintro _ w4 ⟨rfl, x4⟩
 refine ⟨_, rfl, x4, ?_⟩
 have sx4 := x4.size
 refine pu 1 rfl (RW.done (NW.next ?_))
 by_cases c1 : y1 = true
 ·rw [if_pos c1] at H
  refine CW.cond_f rfl (not_f (c1)) (CW.skip (NW.next (CW.seq (CW.lex [.L, .X, .W, .X, .W, .W] rfl ?_))))
  have h12 := h7.ext x4
  refine RW.ld tk [.slice A1 p0.Devices.length c_1, .slice A2 p0.Tables.length c_2, iv p0.Job.Dev, iv p0.Job.At, iv p0.Job.Table.Dev, iv p0.Job.Table.Size, .slice A3 p0.Job.Table.List_.length c_3, iv p0.Next] (h12.at 0) ?_
  have h13 := h8.ext x4
  have h14 := h9.ext x4
  have h15 := h10.ext x4
  obtain ⟨y2, h16, H⟩ := bind_some H
  refine RW.cl ent54 (chain_Own.calls k p0 A1 c_1 A2 c_2 A3 c_3 _ _ h13.all hl1 h14.all hl2 h15.all hl3 h16) ?_
  rintro _ w5 ⟨mid1, A4, c_4, A5, c_5, A6, c_6, rfl, x5, lomid1, himid1, h17, h18, h19⟩
  refine ⟨_, rfl, x5, ?_⟩
  have sx5 := x5.size
  have h20 : Ow kDeviceO 40 w5.heap (okL [(w4.heap.size, some w5.heap.size, some 40)]) (okL [(w4.heap.size, some w5.heap.size, some 105)]) A4 c_4 y2.Devices := h17.close
  have h21 : Ow kTableO 26 w5.heap (okL [(w4.heap.size, some w5.heap.size, some 26)]) (okL [(mid1, some w5.heap.size, some 66)]) A5 c_5 y2.Tables := h18.close
  have h22 : Ow kEntry 66 w5.heap (okL [(w4.heap.size, some mid1, some 66)]) (okL []) A6 c_6 y2.Job.Table.List_ := h19.close
  refine pu 1 rfl (RW.box (cs := [.slice A4 y2.Devices.length c_4, .slice A5 y2.Tables.length c_5, iv y2.Job.Dev, iv y2.Job.At, iv y2.Job.Table.Dev, iv y2.Job.Table.Size, .slice A6 y2.Job.Table.List_.length c_6, iv y2.Next]) (.inl rfl) ⟨rfl, rfl, rfl, rfl⟩ rfl rfl rfl ?_)
  intro b4 w6 x6 l4 h23
  have sx6 := x6.size
  have ltb4 := h23.lt
  refine pu 2 rfl (RW.done (NW.next (CW.ret ?_)))
  have h24 := (((xc1.tr x3).tr x4).tr x5).tr x6
  refine NW.ret2 rfl (by rfl) (by rfl) ⟨_, rfl, h24, ?_⟩
  refine pu 5 rfl (RW.done (NW.next (CW.seq (CW.seq ?_))))
  refine CW.lw 2 rfl (pu 2 rfl (RW.done (NW.next (CW.cond_f rfl rfl ?_))))
  refine CW.skip (NW.next (CW.seq (CW.lex [.W, .W, .W, .W, .L, .W, .X, .W, .W, .W, .W, .W] rfl (pu 4 rfl ?_))))
  refine RW.lb tk [.slice A4 y2.Devices.length c_4] h23 0 ?_
  refine pu 1 rfl ?_
  have h25 := h20.ext x6
  obtain ⟨y3, h26, H⟩ := bind_some H
  refine RW.cl ent31 (room_Find.calls k A4 c_4 y2.Devices p1 _ _ (h25.all.to kDevice_ro rfl) h25.len h26) ?_
  rintro _ w7 ⟨rfl, x7⟩
  refine ⟨_, rfl, x7, ?_⟩
  have sx7 := x7.size
  refine pu 5 rfl (RW.done (NW.next (CW.seq (CW.block ?_))))
  refine CW.seq (CW.lw 3 rfl (pu 3 rfl (RW.done (NW.next ?_))))
  by_cases c2 : y3.2 = true
  ·rw [if_pos c2] at H
   refine CW.cond_f rfl (not_f (c2)) (CW.seq (CW.lex [.W, .W, .W, .W, .W, .L, .W, .W] rfl (pu 5 rfl ?_)))
   have h27 := h23.ext x7
   refine RW.lb tk [iv y2.Job.Dev] h27 2 ?_
   refine pu 2 rfl (RW.done (NW.next ?_))
   by_cases c3 : y2.Job.Dev = 0
   ·rw [if_pos c3] at H
    refine CW.cond_f rfl (bne_f c3) (CW.seq (CW.lex [.W, .W, .W, .W, .L, .W, .W, .W] rfl (pu 4 rfl (RW.lb tk [.slice A4 y2.Devices.length c_4] h27 0 ?_))))
    refine pu 3 rfl (RW.done (NW.next ?_))
    have j1 := ((((h5.ext x3).ext x4).ext x5).ext x6).ext x7
    have j2 := ((((((x0.tr x1).tr x2).tr x3).tr x4).tr x5).tr x6).tr x7
    by_cases c4 : (y2.Devices.length : Int) = 1
    ·rw [if_pos c4] at H
     refine CW.cond_t rfl (beq_t c4) (CW.seq (CW.lex [.W, .M, .W] rfl (pu 1 rfl (RW.sb tk j1 [.slice none 0 0, .slice none 0 0, iv 0, iv 0, iv 0, iv 0, .slice none 0 0, iv 0] ?_))))
     intro w8 x8 h29
     have h30 : Box w8.heap b2 30 [.slice none 0 0, .slice none 0 0, iv 0, iv 0, iv 0, iv 0, .slice none 0 0, iv 0] := h29
     have sx8 := x8.size
     refine pu 1 rfl (RW.done (NW.next (CW.ret ?_)))
     refine NW.ret_block (NW.ret_then ?_)
     obtain rfl := Option.some.inj H
     have h31 := j2.tB x8
     exact NW.ret2 rfl (resOne_cell tk (h30.at 0) rfl rfl rfl) (by rfl) ⟨none, 0, none, 0, none, 0, rfl, h31, Ow.nil, Ow.nil, Ow.nil⟩
    rw [if_neg c4] at H
    refine CW.cond_f rfl (beq_f c4) (CW.seq (CW.lex [.W, .W, .W, .W, .L, .W, .W, .W] rfl (pu 4 rfl (RW.lb tk [.slice A5 y2.Tables.length c_5] h27 1 ?_))))
    refine pu 3 rfl (RW.done (NW.next ?_))
    by_cases c5 : 12 ≤ (y2.Tables.length : Int)
    ·rw [if_pos c5] at H
     cases H
    rw [if_neg c5] at H
    refine CW.cond_f rfl (decide_eq_false c5) (CW.seq (CW.ord [0, 1, 3, 7, 15, 0, 63, 0, 128, 384, 896, 1920, 0, 8064, 16256, 32767, 65535, 131071, 262143] (ofL [(0, .W), (1, .W), (2, .W), (3, .W), (5, .W), (7, .W), (8, .W), (9, .W), (10, .W), (12, .W), (4, .L), (11, .L), (13, .W), (14, .L), (6, .X), (15, .X), (16, .X), (17, .W), (18, .W)] .nil) mixed (by kernel_rfl) ?_))
    intro w9 x9
    have sx9 := x9.size
    refine pu 10 rfl ?_
    have h32 := h27.ext x9
    refine RW.lb tk [.slice A4 y2.Devices.length c_4] h32 0 ?_
    refine RW.lb tk [.slice A4 y2.Devices.length c_4] h32 0 ?_
    obtain ⟨g1, H⟩ := guard_some H
    have h33 := (h25.ext x7).ext x9
    obtain ⟨ad1, A7, c_7, A8, c_8, e1, a1, h34, h35⟩ := kDeviceO_ato h33 g1.1 g1.2
    refine RW.ix tk g1 e1 ?_
    refine RW.ld tk [iv ((rd y2.Devices y3.1).ID), iv ((rd y2.Devices y3.1).Size), .slice A7 ((rd y2.Devices y3.1).Free).length c_7, .slice A8 ((rd y2.Devices y3.1).Late).length c_8] a1 ?_
    obtain ⟨y4, h36, H⟩ := bind_some H
    refine RW.cl ent32 (move_Loose.calls k A4 c_4 y2.Devices p1 _ _ (h33.all.to kDevice_ro rfl) h33.len h36) ?_
    rintro _ w10 ⟨rfl, x10⟩
    refine ⟨_, rfl, x10, ?_⟩
    have sx10 := x10.size
    have h37 := h34.ext x10
    have h38 := h35.ext x10
    obtain ⟨y5, h39, H⟩ := bind_some H
    refine RW.cl ent33 (room_Busy.calls k (rd y2.Devices y3.1) A7 c_7 A8 c_8 _ _ h37.all h37.len h38.all h38.len h39) ?_
    rintro _ w11 ⟨rfl, x11⟩
    refine ⟨_, rfl, x11, ?_⟩
    have sx11 := x11.size
    obtain ⟨y6, h40, H⟩ := bind_some H
    refine RW.cl ent34 (seg_Set_Count.calls y5 _ _ h40) ?_
    rintro _ w12 ⟨rfl, x12⟩
    refine ⟨_, rfl, x12, ?_⟩
    have sx12 := x12.size
    refine pu 2 rfl (RW.done (NW.next ?_))
    have j3 := (((j1.ext x9).ext x10).ext x11).ext x12
    have j4 := (((j2.tr x9).tr x10).tr x11).tr x12
    by_cases c6 : y4 < y6
    ·rw [if_pos c6] at H
     refine CW.cond_t rfl (decide_eq_true c6) (CW.seq (CW.lex [.W, .M, .W] rfl (pu 1 rfl (RW.sb tk j3 [.slice none 0 0, .slice none 0 0, iv 0, iv 0, iv 0, iv 0, .slice none 0 0, iv 0] ?_))))
     intro w13 x13 h42
     have h43 : Box w13.heap b2 30 [.slice none 0 0, .slice none 0 0, iv 0, iv 0, iv 0, iv 0, .slice none 0 0, iv 0] := h42
     have sx13 := x13.size
     refine pu 1 rfl (RW.done (NW.next (CW.ret ?_)))
     refine NW.ret_block (NW.ret_then ?_)
     obtain rfl := Option.some.inj H
     have h44 := j4.tB x13
     exact NW.ret2 rfl (resOne_cell tk (h43.at 0) rfl rfl rfl) (by rfl) ⟨none, 0, none, 0, none, 0, rfl, h44, Ow.nil, Ow.nil, Ow.nil⟩
    rw [if_neg c6] at H
    refine CW.cond_f rfl (decide_eq_false c6) (CW.skip ?_)
    refine NW.norm_block (NW.next ?_)
    refine CW.seq (CW.lex [.W, .W, .W, .W, .W, .W, .W, .L, .W, .W, .W, .L, .W, .W, .W, .W, .W, .M] rfl (pu 7 rfl ?_))
    have h45 := ((h32.ext x10).ext x11).ext x12
    refine RW.lb tk [.slice A4 y2.Devices.length c_4] h45 0 ?_
    refine pu 1 rfl ?_
    obtain ⟨g2, H⟩ := guard_some H
    have h46 := ((h33.ext x10).ext x11).ext x12
    obtain ⟨ad2, A9, c_9, A10, c_10, e2, a2, h47, h48⟩ := kDeviceO_ato h46 g2.1 g2.2
    refine RW.ix tk g2 e2 ?_
    refine pu 1 rfl (RW.ld tk [iv ((rd y2.Devices y3.1).Size)] ((a2.fld 1).take 1 rfl) ?_)
    refine pu 5 rfl (RW.sb tk h45 [iv p1, iv 0, iv p1, iv ((rd y2.Devices y3.1).Size), .slice none 0 0] ?_)
    intro w14 x14 h49
    have h50 : Box w14.heap b4 78 [.slice A4 y2.Devices.length c_4, .slice A5 y2.Tables.length c_5, iv p1, iv 0, iv p1, iv ((rd y2.Devices y3.1).Size), .slice none 0 0, iv y2.Next] := h49
    have sx14 := x14.size
    refine RW.done (NW.next (CW.seq (CW.lex [.W, .W, .W, .W, .L, .M] rfl (pu 4 rfl ?_))))
    refine RW.lb tk [.slice A4 y2.Devices.length c_4] h50 0 ?_
    refine RW.callKM ent35 ⟨rfl, rfl, rfl, rfl⟩ rfl rfl rfl ?_
    refine calls_start Tryz.func35 rfl 28 rfl [.slice A4 y2.Devices.length c_4] rfl ?_
    refine CW.seq (CW.lw 3 rfl (pu 3 rfl (RW.done (NW.next ?_))))
    refine CW.block ?_
    refine CW.loop (fun n1 a w15 => ∃ (lt0_0 : List Device) (it6_0 : Int), Sat 28 [(0, .slice A4 lt0_0.length c_4), (4, .slice A4 lt0_0.length c_4), (5, iv (y2.Devices.length : Int)), (6, iv it6_0)] a ∧ w14.heap.size ≤ w15.heap.size ∧ Ow kDeviceO 40 w15.heap (okL [(w4.heap.size, none, some 40)]) (okL [(w4.heap.size, none, some 105)]) A4 c_4 lt0_0 ∧ Ow kTableO 26 w15.heap (okL [(w4.heap.size, some w5.heap.size, some 26)]) (okL [(mid1, some w5.heap.size, some 66)]) A5 c_5 y2.Tables ∧ Ext w w15 ∧ lt0_0.length = y2.Devices.length ∧ Box w15.heap b2 30 [.slice none 0 0, .slice none 0 0, iv 0, iv 0, iv 0, iv 0, .slice none 0 0, iv 0] ∧ Box w15.heap b4 78 [.slice A4 lt0_0.length c_4, .slice A5 y2.Tables.length c_5, iv p1, iv 0, iv p1, iv ((rd y2.Devices y3.1).Size), .slice none 0 0, iv y2.Next] ∧ move_Remove.l0 p1 k y2 y3 n1 lt0_0 it6_0 = some r) k ?_ ?_
    have h51 := h46.tB x14 h45
    have h52 := ((((((h21.ext x6).ext x7).ext x9).ext x10).ext x11).ext x12).tB x14 h45
    have h53 := j4.tB x14
    have h54 := j3.tB x14
    ·exact fun a ha => ⟨y2.Devices, 0, ha.sb, by omega, (h51.sb), h52, h53, (by (try simp only [List.length_set]) <;> omega), h54, h50, H⟩
    intro n1 a w15 hI hp
    obtain ⟨lt0_0, it6_0, hS, hle, ft0_0, gF5_0, x0_0, ln_lt0_0, gb2_0, gb4_0, H⟩ := hI
    cases n1 with
    | zero => cases H
    | succ n1 =>
     rw [move_Remove.l0] at H
     refine CW.go hp hS ?_
     have h55 : Ow kDeviceO 40 w15.heap (okL [(w4.heap.size, some w15.heap.size, some 40)]) (okL [(w4.heap.size, some w15.heap.size, some 105)]) A4 c_4 lt0_0 := ft0_0.close
     have xt1 : Ext w15 w15 := Upd.refl _ _
     refine CW.seq (CW.lw 1 rfl (pu 1 rfl (RW.done (NW.next ?_))))
     refine CW.seq ?_
     by_cases c7 : it6_0 < (y2.Devices.length : Int)
     ·rw [if_pos c7] at H
      refine CW.cond_t rfl (decide_eq_true c7) (CW.skip (NW.next (CW.seq (CW.block ?_))))
      refine CW.seq (CW.lex [.W, .W, .L, .X, .W, .M] rfl (pu 1 rfl ?_))
      obtain ⟨g3, H⟩ := guard_some H
      obtain ⟨ad3, A11, c_11, A12, c_12, e3, a3, h56, h57⟩ := kDeviceO_ato h55 g3.1 g3.2
      refine RW.ix tk g3 e3 ?_
      refine RW.ld tk [iv ((rd lt0_0 it6_0).ID), iv ((rd lt0_0 it6_0).Size), .slice A11 ((rd lt0_0 it6_0).Free).length c_11, .slice A12 ((rd lt0_0 it6_0).Late).length c_12] a3 ?_
      refine RW.alloc tk (.inl rfl) ⟨rfl, rfl, rfl, rfl⟩ rfl rfl ?_
      intro b5 w16 x15 l11 h58
      have sx15 := x15.size
      have ltb5 := h58.lt
      refine pu 1 rfl (RW.sb tk h58 [iv ((rd lt0_0 it6_0).ID), iv ((rd lt0_0 it6_0).Size), .slice A11 ((rd lt0_0 it6_0).Free).length c_11, .slice A12 ((rd lt0_0 it6_0).Late).length c_12] ?_)
      intro w17 x16 h59
      have h60 : Box w17.heap b5 40 [iv ((rd lt0_0 it6_0).ID), iv ((rd lt0_0 it6_0).Size), .slice A11 ((rd lt0_0 it6_0).Free).length c_11, .slice A12 ((rd lt0_0 it6_0).Late).length c_12] := h59
      have sx16 := x16.size
      refine RW.done (NW.next (CW.ord [0, 0, 0, 0, 0, 16, 48, 0, 128, 496, 1008, 2032, 4083, 8179, 16371, 32767, 65535, 131071] (ofL [(0, .W), (1, .W), (2, .W), (3, .W), (4, .W), (7, .W), (5, .L), (8, .L), (6, .X), (9, .X), (10, .W), (11, .X), (12, .W), (13, .W), (14, .M), (15, .W), (16, .W), (17, .M)] .nil) mixed (by kernel_rfl) ?_))
      intro w18 x17
      have sx17 := x17.size
      refine pu 6 rfl ?_
      have h61 := h60.ext x17
      refine RW.lb tk [.slice A11 ((rd lt0_0 it6_0).Free).length c_11] h61 2 ?_
      refine RW.ld tk [.slice A12 ((rd lt0_0 it6_0).Late).length c_12] (h61.at 3) ?_
      have h62 := ((h56.ext x15).tB x16 h58).ext x17
      obtain ⟨y7, h63, H⟩ := bind_some H
      refine RW.cl ent57 (seg_Make.calls k A11 c_11 ((rd lt0_0 it6_0).Free) _ _ h62.all h62.len h63) ?_
      rintro _ w19 ⟨rfl, x18⟩
      refine ⟨_, rfl, x18, ?_⟩
      have sx18 := x18.size
      have h64 := (((h57.ext x15).tB x16 h58).ext x17).ext x18
      obtain ⟨y8, h65, H⟩ := bind_some H
      refine RW.cl ent57 (seg_Make.calls k A12 c_12 ((rd lt0_0 it6_0).Late) _ _ h64.all h64.len h65) ?_
      rintro _ w20 ⟨rfl, x19⟩
      refine ⟨_, rfl, x19, ?_⟩
      have sx19 := x19.size
      refine pu 1 rfl ?_
      have h66 := (((((hG.ext x0_0).ext x15).tB x16).ext x17).ext x18).ext x19
      obtain ⟨y9, h67, H⟩ := bind_some H
      refine RW.cl ent40 (seg_Set_Segs.calls k (uor y7 y8) _ _ h66 h67) ?_
      rintro _ w21 ⟨A13, c_13, rfl, x20, h68⟩
      refine ⟨_, rfl, x20, ?_⟩
      have sx20 := x20.size
      have h69 : Ow kSeg 105 w21.heap (okL [(w20.heap.size, some w21.heap.size, some 105)]) (okL []) A13 c_13 y9 := h68.close
      obtain ⟨g4, H⟩ := guard_some H
      have h70 := (((((h55.ext x15).turnB x16 h58 ⟨.inr (by omega), trivial⟩ ⟨.inl (nq rfl), trivial⟩).ext x17).ext x18).ext x19).ext x20
      obtain ⟨ad4, A14, c_14, A15, c_15, e4, a4, h71, h72⟩ := kDeviceO_ato h70 g4.1 g4.2
      refine RW.ix tk g4 e4 ?_
      refine pu 1 rfl ?_
      refine RW.storeElL (y := (⟨(rd lt0_0 it6_0).ID, (rd lt0_0 it6_0).Size, y9, (rd lt0_0 it6_0).Late⟩ : Device)) (lv := [(w20.heap.size, some w21.heap.size, some 105)]) (k := 2) tk h70 (j := it6_0.toNat) (by have := g4; omega) default [.slice A13 y9.length c_13] (fun cs ok' hr => by obtain ⟨qa1, qc1, qa2, qc2, rfl, q1, q2⟩ := kDeviceO_open hr; exact ⟨by simp, kDeviceO_mk (⟨(rd lt0_0 it6_0).ID, (rd lt0_0 it6_0).Size, y9, (rd lt0_0 it6_0).Late⟩ : Device) (h69.mono (fun _ _ ho => Or.inr (okL_sub (l := [(w20.heap.size, some w21.heap.size, some 105)]) (l' := [(w20.heap.size, some w21.heap.size, some 105)]) ⟨(.inl ⟨by omega, by omega, rfl⟩), trivial⟩ ho)) (fun _ _ ho => Or.inr (okL_sub (l := []) (l' := [(w20.heap.size, some w21.heap.size, some 105)]) trivial ho))) (q2.mono (fun _ _ ho => Or.inl ho) (fun _ _ ho => Or.inl ho))⟩) ⟨⟨.inl (nq rfl), trivial⟩, trivial⟩ ⟨rfl, rfl, rfl⟩ rfl rfl e4 rfl rfl rfl rfl rfl ?_
      intro w22 x21 h73
      have sx21 := x21.size
      have h74 := h73.close.sub (l' := [(w4.heap.size, some w15.heap.size, some 40)]) (li' := [(w4.heap.size, some w21.heap.size, some 105)]) ⟨(.inl ⟨by omega, by omega, rfl⟩), trivial⟩ ⟨(.inl ⟨by omega, by omega, rfl⟩), ⟨(.inl ⟨by omega, by omega, rfl⟩), trivial⟩⟩
      refine RW.tell 0 (v' := .slice A4 (lt0_0.set it6_0.toNat (⟨(rd lt0_0 it6_0).ID, (rd lt0_0 it6_0).Size, y9, (rd lt0_0 it6_0).Late⟩ : Device)).length c_4) (by simp only [List.length_set]) rfl (RW.tell 4 (v' := .slice A4 (lt0_0.set it6_0.toNat (⟨(rd lt0_0 it6_0).ID, (rd lt0_0 it6_0).Size, y9, (rd lt0_0 it6_0).Late⟩ : Device)).length c_4) (by simp only [List.length_set]) rfl (RW.tell 13 (v' := .slice A4 (lt0_0.set it6_0.toNat (⟨(rd lt0_0 it6_0).ID, (rd lt0_0 it6_0).Size, y9, (rd lt0_0 it6_0).Late⟩ : Device)).length c_4) (by simp only [List.length_set]) rfl ?_))
      have h75 := ((((((gb4_0.ext x15).tB x16).ext x17).ext x18).ext x19).ext x20).tL x21
      have h76 : Box w22.heap b4 78 [.slice A4 (lt0_0.set it6_0.toNat (⟨(rd lt0_0 it6_0).ID, (rd lt0_0 it6_0).Size, y9, (rd lt0_0 it6_0).Late⟩ : Device)).length c_4, .slice A5 y2.Tables.length c_5, iv p1, iv 0, iv p1, iv ((rd y2.Devices y3.1).Size), .slice none 0 0, iv y2.Next] := by simpa only [List.length_set] using h75
      obtain ⟨g5, H⟩ := guard_some H
      obtain ⟨ad5, A16, c_16, A17, c_17, e5, a5, h77, h78⟩ := kDeviceO_ato h74 g5.1 g5.2
      refine RW.ix tk g5 e5 ?_
      refine pu 1 rfl ?_
      refine RW.storeElL (y := (⟨(rd (lt0_0.set it6_0.toNat (⟨(rd lt0_0 it6_0).ID, (rd lt0_0 it6_0).Size, y9, (rd lt0_0 it6_0).Late⟩ : Device)) it6_0).ID, (rd (lt0_0.set it6_0.toNat (⟨(rd lt0_0 it6_0).ID, (rd lt0_0 it6_0).Size, y9, (rd lt0_0 it6_0).Late⟩ : Device)) it6_0).Size, (rd (lt0_0.set it6_0.toNat (⟨(rd lt0_0 it6_0).ID, (rd lt0_0 it6_0).Size, y9, (rd lt0_0 it6_0).Late⟩ : Device)) it6_0).Free, ([] : List Seg)⟩ : Device)) (lv := []) (k := 3) tk h74 (j := it6_0.toNat) (by have := g5; omega) default [.slice none 0 0] (fun cs ok' hr => by obtain ⟨qa1, qc1, qa2, qc2, rfl, q1, q2⟩ := kDeviceO_open hr; exact ⟨by simp, kDeviceO_mk (⟨(rd (lt0_0.set it6_0.toNat (⟨(rd lt0_0 it6_0).ID, (rd lt0_0 it6_0).Size, y9, (rd lt0_0 it6_0).Late⟩ : Device)) it6_0).ID, (rd (lt0_0.set it6_0.toNat (⟨(rd lt0_0 it6_0).ID, (rd lt0_0 it6_0).Size, y9, (rd lt0_0 it6_0).Late⟩ : Device)) it6_0).Size, (rd (lt0_0.set it6_0.toNat (⟨(rd lt0_0 it6_0).ID, (rd lt0_0 it6_0).Size, y9, (rd lt0_0 it6_0).Late⟩ : Device)) it6_0).Free, ([] : List Seg)⟩ : Device) (q1.mono (fun _ _ ho => Or.inl ho) (fun _ _ ho => Or.inl ho)) Ow.nil⟩) trivial ⟨rfl, rfl, rfl⟩ rfl rfl e5 rfl rfl rfl rfl rfl ?_
      intro w23 x22 h79
      have sx22 := x22.size
      have h80 := h79.sub (l' := [(w4.heap.size, some w15.heap.size, some 40)]) (li' := [(w4.heap.size, some w21.heap.size, some 105)]) ⟨(.inl ⟨by omega, by omega, rfl⟩), trivial⟩ ⟨(.inl ⟨by omega, by omega, rfl⟩), trivial⟩
      refine RW.tell 0 (v' := .slice A4 ((lt0_0.set it6_0.toNat (⟨(rd lt0_0 it6_0).ID, (rd lt0_0 it6_0).Size, y9, (rd lt0_0 it6_0).Late⟩ : Device)).set it6_0.toNat (⟨(rd (lt0_0.set it6_0.toNat (⟨(rd lt0_0 it6_0).ID, (rd lt0_0 it6_0).Size, y9, (rd lt0_0 it6_0).Late⟩ : Device)) it6_0).ID, (rd (lt0_0.set it6_0.toNat (⟨(rd lt0_0 it6_0).ID, (rd lt0_0 it6_0).Size, y9, (rd lt0_0 it6_0).Late⟩ : Device)) it6_0).Size, (rd (lt0_0.set it6_0.toNat (⟨(rd lt0_0 it6_0).ID, (rd lt0_0 it6_0).Size, y9, (rd lt0_0 it6_0).Late⟩ : Device)) it6_0).Free, ([] : List Seg)⟩ : Device)).length c_4) (by simp only [List.length_set]) rfl (RW.tell 4 (v' := .slice A4 ((lt0_0.set it6_0.toNat (⟨(rd lt0_0 it6_0).ID, (rd lt0_0 it6_0).Size, y9, (rd lt0_0 it6_0).Late⟩ : Device)).set it6_0.toNat (⟨(rd (lt0_0.set it6_0.toNat (⟨(rd lt0_0 it6_0).ID, (rd lt0_0 it6_0).Size, y9, (rd lt0_0 it6_0).Late⟩ : Device)) it6_0).ID, (rd (lt0_0.set it6_0.toNat (⟨(rd lt0_0 it6_0).ID, (rd lt0_0 it6_0).Size, y9, (rd lt0_0 it6_0).Late⟩ : Device)) it6_0).Size, (rd (lt0_0.set it6_0.toNat (⟨(rd lt0_0 it6_0).ID, (rd lt0_0 it6_0).Size, y9, (rd lt0_0 it6_0).Late⟩ : Device)) it6_0).Free, ([] : List Seg)⟩ : Device)).length c_4) (by simp only [List.length_set]) rfl ?_)
      have h81 := h76.tL x22
      have h82 : Box w23.heap b4 78 [.slice A4 ((lt0_0.set it6_0.toNat (⟨(rd lt0_0 it6_0).ID, (rd lt0_0 it6_0).Size, y9, (rd lt0_0 it6_0).Late⟩ : Device)).set it6_0.toNat (⟨(rd (lt0_0.set it6_0.toNat (⟨(rd lt0_0 it6_0).ID, (rd lt0_0 it6_0).Size, y9, (rd lt0_0 it6_0).Late⟩ : Device)) it6_0).ID, (rd (lt0_0.set it6_0.toNat (⟨(rd lt0_0 it6_0).ID, (rd lt0_0 it6_0).Size, y9, (rd lt0_0 it6_0).Late⟩ : Device)) it6_0).Size, (rd (lt0_0.set it6_0.toNat (⟨(rd lt0_0 it6_0).ID, (rd lt0_0 it6_0).Size, y9, (rd lt0_0 it6_0).Late⟩ : Device)) it6_0).Free, ([] : List Seg)⟩ : Device)).length c_4, .slice A5 y2.Tables.length c_5, iv p1, iv 0, iv p1, iv ((rd y2.Devices y3.1).Size), .slice none 0 0, iv y2.Next] := by simpa only [List.length_set] using h81
      refine RW.done ?_
      refine NW.norm_block (NW.next ?_)
      refine CW.lw 2 rfl (pu 2 rfl (RW.done ?_))
      have h83 := (((((((gF5_0.ext x15).tB x16 h58).ext x17).ext x18).ext x19).ext x20).tL x21).tL x22
      have h84 := Ext.turn (Ext.turn ((((((x0_0.tr x15).tB x16).tr x17).tr x18).tr x19).tr x20) x21 ⟨by omega, trivial⟩) x22 ⟨by omega, trivial⟩
      have h85 := (((((((gb2_0.ext x15).tB x16).ext x17).ext x18).ext x19).ext x20).tL x21).tL x22
      exact NW.J fun a ha => ⟨n1, Nat.lt_succ_self n1, ((lt0_0.set it6_0.toNat (⟨(rd lt0_0 it6_0).ID, (rd lt0_0 it6_0).Size, y9, (rd lt0_0 it6_0).Late⟩ : Device)).set it6_0.toNat (⟨(rd (lt0_0.set it6_0.toNat (⟨(rd lt0_0 it6_0).ID, (rd lt0_0 it6_0).Size, y9, (rd lt0_0 it6_0).Late⟩ : Device)) it6_0).ID, (rd (lt0_0.set it6_0.toNat (⟨(rd lt0_0 it6_0).ID, (rd lt0_0 it6_0).Size, y9, (rd lt0_0 it6_0).Late⟩ : Device)) it6_0).Size, (rd (lt0_0.set it6_0.toNat (⟨(rd lt0_0 it6_0).ID, (rd lt0_0 it6_0).Size, y9, (rd lt0_0 it6_0).Late⟩ : Device)) it6_0).Free, ([] : List Seg)⟩ : Device)), (w64 (it6_0 + 1)), ha.sb, by omega, (h80.sb), h83, h84, (by (try simp only [List.length_set]) <;> omega), h85, h82, H⟩
     rw [if_neg c7] at H
     refine CW.cond_f rfl (decide_eq_false c7) (CW.exit ?_)
     refine NW.exit_then (NW.exit_then (NW.exit_hit ?_))
     refine NW.end_ ?_
     refine NW.ret0 rfl ⟨_, rfl, ?_⟩
     refine RW.done (NW.next (CW.seq (CW.lex [.W, .W, .W, .L, .M, .W] rfl (pu 3 rfl ?_))))
     refine RW.ld tk [.slice A4 lt0_0.length c_4, .slice A5 y2.Tables.length c_5, iv p1, iv 0, iv p1, iv ((rd y2.Devices y3.1).Size), .slice none 0 0, iv y2.Next] (gb4_0.at 0) ?_
     refine RW.sb tk gb2_0 [.slice A4 lt0_0.length c_4, .slice A5 y2.Tables.length c_5, iv p1, iv 0, iv p1, iv ((rd y2.Devices y3.1).Size), .slice none 0 0, iv y2.Next] ?_
     intro w24 x23 h86
     have h87 : Box w24.heap b2 30 [.slice A4 lt0_0.length c_4, .slice A5 y2.Tables.length c_5, iv p1, iv 0, iv p1, iv ((rd y2.Devices y3.1).Size), .slice none 0 0, iv y2.Next] := h86
     have sx23 := x23.size
     refine pu 1 rfl (RW.done (NW.next (CW.ret ?_)))
     have h88 := h55.tB x23 gb2_0
     have h89 := gF5_0.tB x23 gb2_0
     obtain rfl := Option.some.inj H
     have h90 := x0_0.tB x23
     exact NW.ret2 rfl (resOne_cell tk (h87.at 0) rfl rfl rfl) (by rfl) ⟨A4, c_4, A5, c_5, none, 0, rfl, h90, (h88.sub (l' := [(w.heap.size, none, some 40)]) (li' := [(w.heap.size, none, some 105)]) ⟨(.inl ⟨by omega, trivial, rfl⟩), trivial⟩ ⟨(.inl ⟨by omega, trivial, rfl⟩), trivial⟩), (h89.sub (l' := [(w.heap.size, none, some 26)]) (li' := [(w.heap.size, none, some 66)]) ⟨(.inl ⟨by omega, trivial, rfl⟩), trivial⟩ ⟨(.inl ⟨by omega, trivial, rfl⟩), trivial⟩), Ow.nil⟩
   rw [if_neg c3] at H
   cases H
  rw [if_neg c2] at H
  cases H
 rw [if_neg c1] at H
 cases H
theorem hermitagelaw10_num.calls (p0 : Int) (r : Int) (w : World) (H : hermitagelaw10_num.f p0 = some r) :
    Calls Tryz.prog 12 #[iv p0] w fun e w' => e = .returned (iv r) ∧ Ext w w' := by
 have x0 : Ext w w := Upd.refl _ w
 unfold hermitagelaw10_num.f at H
 refine calls_start Tryz.func12 rfl 4 rfl [iv p0] rfl ?_
 refine CW.seq (CW.lw 1 rfl (pu 1 rfl (RW.done (NW.next ?_))))
 refine CW.seq (CW.lw 2 rfl (pu 2 rfl (RW.done (NW.next ?_))))
 refine CW.ret ?_
 obtain rfl := Option.some.inj H
 exact NW.ret1 rfl (by rfl) ⟨rfl, x0⟩
theorem seg_One.calls (p0 : Int) (r : Int) (w : World) (H : seg_One.f p0 = some r) :
    Calls Tryz.prog 37 #[iv p0] w fun e w' => e = .returned (.int .u64 r) ∧ Ext w w' := by
 have x0 : Ext w w := Upd.refl _ w
 unfold seg_One.f at H
 refine calls_start Tryz.func37 rfl 5 rfl [iv p0] rfl ?_
 refine CW.seq (CW.lw 1 rfl (pu 1 rfl (RW.done (NW.next ?_))))
 refine CW.seq (CW.lw 3 rfl (pu 1 rfl ?_))
 obtain ⟨g1, H⟩ := guard_some H
 refine RW.shift g1 ⟨rfl, rfl, rfl, rfl⟩ rfl rfl rfl rfl (pu 1 rfl (RW.done (NW.next (CW.ret ?_))))
 obtain rfl := Option.some.inj H
 exact NW.ret1 rfl (by rfl) ⟨rfl, x0⟩
theorem seg_Set_Has.calls (p0 : Int) (p1 : Int) (r : Bool) (w : World) (H : seg_Set_Has.f p0 p1 = some r) :
    Calls Tryz.prog 63 #[.int .u64 p0, iv p1] w fun e w' => e = .returned (.bool r) ∧ Ext w w' := by
 have x0 : Ext w w := Upd.refl _ w
 unfold seg_Set_Has.f at H
 refine calls_start Tryz.func63 rfl 18 rfl [.int .u64 p0, iv p1] rfl ?_
 refine CW.seq (CW.lw 1 rfl (pu 1 rfl (RW.done (NW.next ?_))))
 refine CW.seq (CW.lex [.W, .W, .W, .W, .W, .W, .W, .W, .W, .X, .W, .W, .W, .W] rfl (pu 3 rfl ?_))
 by_cases c1 : 0 ≤ p1
 ·rw [if_pos c1] at H
  refine RW.bool 7 (b' := true) (decide_eq_true c1) rfl (pu 4 rfl ?_)
  by_cases c2 : p1 < 64
  ·rw [if_pos c2] at H
   refine RW.bool 11 (b' := true) (decide_eq_true c2) rfl (pu 2 rfl ?_)
   obtain ⟨y1, h1, H⟩ := bind_some H
   refine RW.cl ent37 (seg_One.calls p1 _ _ h1) ?_
   rintro _ w1 ⟨rfl, x1⟩
   refine ⟨_, rfl, x1, ?_⟩
   have sx1 := x1.size
   refine pu 4 rfl (RW.done (NW.next (CW.ret ?_)))
   obtain rfl := Option.some.inj H
   have h2 := x0.tr x1
   exact NW.ret1 rfl (by rfl) ⟨rfl, h2⟩
  rw [if_neg c2] at H
  refine RW.bool 11 (b' := false) (decide_eq_false c2) rfl (pu 7 rfl (RW.done (NW.next (CW.ret ?_))))
  obtain rfl := Option.some.inj H
  exact NW.ret1 rfl (by rfl) ⟨rfl, x0⟩
 rw [if_neg c1] at H
 refine RW.bool 7 (b' := false) (decide_eq_false c1) rfl (pu 11 rfl (RW.done (NW.next (CW.ret ?_))))
 obtain rfl := Option.some.inj H
 exact NW.ret1 rfl (by rfl) ⟨rfl, x0⟩
theorem room_Free.calls (k : Nat) (A1 : Option Addr) (c_1 : Nat) (p0 : List Device) (p1 : Int) (r : Int) (w : World) (hs1 : Sl kDeviceR w.heap okAll A1 p0) (hl1 : p0.length ≤ c_1) (H : room_Free.f k p0 p1 = some r) :
    Calls Tryz.prog 95 #[.slice A1 p0.length c_1, iv p1] w fun e w' => e = .returned (iv r) ∧ Ext w w' := by
 have h1 : Sl kDeviceR w.heap (okL [(0, some w.heap.size, none)]) A1 p0 := hs1.old _ rfl
 have x0 : Ext w w := Upd.refl _ w
 unfold room_Free.f at H
 refine calls_start Tryz.func95 rfl 26 rfl [.slice A1 p0.length c_1, iv p1] rfl ?_
 refine CW.seq (CW.lw 1 rfl (pu 1 rfl (RW.done (NW.next ?_))))
 refine CW.seq (CW.lw 1 rfl (pu 1 rfl (RW.done (NW.next ?_))))
 refine CW.seq (CW.seq (CW.lw 3 rfl (pu 3 rfl (RW.done ?_))))
 refine NW.next (CW.block ?_)
 refine CW.loop (fun n1 a w1 => ∃ (it5_0 : Int) (it10_0 : Int), Sat 26 [(1, iv p1), (5, iv it5_0), (8, .slice A1 p0.length c_1), (9, iv (p0.length : Int)), (10, iv it10_0)] a ∧ w.heap.size ≤ w1.heap.size ∧ Ext w w1 ∧ room_Free.l0 p0 p1 k n1 it5_0 it10_0 = some r) k ?_ ?_
 ·exact fun a ha => ⟨0, 0, ha.sb, by omega, x0, H⟩
 intro n1 a w1 hI hp
 obtain ⟨it5_0, it10_0, hS, hle, x0_0, H⟩ := hI
 cases n1 with
 | zero => cases H
 | succ n1 =>
  rw [room_Free.l0] at H
  refine CW.go hp hS (CW.seq (CW.lw 1 rfl (pu 1 rfl (RW.done ?_))))
  refine NW.next (CW.seq ?_)
  by_cases c1 : it10_0 < (p0.length : Int)
  ·rw [if_pos c1] at H
   refine CW.cond_t rfl (decide_eq_true c1) (CW.skip (NW.next ?_))
   refine CW.seqJ (fun a w2 => ∃ (it5_1 : Int), Sat 26 [(1, iv p1), (5, iv it5_1), (8, .slice A1 p0.length c_1), (9, iv (p0.length : Int)), (10, iv it10_0)] a ∧ w1.heap.size ≤ w2.heap.size ∧ Ext w w2 ∧ room_Free.j0 it10_0 (room_Free.l0 p0 p1 k n1) it5_1 = some r) ?_ ?_
   ·refine CW.block (CW.seq (CW.lex [.W, .L, .X, .M] rfl ?_))
    obtain ⟨g1, H⟩ := guard_some H
    obtain ⟨ad1, A2, c_2, A3, c_3, e1, a1, l1, h2, l2, h3⟩ := kDeviceR_at (h1.ext x0_0) g1.1 g1.2
    refine RW.ix tk g1 e1 ?_
    refine RW.ld tk [iv ((rd p0 it10_0).ID), iv ((rd p0 it10_0).Size), .slice A2 ((rd p0 it10_0).Free).length c_2, .slice A3 ((rd p0 it10_0).Late).length c_3] a1 ?_
    refine RW.alloc tk (.inl rfl) ⟨rfl, rfl, rfl, rfl⟩ rfl rfl ?_
    intro b1 w3 x1 l3 h4
    have sx1 := x1.size
    have ltb1 := h4.lt
    refine RW.sb tk h4 [iv ((rd p0 it10_0).ID), iv ((rd p0 it10_0).Size), .slice A2 ((rd p0 it10_0).Free).length c_2, .slice A3 ((rd p0 it10_0).Late).length c_3] ?_
    intro w4 x2 h5
    have h6 : Box w4.heap b1 40 [iv ((rd p0 it10_0).ID), iv ((rd p0 it10_0).Size), .slice A2 ((rd p0 it10_0).Free).length c_2, .slice A3 ((rd p0 it10_0).Late).length c_3] := h5
    have sx2 := x2.size
    refine RW.done (NW.next (CW.seq (CW.lex [.W, .L, .W, .W] rfl (pu 1 rfl ?_))))
    refine RW.lb tk [iv ((rd p0 it10_0).ID)] h6 0 ?_
    refine pu 2 rfl (RW.done (NW.next ?_))
    have j1 := (x0_0.tr x1).tB x2
    by_cases c2 : (rd p0 it10_0).ID = p1
    ·rw [if_pos c2] at H
     refine CW.cond_f rfl (bne_f c2) (CW.skip (NW.norm_block ?_))
     exact NW.J fun a ha => ⟨it5_0, ha.sb, by omega, j1, H⟩
    rw [if_neg c2] at H
    refine CW.cond_t rfl (bne_t c2) (CW.lex [.W, .W, .L, .X, .X, .W, .W] rfl (pu 2 rfl (RW.lb tk [.slice A2 ((rd p0 it10_0).Free).length c_2] h6 2 ?_)))
    have h8 := (h2.ext x1).turnB x2 h4 ⟨.inr (by omega), trivial⟩
    obtain ⟨y1, h9, H⟩ := bind_some H
    refine RW.cl ent57 (seg_Make.calls k A2 c_2 ((rd p0 it10_0).Free) _ _ h8.all l1 h9) ?_
    rintro _ w5 ⟨rfl, x3⟩
    refine ⟨_, rfl, x3, ?_⟩
    have sx3 := x3.size
    obtain ⟨y2, h10, H⟩ := bind_some H
    refine RW.cl ent34 (seg_Set_Count.calls y1 _ _ h10) ?_
    rintro _ w6 ⟨rfl, x4⟩
    refine ⟨_, rfl, x4, ?_⟩
    have sx4 := x4.size
    refine pu 2 rfl (RW.done (NW.norm_block ?_))
    have h11 := (j1.tr x3).tr x4
    exact NW.J fun a ha => ⟨(w64 (it5_0 + y2)), ha.sb, by omega, h11, H⟩
   intro a w2 hJ hp
   obtain ⟨it5_1, hS, hle, x0_1, H⟩ := hJ
   unfold room_Free.j0 at H
   refine CW.go hp hS (CW.lw 2 rfl (pu 2 rfl (RW.done ?_)))
   exact NW.J fun a ha => ⟨n1, Nat.lt_succ_self n1, it5_1, (w64 (it10_0 + 1)), ha.sb, by omega, x0_1, H⟩
  rw [if_neg c1] at H
  refine CW.cond_f rfl (decide_eq_false c1) (CW.exit ?_)
  refine NW.exit_then (NW.exit_then (NW.exit_hit ?_))
  refine NW.next (CW.seq (CW.lw 2 rfl (pu 2 rfl (RW.done ?_))))
  refine NW.next (CW.ret ?_)
  obtain rfl := Option.some.inj H
  exact NW.ret1 rfl (by rfl) ⟨rfl, x0_0⟩
theorem room_emptiest.calls (k : Nat) (A1 : Option Addr) (c_1 : Nat) (p0 : List Device) (p1 : Int) (r : Int) (w : World) (hs1 : Sl kDeviceR w.heap okAll A1 p0) (hl1 : p0.length ≤ c_1) (H : room_emptiest.f k p0 p1 = some r) :
    Calls Tryz.prog 128 #[.slice A1 p0.length c_1, iv p1] w fun e w' => e = .returned (iv r) ∧ Ext w w' := by
 have h1 : Sl kDeviceR w.heap (okL [(0, some w.heap.size, none)]) A1 p0 := hs1.old _ rfl
 have x0 : Ext w w := Upd.refl _ w
 unfold room_emptiest.f at H
 refine calls_start Tryz.func128 rfl 34 rfl [.slice A1 p0.length c_1, iv p1] rfl ?_
 refine CW.seq (CW.lw 1 rfl (pu 1 rfl (RW.done (NW.next ?_))))
 refine CW.seq (CW.lw 2 rfl (pu 2 rfl (RW.done (NW.next ?_))))
 refine CW.seq (CW.seq (CW.lw 3 rfl (pu 3 rfl (RW.done ?_))))
 refine NW.next (CW.block ?_)
 refine CW.loop (fun n1 a w1 => ∃ (it5_0 : Int) (it6_0 : Int) (it12_0 : Int), Sat 34 [(1, iv p1), (5, iv it5_0), (6, iv it6_0), (10, .slice A1 p0.length c_1), (11, iv (p0.length : Int)), (12, iv it12_0)] a ∧ w.heap.size ≤ w1.heap.size ∧ Ext w w1 ∧ room_emptiest.l0 p0 p1 k n1 it5_0 it6_0 it12_0 = some r) k ?_ ?_
 ·exact fun a ha => ⟨(-1), 0, 0, ha.sb, by omega, x0, H⟩
 intro n1 a w1 hI hp
 obtain ⟨it5_0, it6_0, it12_0, hS, hle, x0_0, H⟩ := hI
 cases n1 with
 | zero => cases H
 | succ n1 =>
  rw [room_emptiest.l0] at H
  refine CW.go hp hS (CW.seq (CW.lw 1 rfl (pu 1 rfl (RW.done ?_))))
  refine NW.next (CW.seq ?_)
  by_cases c1 : it12_0 < (p0.length : Int)
  ·rw [if_pos c1] at H
   refine CW.cond_t rfl (decide_eq_true c1) (CW.skip (NW.next ?_))
   refine CW.seqJ (fun a w2 => ∃ (it5_1 : Int) (it6_1 : Int), Sat 34 [(1, iv p1), (5, iv it5_1), (6, iv it6_1), (10, .slice A1 p0.length c_1), (11, iv (p0.length : Int)), (12, iv it12_0)] a ∧ w1.heap.size ≤ w2.heap.size ∧ Ext w w2 ∧ room_emptiest.j0 it12_0 (room_emptiest.l0 p0 p1 k n1) it5_1 it6_1 = some r) ?_ ?_
   ·refine CW.block (CW.seq (CW.lex [.W, .W, .L, .X, .W, .M] rfl (pu 1 rfl ?_)))
    obtain ⟨g1, H⟩ := guard_some H
    obtain ⟨ad1, A2, c_2, A3, c_3, e1, a1, l1, h2, l2, h3⟩ := kDeviceR_at (h1.ext x0_0) g1.1 g1.2
    refine RW.ix tk g1 e1 ?_
    refine RW.ld tk [iv ((rd p0 it12_0).ID), iv ((rd p0 it12_0).Size), .slice A2 ((rd p0 it12_0).Free).length c_2, .slice A3 ((rd p0 it12_0).Late).length c_3] a1 ?_
    refine RW.alloc tk (.inl rfl) ⟨rfl, rfl, rfl, rfl⟩ rfl rfl ?_
    intro b1 w3 x1 l3 h4
    have sx1 := x1.size
    have ltb1 := h4.lt
    refine pu 1 rfl (RW.sb tk h4 [iv ((rd p0 it12_0).ID), iv ((rd p0 it12_0).Size), .slice A2 ((rd p0 it12_0).Free).length c_2, .slice A3 ((rd p0 it12_0).Late).length c_3] ?_)
    intro w4 x2 h5
    have h6 : Box w4.heap b1 40 [iv ((rd p0 it12_0).ID), iv ((rd p0 it12_0).Size), .slice A2 ((rd p0 it12_0).Free).length c_2, .slice A3 ((rd p0 it12_0).Late).length c_3] := h5
    have sx2 := x2.size
    refine RW.done (NW.next (CW.seq (CW.lex [.W, .L, .X, .X, .W] rfl (pu 1 rfl ?_))))
    refine RW.lb tk [.slice A2 ((rd p0 it12_0).Free).length c_2] h6 2 ?_
    have h7 := (h2.ext x1).turnB x2 h4 ⟨.inr (by omega), trivial⟩
    obtain ⟨y1, h8, H⟩ := bind_some H
    refine RW.cl ent57 (seg_Make.calls k A2 c_2 ((rd p0 it12_0).Free) _ _ h7.all l1 h8) ?_
    rintro _ w5 ⟨rfl, x3⟩
    refine ⟨_, rfl, x3, ?_⟩
    have sx3 := x3.size
    obtain ⟨y2, h9, H⟩ := bind_some H
    refine RW.cl ent34 (seg_Set_Count.calls y1 _ _ h9) ?_
    rintro _ w6 ⟨rfl, x4⟩
    refine ⟨_, rfl, x4, ?_⟩
    have sx4 := x4.size
    refine pu 1 rfl (RW.done (NW.next ?_))
    refine CW.seqJ (fun a w7 => ∃ (bt29_2 : Bool), Sat 34 [(1, iv p1), (5, iv it5_0), (6, iv it6_0), (7, iv it12_0), (9, iv y2), (10, .slice A1 p0.length c_1), (11, iv (p0.length : Int)), (12, iv it12_0), (29, .bool bt29_2)] a ∧ w6.heap.size ≤ w7.heap.size ∧ Ext w w7 ∧ room_emptiest.j1 it5_0 it6_0 it12_0 y2 (room_emptiest.l0 p0 p1 k n1) bt29_2 = some r) ?_ ?_
    ·refine CW.lex [.W, .L, .W, .W, .W, .W, .W, .W, .W] rfl (pu 1 rfl ?_)
     have h10 := (h6.ext x3).ext x4
     refine RW.lb tk [iv ((rd p0 it12_0).ID)] h10 0 ?_
     refine pu 3 rfl ?_
     have j1 := (((x0_0.tr x1).tB x2).tr x3).tr x4
     by_cases c2 : (rd p0 it12_0).ID = p1
     ·rw [if_pos c2] at H
      refine RW.bool 25 (b' := false) (bne_f c2) rfl (pu 4 rfl (RW.done ?_))
      exact NW.J fun a ha => ⟨false, ha.sb, by omega, j1, H⟩
     rw [if_neg c2] at H
     refine RW.bool 25 (b' := true) (bne_t c2) rfl (pu 4 rfl (RW.done ?_))
     exact NW.J fun a ha => ⟨(decide (it6_0 < y2)), ha.sb, by omega, j1, H⟩
    intro a w7 hJ hp
    obtain ⟨bt29_2, hS, hle, x0_2, H⟩ := hJ
    unfold room_emptiest.j1 at H
    refine CW.go hp hS ?_
    by_cases c3 : bt29_2 = true
    ·rw [if_pos c3] at H
     refine CW.cond_t rfl (c3) (CW.lw 4 rfl (pu 4 rfl (RW.done (NW.norm_block ?_))))
     exact NW.J fun a ha => ⟨it12_0, y2, ha.sb, by omega, x0_2, H⟩
    rw [if_neg c3] at H
    refine CW.cond_f rfl (bool_f c3) (CW.skip (NW.norm_block ?_))
    exact NW.J fun a ha => ⟨it5_0, it6_0, ha.sb, by omega, x0_2, H⟩
   intro a w2 hJ hp
   obtain ⟨it5_1, it6_1, hS, hle, x0_1, H⟩ := hJ
   unfold room_emptiest.j0 at H
   refine CW.go hp hS (CW.lw 2 rfl (pu 2 rfl (RW.done ?_)))
   exact NW.J fun a ha => ⟨n1, Nat.lt_succ_self n1, it5_1, it6_1, (w64 (it12_0 + 1)), ha.sb, by omega, x0_1, H⟩
  rw [if_neg c1] at H
  refine CW.cond_f rfl (decide_eq_false c1) (CW.exit ?_)
  refine NW.exit_then (NW.exit_then (NW.exit_hit ?_))
  refine NW.next (CW.seq (CW.lw 2 rfl (pu 2 rfl (RW.done ?_))))
  refine NW.next (CW.ret ?_)
  obtain rfl := Option.some.inj H
  exact NW.ret1 rfl (by rfl) ⟨rfl, x0_0⟩
theorem chain_Find_1.calls (p0 : Table) (A1 : Option Addr) (c_1 : Nat) (p1 : Int) (r : Int) (w : World) (hs1 : Sl kEntry w.heap okAll A1 p0.List_) (hl1 : p0.List_.length ≤ c_1) (H : chain_Find_1.f p0 p1 = some r) :
    Calls Tryz.prog 88 #[.agg #[iv p0.Dev, iv p0.Size, .slice A1 p0.List_.length c_1], iv p1] w fun e w' => e = .returned (iv r) ∧ Ext w w' := by
 have h1 : Sl kEntry w.heap (okL [(0, some w.heap.size, none)]) A1 p0.List_ := hs1.old _ rfl
 have x0 : Ext w w := Upd.refl _ w
 unfold chain_Find_1.f at H
 refine calls_start Tryz.func88 rfl 9 rfl [.agg #[iv p0.Dev, iv p0.Size, .slice A1 p0.List_.length c_1], iv p1] rfl ?_
 refine CW.seq (CW.lex [.X, .W] rfl (RW.box (cs := [iv p0.Dev, iv p0.Size, .slice A1 p0.List_.length c_1]) (.inl rfl) ⟨rfl, rfl, rfl, rfl⟩ rfl rfl rfl ?_))
 intro b1 w1 x1 l1 h2
 have sx1 := x1.size
 have ltb1 := h2.lt
 refine pu 1 rfl (RW.done (NW.next (CW.seq (CW.lex [.W, .L, .W, .W, .W] rfl ?_))))
 refine pu 1 rfl (RW.lb tk [iv p0.Dev] h2 0 ?_)
 refine pu 3 rfl (RW.done (NW.next (CW.ret ?_)))
 obtain rfl := Option.some.inj H
 have h3 := x0.tr x1
 exact NW.ret1 rfl (by rfl) ⟨rfl, h3⟩
theorem chain_Find.calls (k : Nat) (p0 : Pool) (A1 : Option Addr) (c_1 : Nat) (A2 : Option Addr) (c_2 : Nat) (A3 : Option Addr) (c_3 : Nat) (p1 : Int) (r : Int × Bool) (w : World) (hs1 : Sl kDeviceR w.heap okAll A1 p0.Devices) (hl1 : p0.Devices.length ≤ c_1) (hs2 : Sl kTableR w.heap okAll A2 p0.Tables) (hl2 : p0.Tables.length ≤ c_2) (hs3 : Sl kEntry w.heap okAll A3 p0.Job.Table.List_) (hl3 : p0.Job.Table.List_.length ≤ c_3) (H : chain_Find.f k p0 p1 = some r) :
    Calls Tryz.prog 60 #[.agg #[.slice A1 p0.Devices.length c_1, .slice A2 p0.Tables.length c_2, iv p0.Job.Dev, iv p0.Job.At, iv p0.Job.Table.Dev, iv p0.Job.Table.Size, .slice A3 p0.Job.Table.List_.length c_3, iv p0.Next], iv p1] w fun e w' => e = .returned (.tuple #[iv r.1, .bool r.2]) ∧ Ext w w' := by
 have h1 : Sl kDeviceR w.heap (okL [(0, some w.heap.size, none)]) A1 p0.Devices := hs1.old _ rfl
 have h2 : Sl kTableR w.heap (okL [(0, some w.heap.size, none)]) A2 p0.Tables := hs2.old _ rfl
 have h3 : Sl kEntry w.heap (okL [(0, some w.heap.size, none)]) A3 p0.Job.Table.List_ := hs3.old _ rfl
 have x0 : Ext w w := Upd.refl _ w
 unfold chain_Find.f at H
 refine calls_start Tryz.func60 rfl 12 rfl [.agg #[.slice A1 p0.Devices.length c_1, .slice A2 p0.Tables.length c_2, iv p0.Job.Dev, iv p0.Job.At, iv p0.Job.Table.Dev, iv p0.Job.Table.Size, .slice A3 p0.Job.Table.List_.length c_3, iv p0.Next], iv p1] rfl ?_
 refine CW.seq (CW.lex [.X, .W, .W] rfl (RW.box (cs := [.slice A1 p0.Devices.length c_1, .slice A2 p0.Tables.length c_2, iv p0.Job.Dev, iv p0.Job.At, iv p0.Job.Table.Dev, iv p0.Job.Table.Size, .slice A3 p0.Job.Table.List_.length c_3, iv p0.Next]) (.inl rfl) ⟨rfl, rfl, rfl, rfl⟩ rfl rfl rfl ?_))
 intro b1 w1 x1 l1 h4
 have sx1 := x1.size
 have ltb1 := h4.lt
 refine pu 2 rfl (RW.done (NW.next (CW.seq (CW.lex [.W, .L, .W, .X, .W, .W, .W, .W] rfl ?_))))
 refine pu 1 rfl (RW.lb tk [.slice A2 p0.Tables.length c_2] h4 1 ?_)
 refine pu 1 rfl ?_
 have xc1 : Ext w1 w1 := Upd.refl _ _
 refine RW.callV (R := fun e w2 => ∃ (it9_0_0 : Int) (bt9_1_0 : Bool), e = .returned (.tuple #[iv it9_0_0, .bool bt9_1_0]) ∧ w1.heap.size ≤ w2.heap.size ∧ Ext w w2 ∧ Ext w1 w2 ∧ chain_Find.j0 it9_0_0 bt9_1_0 = some r) (.inl rfl) ent87 ⟨rfl, rfl, rfl, rfl⟩ rfl rfl rfl ?_ ?_
 ·refine calls_start Tryz.func87 rfl 49 rfl [.slice A2 p0.Tables.length c_2, iv p1, .func (.func 88) #[] #[]] rfl ?_
  refine CW.seq (CW.lw 2 rfl (pu 2 rfl (RW.done (NW.next ?_))))
  refine CW.seq (CW.lw 3 rfl (pu 3 rfl (RW.done (NW.next ?_))))
  refine CW.seq (CW.lw 3 rfl (pu 3 rfl (RW.done (NW.next ?_))))
  refine CW.seq (CW.block ?_)
  refine CW.loop (fun n1 a w3 => ∃ (it9_1 : Int) (it10_1 : Int), Sat 49 [(0, .slice A2 p0.Tables.length c_2), (1, iv p1), (2, .func (.func 88) #[] #[]), (8, iv (p0.Tables.length : Int)), (9, iv it9_1), (10, iv it10_1)] a ∧ w1.heap.size ≤ w3.heap.size ∧ Ext w w3 ∧ Ext w1 w3 ∧ chain_Find.l0 p0 p1 n1 it9_1 it10_1 = some r) k ?_ ?_
  have h5 := x0.tr x1
  ·exact fun a ha => ⟨0, (p0.Tables.length : Int), ha.sb, by omega, h5, xc1, H⟩
  intro n1 a w3 hI hp
  obtain ⟨it9_1, it10_1, hS, hle, x0_1, x_xc1_1, H⟩ := hI
  cases n1 with
  | zero => cases H
  | succ n1 =>
   rw [chain_Find.l0] at H
   refine CW.go hp hS (CW.seq (CW.seq (CW.lw 3 rfl (pu 3 rfl ?_))))
   refine RW.done (NW.next ?_)
   by_cases c1 : it9_1 < it10_1
   ·rw [if_pos c1] at H
    refine CW.cond_t rfl (decide_eq_true c1) (CW.skip (NW.next (CW.block (CW.seq ?_))))
    refine CW.lw 7 rfl (pu 4 rfl (RW.shift (by omega) ⟨rfl, rfl, rfl, rfl⟩ rfl rfl rfl rfl (pu 2 rfl (RW.done ?_))))
    refine NW.next (CW.seq (CW.lex [.W, .W, .W, .W, .L, .W, .M, .W] rfl (pu 3 rfl ?_)))
    obtain ⟨g1, H⟩ := guard_some H
    obtain ⟨ad1, A4, c_4, e1, a1, l2, h6⟩ := kTableR_at (h2.ext x0_1) g1.1 g1.2
    refine RW.ix tk g1 e1 ?_
    refine RW.ld tk [iv ((rd p0.Tables (w64 ((wu64 (w64 (it9_1 + it10_1))).fdiv (2 ^ min (1 : Int).toNat 64)))).Dev), iv ((rd p0.Tables (w64 ((wu64 (w64 (it9_1 + it10_1))).fdiv (2 ^ min (1 : Int).toNat 64)))).Size), .slice A4 ((rd p0.Tables (w64 ((wu64 (w64 (it9_1 + it10_1))).fdiv (2 ^ min (1 : Int).toNat 64)))).List_).length c_4] a1 ?_
    refine pu 1 rfl ?_
    obtain ⟨y1, h7, H⟩ := bind_some H
    refine RW.callV (cap := []) (.inr rfl) ent88 ⟨rfl, rfl, rfl, rfl⟩ rfl rfl rfl (chain_Find_1.calls (rd p0.Tables (w64 ((wu64 (w64 (it9_1 + it10_1))).fdiv (2 ^ min (1 : Int).toNat 64)))) A4 c_4 p1 _ _ h6.all l2 h7) ?_
    rintro _ w4 ⟨rfl, x2⟩
    refine ⟨_, rfl, x2, ?_⟩
    have sx2 := x2.size
    refine pu 1 rfl (RW.done (NW.next ?_))
    have j1 := x0_1.tr x2
    have j2 := x_xc1_1.tr x2
    by_cases c2 : y1 < 0
    ·rw [if_pos c2] at H
     refine CW.cond_t rfl (decide_eq_true c2) (CW.lw 3 rfl (pu 3 rfl (RW.done (NW.norm_block ?_))))
     exact NW.J fun a ha => ⟨n1, Nat.lt_succ_self n1, (w64 ((w64 ((wu64 (w64 (it9_1 + it10_1))).fdiv (2 ^ min (1 : Int).toNat 64))) + 1)), it10_1, ha.sb, by omega, j1, j2, H⟩
    rw [if_neg c2] at H
    refine CW.cond_f rfl (decide_eq_false c2) (CW.lw 2 rfl (pu 2 rfl (RW.done (NW.norm_block ?_))))
    exact NW.J fun a ha => ⟨n1, Nat.lt_succ_self n1, it9_1, (w64 ((wu64 (w64 (it9_1 + it10_1))).fdiv (2 ^ min (1 : Int).toNat 64))), ha.sb, by omega, j1, j2, H⟩
   rw [if_neg c1] at H
   refine CW.cond_f rfl (decide_eq_false c1) (CW.exit ?_)
   refine NW.exit_then (NW.exit_then (NW.exit_hit ?_))
   refine NW.next (CW.seq (CW.lex [.W, .W, .W, .W, .W, .W, .W, .W, .W, .L, .W, .M, .W, .W, .W, .W] rfl (pu 5 rfl ?_)))
   by_cases c3 : it9_1 < (p0.Tables.length : Int)
   ·rw [if_pos c3] at H
    refine RW.bool 39 (b' := true) (decide_eq_true c3) rfl (pu 3 rfl ?_)
    obtain ⟨g2, H⟩ := guard_some H
    obtain ⟨ad2, A5, c_5, e2, a2, l3, h12⟩ := kTableR_at (h2.ext x0_1) g2.1 g2.2
    refine RW.ix tk g2 e2 ?_
    refine RW.ld tk [iv ((rd p0.Tables it9_1).Dev), iv ((rd p0.Tables it9_1).Size), .slice A5 ((rd p0.Tables it9_1).List_).length c_5] a2 ?_
    refine pu 1 rfl ?_
    obtain ⟨y2, h13, H⟩ := bind_some H
    refine RW.callV (cap := []) (.inr rfl) ent88 ⟨rfl, rfl, rfl, rfl⟩ rfl rfl rfl (chain_Find_1.calls (rd p0.Tables it9_1) A5 c_5 p1 _ _ h12.all l3 h13) ?_
    rintro _ w5 ⟨rfl, x3⟩
    refine ⟨_, rfl, x3, ?_⟩
    have sx3 := x3.size
    refine pu 4 rfl (RW.done (NW.next (CW.ret ?_)))
    have h14 := x0_1.tr x3
    have h15 := x_xc1_1.tr x3
    exact NW.ret2 rfl (by rfl) (by rfl) ⟨it9_1, (y2 == 0), rfl, by omega, h14, h15, H⟩
   rw [if_neg c3] at H
   refine RW.bool 39 (b' := false) (decide_eq_false c3) rfl (pu 11 rfl (RW.done (NW.next (CW.ret ?_))))
   exact NW.ret2 rfl (by rfl) (by rfl) ⟨it9_1, false, rfl, by omega, x0_1, x_xc1_1, H⟩
 rintro _ w2 ⟨it9_0_0, bt9_1_0, rfl, hle, x0_0, x_xc1_0, H⟩
 refine ⟨_, rfl, x_xc1_0, ?_⟩
 unfold chain_Find.j0 at H
 refine pu 4 rfl (RW.done (NW.next (CW.ret ?_)))
 obtain rfl := Option.some.inj H
 exact NW.ret2 rfl (by rfl) (by rfl) ⟨rfl, x0_0⟩
end Go.Proofs.YtnaajldlloglkaaGreatDoor.W
