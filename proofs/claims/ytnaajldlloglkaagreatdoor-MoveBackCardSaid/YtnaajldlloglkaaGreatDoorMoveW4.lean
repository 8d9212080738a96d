/- Walks; printed by a program of the claim. -/
import Derived.Test.YtnaajldlloglkaaGreatDoorMoveW3
set_option linter.unusedVariables false
set_option linter.unusedSimpArgs false
set_option maxHeartbeats 20000000
set_option maxRecDepth 100000
namespace Go.Proofs.YtnaajldlloglkaaGreatDoor.W
open Go.H Go.Proofs
theorem move_Step.calls (k : Nat) (p0 : Pool) (A1 : Option Addr) (c_1 : Nat) (A2 : Option Addr) (c_2 : Nat) (A3 : Option Addr) (c_3 : Nat) (p1 : Int) (r : Pool × (List Pair) × Int) (w : World) (hs1 : Sl kDeviceR w.heap okAll A1 p0.Devices) (hl1 : p0.Devices.length ≤ c_1) (hs2 : Sl kTableR w.heap okAll A2 p0.Tables) (hl2 : p0.Tables.length ≤ c_2) (hs3 : Sl kEntry w.heap okAll A3 p0.Job.Table.List_) (hl3 : p0.Job.Table.List_.length ≤ c_3) {gT : Nat} (hG : Box w.heap 0 gT (arrI .u8 64 tz)) (H : move_Step.f k p0 p1 = some r) :
    Calls Tryz.prog 16 #[.agg #[.slice A1 p0.Devices.length c_1, .slice A2 p0.Tables.length c_2, iv p0.Job.Dev, iv p0.Job.At, iv p0.Job.Table.Dev, iv p0.Job.Table.Size, .slice A3 p0.Job.Table.List_.length c_3, iv p0.Next], iv p1] w fun e w' => ∃ (B1 : Option Addr) (d1 : Nat) (B2 : Option Addr) (d2 : Nat) (B3 : Option Addr) (d3 : Nat) (B4 : Option Addr) (d4 : Nat), e = .returned (.tuple #[.agg #[.slice B1 r.1.Devices.length d1, .slice B2 r.1.Tables.length d2, iv r.1.Job.Dev, iv r.1.Job.At, iv r.1.Job.Table.Dev, iv r.1.Job.Table.Size, .slice B3 r.1.Job.Table.List_.length d3, iv r.1.Next], .slice B4 r.2.1.length d4, iv r.2.2]) ∧ Ext w w' ∧ Ow kDeviceO 40 w'.heap (okL [(w.heap.size, none, some 40)]) (okL [(w.heap.size, none, some 105)]) B1 d1 r.1.Devices ∧ Ow kTableO 26 w'.heap (okL [(w.heap.size, none, some 26)]) (okL [(w.heap.size, none, some 66)]) B2 d2 r.1.Tables ∧ Ow kEntry 66 w'.heap (okL [(w.heap.size, none, some 66)]) (okL []) B3 d3 r.1.Job.Table.List_ ∧ Ow kPair 124 w'.heap (okL [(w.heap.size, none, some 124)]) (okL []) B4 d4 r.2.1 := by
 have h1 : Sl kDeviceR w.heap (okL [(0, some w.heap.size, none)]) A1 p0.Devices := hs1.old _ rfl
 have h2 : Sl kTableR w.heap (okL [(0, some w.heap.size, none)]) A2 p0.Tables := hs2.old _ rfl
 have h3 : Sl kEntry w.heap (okL [(0, some w.heap.size, none)]) A3 p0.Job.Table.List_ := hs3.old _ rfl
 have hG0 : 0 < w.heap.size := hG.lt
 have x0 : Ext w w := Upd.refl _ w
 unfold move_Step.f at H
 refine calls_start Tryz.func16 rfl 72 rfl [.agg #[.slice A1 p0.Devices.length c_1, .slice A2 p0.Tables.length c_2, iv p0.Job.Dev, iv p0.Job.At, iv p0.Job.Table.Dev, iv p0.Job.Table.Size, .slice A3 p0.Job.Table.List_.length c_3, iv p0.Next], iv p1] rfl ?_
 refine CW.seq (CW.lex [.X, .X, .X, .W] rfl (RW.box (cs := [.slice A1 p0.Devices.length c_1, .slice A2 p0.Tables.length c_2, iv p0.Job.Dev, iv p0.Job.At, iv p0.Job.Table.Dev, iv p0.Job.Table.Size, .slice A3 p0.Job.Table.List_.length c_3, iv p0.Next]) (.inl rfl) ⟨rfl, rfl, rfl, rfl⟩ rfl rfl rfl ?_))
 intro b1 w1 x1 l1 h4
 have sx1 := x1.size
 have ltb1 := h4.lt
 refine RW.alloc tk (.inl rfl) ⟨rfl, rfl, rfl, rfl⟩ rfl rfl ?_
 intro b2 w2 x2 l2 h5
 have sx2 := x2.size
 have ltb2 := h5.lt
 refine RW.alloc tk (.inl rfl) ⟨rfl, rfl, rfl, rfl⟩ rfl rfl ?_
 intro b3 w3 x3 l3 h6
 have sx3 := x3.size
 have ltb3 := h6.lt
 refine pu 1 rfl (RW.done (NW.next (CW.seq (CW.lex [.L, .X, .W, .W, .W, .W, .W] rfl ?_))))
 have h7 := (h4.ext x2).ext x3
 refine RW.ld tk [.slice A1 p0.Devices.length c_1, .slice A2 p0.Tables.length c_2, iv p0.Job.Dev, iv p0.Job.At, iv p0.Job.Table.Dev, iv p0.Job.Table.Size, .slice A3 p0.Job.Table.List_.length c_3, iv p0.Next] (h7.at 0) ?_
 have xc1 : Ext w3 w3 := Upd.refl _ _
 refine RW.callK (.inl rfl) ent30 ⟨rfl, rfl, rfl, rfl⟩ rfl rfl rfl ?_
 refine calls_start Tryz.func30 rfl 11 rfl [.agg #[.slice A1 p0.Devices.length c_1, .slice A2 p0.Tables.length c_2, iv p0.Job.Dev, iv p0.Job.At, iv p0.Job.Table.Dev, iv p0.Job.Table.Size, .slice A3 p0.Job.Table.List_.length c_3, iv p0.Next]] rfl ?_
 refine CW.seq (CW.lex [.X, .W, .W] rfl (RW.box (cs := [.slice A1 p0.Devices.length c_1, .slice A2 p0.Tables.length c_2, iv p0.Job.Dev, iv p0.Job.At, iv p0.Job.Table.Dev, iv p0.Job.Table.Size, .slice A3 p0.Job.Table.List_.length c_3, iv p0.Next]) (.inl rfl) ⟨rfl, rfl, rfl, rfl⟩ rfl rfl rfl ?_))
 intro b4 w4 x4 l4 h8
 have sx4 := x4.size
 have ltb4 := h8.lt
 refine pu 2 rfl (RW.done (NW.next (CW.seq (CW.seq ?_))))
 refine CW.lex [.L, .X, .W] rfl (RW.ld tk [.slice A1 p0.Devices.length c_1, .slice A2 p0.Tables.length c_2, iv p0.Job.Dev, iv p0.Job.At, iv p0.Job.Table.Dev, iv p0.Job.Table.Size, .slice A3 p0.Job.Table.List_.length c_3, iv p0.Next] (h8.at 0) ?_)
 have h9 := (((h1.ext x1).ext x2).ext x3).ext x4
 have h10 := (((h2.ext x1).ext x2).ext x3).ext x4
 have h11 := (((h3.ext x1).ext x2).ext x3).ext x4
 obtain ⟨y1, h12, H⟩ := bind_some H
 refine RW.cl ent53 (chain_May.calls k p0 A1 c_1 A2 c_2 A3 c_3 _ _ h9.all hl1 h10.all hl2 h11.all hl3 h12) ?_
 rintro _ w5 ⟨rfl, x5⟩
 refine ⟨_, rfl, x5, ?_⟩
 have sx5 := x5.size
 refine pu 1 rfl (RW.done (NW.next ?_))
 by_cases c1 : y1 = true
 ·rw [if_pos c1] at H
  refine CW.cond_f rfl (not_f (c1)) (CW.skip (NW.next (CW.seq (CW.lex [.L, .X, .W, .X, .W, .W] rfl ?_))))
  have h13 := h8.ext x5
  refine RW.ld tk [.slice A1 p0.Devices.length c_1, .slice A2 p0.Tables.length c_2, iv p0.Job.Dev, iv p0.Job.At, iv p0.Job.Table.Dev, iv p0.Job.Table.Size, .slice A3 p0.Job.Table.List_.length c_3, iv p0.Next] (h13.at 0) ?_
  have h14 := h9.ext x5
  have h15 := h10.ext x5
  have h16 := h11.ext x5
  obtain ⟨y2, h17, H⟩ := bind_some H
  refine RW.cl ent54 (chain_Own.calls k p0 A1 c_1 A2 c_2 A3 c_3 _ _ h14.all hl1 h15.all hl2 h16.all hl3 h17) ?_
  rintro _ w6 ⟨mid1, A4, c_4, A5, c_5, A6, c_6, rfl, x6, lomid1, himid1, h18, h19, h20⟩
  refine ⟨_, rfl, x6, ?_⟩
  have sx6 := x6.size
  have h21 : Ow kDeviceO 40 w6.heap (okL [(w5.heap.size, some w6.heap.size, some 40)]) (okL [(w5.heap.size, some w6.heap.size, some 105)]) A4 c_4 y2.Devices := h18.close
  have h22 : Ow kTableO 26 w6.heap (okL [(w5.heap.size, some w6.heap.size, some 26)]) (okL [(mid1, some w6.heap.size, some 66)]) A5 c_5 y2.Tables := h19.close
  have h23 : Ow kEntry 66 w6.heap (okL [(w5.heap.size, some mid1, some 66)]) (okL []) A6 c_6 y2.Job.Table.List_ := h20.close
  refine pu 1 rfl (RW.box (cs := [.slice A4 y2.Devices.length c_4, .slice A5 y2.Tables.length c_5, iv y2.Job.Dev, iv y2.Job.At, iv y2.Job.Table.Dev, iv y2.Job.Table.Size, .slice A6 y2.Job.Table.List_.length c_6, iv y2.Next]) (.inl rfl) ⟨rfl, rfl, rfl, rfl⟩ rfl rfl rfl ?_)
  intro b5 w7 x7 l5 h24
  have sx7 := x7.size
  have ltb5 := h24.lt
  refine pu 2 rfl (RW.done (NW.next (CW.ret ?_)))
  have h25 := (((xc1.tr x4).tr x5).tr x6).tr x7
  refine NW.ret2 rfl (by rfl) (by rfl) ⟨_, rfl, h25, ?_⟩
  refine pu 5 rfl (RW.done (NW.next (CW.seq (CW.block ?_))))
  refine CW.seq (CW.lw 11 rfl (pu 7 rfl ?_))
  by_cases c2 : p1 < 1
  ·rw [if_pos c2] at H
   cases H
  rw [if_neg c2] at H
  refine RW.bool 21 (b' := false) (decide_eq_false c2) rfl (pu 4 rfl (RW.done (NW.next ?_)))
  by_cases c3 : 64 < p1
  ·rw [if_pos c3] at H
   cases H
  rw [if_neg c3] at H
  refine CW.cond_f rfl (decide_eq_false c3) (CW.seq (CW.lex [.W, .W, .W, .W, .W, .L, .W, .W] rfl (pu 5 rfl (RW.lb tk [iv y2.Job.Dev] h24 2 ?_))))
  refine pu 2 rfl (RW.done (NW.next ?_))
  by_cases c4 : y2.Job.Dev = 0
  ·rw [if_pos c4] at H
   cases H
  rw [if_neg c4] at H
  refine CW.cond_f rfl (beq_f c4) (CW.skip ?_)
  refine NW.norm_block (NW.next ?_)
  refine CW.seq (CW.block ?_)
  refine CW.loop (fun n1 a w8 => ∃ (it1_0 : Int) (lb3_0_0 : List Pair) (Ab3_0_0 : Option Addr) (cb3_0_0 : Nat) (lb5_0_0 : List Device) (Ab5_0_0 : Option Addr) (cb5_0_0 : Nat) (ib5_3_0 : Int) (lb5_6_0 : List Entry) (Ab5_6_0 : Option Addr) (cb5_6_0 : Nat), Sat 72 [(1, iv it1_0), (4, .pointer (some ⟨b2, 0, none⟩)), (5, .pointer (some ⟨b3, 0, none⟩)), (7, .pointer (some ⟨b5, 0, none⟩))] a ∧ w7.heap.size ≤ w8.heap.size ∧ Ow kPair 124 w8.heap (okL [(w7.heap.size, none, some 124)]) (okL []) Ab3_0_0 cb3_0_0 lb3_0_0 ∧ Ow kDeviceO 40 w8.heap (okL [(w5.heap.size, none, some 40)]) (okL [(w5.heap.size, none, some 105)]) Ab5_0_0 cb5_0_0 lb5_0_0 ∧ Ow kEntry 66 w8.heap (okL [(w5.heap.size, some mid1, some 66), (w7.heap.size, none, some 66)]) (okL []) Ab5_6_0 cb5_6_0 lb5_6_0 ∧ Ow kTableO 26 w8.heap (okL [(w5.heap.size, some w6.heap.size, some 26)]) (okL [(mid1, some w6.heap.size, some 66)]) A5 c_5 y2.Tables ∧ Ext w w8 ∧ Box w8.heap b2 30 [.slice none 0 0, .slice none 0 0, iv 0, iv 0, iv 0, iv 0, .slice none 0 0, iv 0] ∧ Box w8.heap b3 51 [.slice Ab3_0_0 lb3_0_0.length cb3_0_0] ∧ Box w8.heap b5 78 [.slice Ab5_0_0 lb5_0_0.length cb5_0_0, .slice A5 y2.Tables.length c_5, iv y2.Job.Dev, iv ib5_3_0, iv y2.Job.Table.Dev, iv y2.Job.Table.Size, .slice Ab5_6_0 lb5_6_0.length cb5_6_0, iv y2.Next] ∧ move_Step.l0 k y2 n1 it1_0 lb3_0_0 lb5_0_0 ib5_3_0 lb5_6_0 = some r) k ?_ ?_
  have h26 := h21.ext x7
  have h27 := h23.ext x7
  have h28 := h22.ext x7
  have h29 := ((((((x0.tr x1).tr x2).tr x3).tr x4).tr x5).tr x6).tr x7
  have h30 := ((((h5.ext x3).ext x4).ext x5).ext x6).ext x7
  have h31 := (((h6.ext x4).ext x5).ext x6).ext x7
  ·exact fun a ha => ⟨p1, ([] : List Pair), none, 0, y2.Devices, A4, c_4, y2.Job.At, y2.Job.Table.List_, A6, c_6, ha.sb, by omega, Ow.nil, (h26.sb), (h27.sb), h28, h29, h30, h31, h24, H⟩
  intro n1 a w8 hI hp
  obtain ⟨it1_0, lb3_0_0, Ab3_0_0, cb3_0_0, lb5_0_0, Ab5_0_0, cb5_0_0, ib5_3_0, lb5_6_0, Ab5_6_0, cb5_6_0, hS, hle, fb3_0_0, fb5_0_0, fb5_6_0, gF5_0, x0_0, gb2_0, gb3_0, gb5_0, H⟩ := hI
  cases n1 with
  | zero => cases H
  | succ n1 =>
   rw [move_Step.l0] at H
   refine CW.go hp hS ?_
   have h32 : Ow kPair 124 w8.heap (okL [(w7.heap.size, some w8.heap.size, some 124)]) (okL []) Ab3_0_0 cb3_0_0 lb3_0_0 := fb3_0_0.close
   have h33 : Ow kDeviceO 40 w8.heap (okL [(w5.heap.size, some w8.heap.size, some 40)]) (okL [(w5.heap.size, some w8.heap.size, some 105)]) Ab5_0_0 cb5_0_0 lb5_0_0 := fb5_0_0.close
   have h34 : Ow kEntry 66 w8.heap (okL [(w5.heap.size, some mid1, some 66), (w7.heap.size, some w8.heap.size, some 66)]) (okL []) Ab5_6_0 cb5_6_0 lb5_6_0 := fb5_6_0.close
   have xt1 : Ext w8 w8 := Upd.refl _ _
   refine CW.seq ?_
   refine CW.seqJ (fun a w9 => ∃ (bt52_1 : Bool), Sat 72 [(1, iv it1_0), (4, .pointer (some ⟨b2, 0, none⟩)), (5, .pointer (some ⟨b3, 0, none⟩)), (7, .pointer (some ⟨b5, 0, none⟩)), (52, .bool bt52_1)] a ∧ w8.heap.size ≤ w9.heap.size ∧ Ext w w9 ∧ Ext w8 w9 ∧ move_Step.j0 k y2 it1_0 lb3_0_0 lb5_0_0 ib5_3_0 lb5_6_0 (move_Step.l0 k y2 n1) bt52_1 = some r) ?_ ?_
   ·refine CW.ord [0, 1, 3, 7, 15, 31, 63, 127, 255, 7, 519, 1543, 3591, 7687, 15879, 32263, 65535, 131071] (ofL [(0, .W), (1, .W), (2, .W), (3, .W), (4, .W), (5, .W), (6, .W), (7, .W), (9, .W), (10, .W), (11, .W), (12, .W), (13, .W), (14, .W), (8, .L), (15, .L), (16, .W), (17, .W)] .nil) mixed (by kernel_rfl) ?_
    intro w10 x8
    have sx8 := x8.size
    refine pu 3 rfl ?_
    have j7 := x0_0.tr x8
    have j8 := xt1.tr x8
    by_cases c5 : 0 < it1_0
    ·rw [if_pos c5] at H
     refine RW.bool 37 (b' := true) (decide_eq_true c5) rfl (pu 11 rfl ?_)
     have h35 := gb5_0.ext x8
     refine RW.lb tk [iv ib5_3_0] h35 3 ?_
     refine RW.lb tk [iv y2.Job.Table.Size] h35 5 ?_
     refine pu 2 rfl (RW.done ?_)
     exact NW.J fun a ha => ⟨(decide (ib5_3_0 < y2.Job.Table.Size)), ha.sb, by omega, j7, j8, H⟩
    rw [if_neg c5] at H
    refine RW.bool 37 (b' := false) (decide_eq_false c5) rfl (pu 15 rfl (RW.done ?_))
    exact NW.J fun a ha => ⟨false, ha.sb, by omega, j7, j8, H⟩
   intro a w9 hJ hp
   obtain ⟨bt52_1, hS, hle, x0_1, x_xt1_1, H⟩ := hJ
   unfold move_Step.j0 at H
   refine CW.go hp hS ?_
   have j1 := h33.ext x_xt1_1
   have j2 := gF5_0.ext x_xt1_1
   have j3 := h34.ext x_xt1_1
   have j4 := h32.ext x_xt1_1
   have j5 := gb3_0.ext x_xt1_1
   have j6 := gb2_0.ext x_xt1_1
   by_cases c6 : bt52_1 = true
   ·rw [if_pos c6] at H
    refine CW.cond_t rfl (c6) (CW.skip (NW.next (CW.seq (CW.block ?_))))
    refine CW.seq (CW.lex [.W, .M, .W] rfl (pu 1 rfl ?_))
    refine RW.callFM (R := fun e w11 => ∃ (bt56_2 : Bool) (lb3_0_2 : List Pair) (Ab3_0_2 : Option Addr) (cb3_0_2 : Nat) (lb5_0_2 : List Device) (Ab5_0_2 : Option Addr) (cb5_0_2 : Nat) (lb5_6_2 : List Entry) (Ab5_6_2 : Option Addr) (cb5_6_2 : Nat), e = .returned (.bool bt56_2) ∧ w9.heap.size ≤ w11.heap.size ∧ Ow kPair 124 w11.heap (okL [(w7.heap.size, none, some 124)]) (okL []) Ab3_0_2 cb3_0_2 lb3_0_2 ∧ Ow kDeviceO 40 w11.heap (okL [(w5.heap.size, none, some 40)]) (okL [(w5.heap.size, none, some 105)]) Ab5_0_2 cb5_0_2 lb5_0_2 ∧ Ow kEntry 66 w11.heap (okL [(w5.heap.size, some mid1, some 66), (w7.heap.size, none, some 66)]) (okL []) Ab5_6_2 cb5_6_2 lb5_6_2 ∧ Ow kTableO 26 w11.heap (okL [(w5.heap.size, some w6.heap.size, some 26)]) (okL [(mid1, some w6.heap.size, some 66)]) A5 c_5 y2.Tables ∧ Ext w w11 ∧ Box w11.heap b2 30 [.slice none 0 0, .slice none 0 0, iv 0, iv 0, iv 0, iv 0, .slice none 0 0, iv 0] ∧ Box w11.heap b3 51 [.slice Ab3_0_2 lb3_0_2.length cb3_0_2] ∧ Box w11.heap b5 78 [.slice Ab5_0_2 lb5_0_2.length cb5_0_2, .slice A5 y2.Tables.length c_5, iv y2.Job.Dev, iv (w64 (ib5_3_0 + 1)), iv y2.Job.Table.Dev, iv y2.Job.Table.Size, .slice Ab5_6_2 lb5_6_2.length cb5_6_2, iv y2.Next] ∧ move_Step.j1 it1_0 ib5_3_0 (move_Step.l0 k y2 n1) bt56_2 lb3_0_2 lb5_0_2 lb5_6_2 = some r) ent46 ⟨rfl, rfl, rfl, rfl⟩ rfl rfl rfl ?_ ?_
    ·refine calls_start Tryz.func46 rfl 100 rfl [.pointer (some ⟨b5, 0, none⟩), .pointer (some ⟨b3, 0, none⟩)] rfl ?_
     refine CW.seq (CW.lw 1 rfl (pu 1 rfl (RW.done (NW.next ?_))))
     refine CW.seq (CW.ord [0, 1, 3, 7, 15, 0, 32, 96, 224, 480, 992, 2047, 4095, 8191, 8191, 16383, 65535] (ofL [(0, .W), (1, .W), (2, .W), (3, .W), (5, .W), (6, .W), (7, .W), (8, .W), (9, .W), (4, .L), (10, .L), (11, .X), (12, .W), (13, .W), (14, .W), (15, .W), (16, .W)] .nil) mixed (by kernel_rfl) ?_)
     intro w12 x9
     have sx9 := x9.size
     refine pu 9 rfl ?_
     have h40 := (gb5_0.ext x_xt1_1).ext x9
     refine RW.lb tk [.slice Ab5_0_0 lb5_0_0.length cb5_0_0] h40 0 ?_
     refine RW.lb tk [iv y2.Job.Dev] h40 2 ?_
     have h41 := j1.ext x9
     obtain ⟨y3, h42, H⟩ := bind_some H
     refine RW.cl ent31 (room_Find.calls k Ab5_0_0 cb5_0_0 lb5_0_0 y2.Job.Dev _ _ (h41.all.to kDevice_ro rfl) h41.len h42) ?_
     rintro _ w13 ⟨rfl, x10⟩
     refine ⟨_, rfl, x10, ?_⟩
     have sx10 := x10.size
     refine pu 5 rfl (RW.done (NW.next (CW.seq (CW.lex [.W, .W, .W, .W, .W, .L, .W] rfl ?_))))
     refine pu 5 rfl ?_
     have h43 := h40.ext x10
     refine RW.lb tk [iv ib5_3_0] h43 3 ?_
     refine pu 1 rfl (RW.done (NW.next (CW.seq (CW.lex [.W, .W, .W, .W, .W, .L, .W, .W, .W, .W, .W, .M] rfl ?_))))
     refine pu 5 rfl (RW.lb tk [iv ib5_3_0] h43 3 ?_)
     refine pu 5 rfl (RW.sb tk h43 [iv (w64 (ib5_3_0 + 1))] ?_)
     intro w14 x11 h44
     have h45 : Box w14.heap b5 78 [.slice Ab5_0_0 lb5_0_0.length cb5_0_0, .slice A5 y2.Tables.length c_5, iv y2.Job.Dev, iv (w64 (ib5_3_0 + 1)), iv y2.Job.Table.Dev, iv y2.Job.Table.Size, .slice Ab5_6_0 lb5_6_0.length cb5_6_0, iv y2.Next] := h44
     have sx11 := x11.size
     refine RW.done (NW.next (CW.seq (CW.seq (CW.lex [.W, .W, .W, .W, .L, .W, .W, .L, .X, .W, .X, .W] rfl ?_))))
     refine pu 4 rfl (RW.lb tk [.slice Ab5_0_0 lb5_0_0.length cb5_0_0] h45 0 ?_)
     refine pu 1 rfl ?_
     obtain ⟨g1, H⟩ := guard_some H
     have h46 := (h41.ext x10).tB x11 h43
     obtain ⟨ad1, A7, c_7, A8, c_8, e1, a1, h47, h48⟩ := kDeviceO_ato h46 g1.1 g1.2
     refine RW.ix tk g1 e1 ?_
     refine RW.ld tk [iv ((rd lb5_0_0 y3.1).ID), iv ((rd lb5_0_0 y3.1).Size), .slice A7 ((rd lb5_0_0 y3.1).Free).length c_7, .slice A8 ((rd lb5_0_0 y3.1).Late).length c_8] a1 ?_
     obtain ⟨y4, h49, H⟩ := bind_some H
     refine RW.cl ent33 (room_Busy.calls k (rd lb5_0_0 y3.1) A7 c_7 A8 c_8 _ _ h47.all h47.len h48.all h48.len h49) ?_
     rintro _ w15 ⟨rfl, x12⟩
     refine ⟨_, rfl, x12, ?_⟩
     have sx12 := x12.size
     refine pu 1 rfl ?_
     obtain ⟨y5, h50, H⟩ := bind_some H
     refine RW.cl ent63 (seg_Set_Has.calls y4 ib5_3_0 _ _ h50) ?_
     rintro _ w16 ⟨rfl, x13⟩
     refine ⟨_, rfl, x13, ?_⟩
     have sx13 := x13.size
     refine pu 1 rfl (RW.done (NW.next ?_))
     have j9 := (h45.ext x12).ext x13
     have j10 := (h46.ext x12).ext x13
     have j11 := ((((j2.ext x9).ext x10).tB x11 h43).ext x12).ext x13
     have j12 := ((((j3.ext x9).ext x10).tB x11 h43).ext x12).ext x13
     have j13 := ((((j4.ext x9).ext x10).tB x11 h43).ext x12).ext x13
     have j14 := ((((x0_1.tr x9).tr x10).tB x11).tr x12).tr x13
     have j15 := ((((j5.ext x9).ext x10).tB x11).ext x12).ext x13
     have j16 := ((((j6.ext x9).ext x10).tB x11).ext x12).ext x13
     by_cases c7 : y5 = true
     ·rw [if_pos c7] at H
      refine CW.cond_f rfl (not_f (c7)) (CW.skip (NW.next (CW.seq (CW.ord [0, 1, 3, 7, 15, 0, 32, 96, 224, 480, 992, 2047, 4095, 8191, 8191, 16383, 65535] (ofL [(0, .W), (1, .W), (2, .W), (3, .W), (5, .W), (6, .W), (7, .W), (8, .W), (9, .W), (4, .L), (10, .L), (11, .M), (12, .W), (13, .W), (14, .W), (15, .W), (16, .W)] .nil) mixed (by kernel_rfl) ?_))))
      intro w17 x14
      have sx14 := x14.size
      refine pu 9 rfl ?_
      have h51 := j9.ext x14
      refine RW.lb tk [.slice Ab5_0_0 lb5_0_0.length cb5_0_0] h51 0 ?_
      refine RW.lb tk [iv y2.Job.Dev] h51 2 ?_
      refine RW.callFM (R := fun e w18 => ∃ (lt66_0_3 : List Ptr) (At66_0_3 : Option Addr) (ct66_0_3 : Nat) (bt66_1_3 : Bool) (lb5_0_3 : List Device) (Ab5_0_3 : Option Addr) (cb5_0_3 : Nat), e = .returned (.tuple #[.slice At66_0_3 lt66_0_3.length ct66_0_3, .bool bt66_1_3]) ∧ w17.heap.size ≤ w18.heap.size ∧ Ow kPtr 43 w18.heap (okL [(w17.heap.size, none, some 43)]) (okL []) At66_0_3 ct66_0_3 lt66_0_3 ∧ Ow kDeviceO 40 w18.heap (okL [(w5.heap.size, none, some 40)]) (okL [(w5.heap.size, none, some 105)]) Ab5_0_3 cb5_0_3 lb5_0_3 ∧ Ow kTableO 26 w18.heap (okL [(w5.heap.size, some w6.heap.size, some 26)]) (okL [(mid1, some w6.heap.size, some 66)]) A5 c_5 y2.Tables ∧ Ow kEntry 66 w18.heap (okL [(w5.heap.size, some mid1, some 66), (w7.heap.size, some w8.heap.size, some 66)]) (okL []) Ab5_6_0 cb5_6_0 lb5_6_0 ∧ Ow kPair 124 w18.heap (okL [(w7.heap.size, some w8.heap.size, some 124)]) (okL []) Ab3_0_0 cb3_0_0 lb3_0_0 ∧ Ext w w18 ∧ Box w18.heap b5 78 [.slice Ab5_0_3 lb5_0_3.length cb5_0_3, .slice A5 y2.Tables.length c_5, iv y2.Job.Dev, iv (w64 (ib5_3_0 + 1)), iv y2.Job.Table.Dev, iv y2.Job.Table.Size, .slice Ab5_6_0 lb5_6_0.length cb5_6_0, iv y2.Next] ∧ Box w18.heap b3 51 [.slice Ab3_0_0 lb3_0_0.length cb3_0_0] ∧ Box w18.heap b2 30 [.slice none 0 0, .slice none 0 0, iv 0, iv 0, iv 0, iv 0, .slice none 0 0, iv 0] ∧ move_Step.j2 y2 it1_0 lb3_0_0 ib5_3_0 lb5_6_0 (move_Step.l0 k y2 n1) lt66_0_3 bt66_1_3 lb5_0_3 = some r) ent71 ⟨rfl, rfl, rfl, rfl⟩ rfl rfl rfl ?_ ?_
      ·refine calls_start Tryz.func71 rfl 30 rfl [.slice Ab5_0_0 lb5_0_0.length cb5_0_0, iv 1, iv y2.Job.Dev] rfl ?_
       refine CW.seq (CW.lw 2 rfl (pu 2 rfl (RW.done (NW.next ?_))))
       refine CW.seq (CW.seq (CW.lex [.W, .W, .X, .W, .W] rfl (pu 2 rfl ?_)))
       have h52 := j10.ext x14
       obtain ⟨y6, h53, H⟩ := bind_some H
       refine RW.cl ent95 (room_Free.calls k Ab5_0_0 cb5_0_0 lb5_0_0 y2.Job.Dev _ _ (h52.all.to kDevice_ro rfl) h52.len h53) ?_
       rintro _ w19 ⟨rfl, x15⟩
       refine ⟨_, rfl, x15, ?_⟩
       have sx15 := x15.size
       refine pu 2 rfl (RW.done (NW.next ?_))
       have j17 := h52.ext x15
       have j18 := (j11.ext x14).ext x15
       have j19 := (j12.ext x14).ext x15
       have j20 := (j13.ext x14).ext x15
       have j21 := (j14.tr x14).tr x15
       have j22 := h51.ext x15
       have j23 := (j15.ext x14).ext x15
       have j24 := (j16.ext x14).ext x15
       by_cases c8 : y6 < 1
       ·rw [if_pos c8] at H
        refine CW.cond_t rfl (decide_eq_true c8) (CW.seq (CW.lw 2 rfl (pu 2 rfl (RW.done ?_))))
        refine NW.next (CW.ret (NW.ret_then ?_))
        exact NW.ret2 rfl (by rfl) (by rfl) ⟨([] : List Ptr), none, 0, false, lb5_0_0, Ab5_0_0, cb5_0_0, rfl, by omega, Ow.nil, (j17.sb), j18, j19, j20, j21, j22, j23, j24, H⟩
       rw [if_neg c8] at H
       refine CW.cond_f rfl (decide_eq_false c8) (CW.skip (NW.next (CW.seq (CW.seq ?_))))
       refine CW.lw 2 rfl (pu 2 rfl (RW.done (NW.next (CW.block ?_))))
       refine CW.loop (fun n2 a w20 => ∃ (lt0_4 : List Device) (lt6_4 : List Ptr) (At6_4 : Option Addr) (ct6_4 : Nat) (it16_4 : Int), Sat 30 [(0, .slice Ab5_0_0 lt0_4.length cb5_0_0), (2, iv y2.Job.Dev), (6, .slice At6_4 lt6_4.length ct6_4), (15, iv 1), (16, iv it16_4)] a ∧ w19.heap.size ≤ w20.heap.size ∧ Ow kDeviceO 40 w20.heap (okL [(w5.heap.size, none, some 40)]) (okL [(w5.heap.size, none, some 105)]) Ab5_0_0 cb5_0_0 lt0_4 ∧ Ow kPtr 43 w20.heap (okL [(w19.heap.size, none, some 43)]) (okL []) At6_4 ct6_4 lt6_4 ∧ Ow kPair 124 w20.heap (okL [(w7.heap.size, some w8.heap.size, some 124)]) (okL []) Ab3_0_0 cb3_0_0 lb3_0_0 ∧ Ow kTableO 26 w20.heap (okL [(w5.heap.size, some w6.heap.size, some 26)]) (okL [(mid1, some w6.heap.size, some 66)]) A5 c_5 y2.Tables ∧ Ow kEntry 66 w20.heap (okL [(w5.heap.size, some mid1, some 66), (w7.heap.size, some w8.heap.size, some 66)]) (okL []) Ab5_6_0 cb5_6_0 lb5_6_0 ∧ Ext w w20 ∧ lt0_4.length = lb5_0_0.length ∧ Box w20.heap b2 30 [.slice none 0 0, .slice none 0 0, iv 0, iv 0, iv 0, iv 0, .slice none 0 0, iv 0] ∧ Box w20.heap b3 51 [.slice Ab3_0_0 lb3_0_0.length cb3_0_0] ∧ Box w20.heap b5 78 [.slice Ab5_0_0 lt0_4.length cb5_0_0, .slice A5 y2.Tables.length c_5, iv y2.Job.Dev, iv (w64 (ib5_3_0 + 1)), iv y2.Job.Table.Dev, iv y2.Job.Table.Size, .slice Ab5_6_0 lb5_6_0.length cb5_6_0, iv y2.Next] ∧ move_Step.l1 k y2 it1_0 lb3_0_0 ib5_3_0 lb5_6_0 (move_Step.l0 k y2 n1) n2 lt0_4 lt6_4 it16_4 = some r) k ?_ ?_
       ·exact fun a ha => ⟨lb5_0_0, ([] : List Ptr), none, 0, 0, ha.sb, by omega, (j17.sb), Ow.nil, j20, j18, j19, j21, (by (try simp only [List.length_set]) <;> omega), j24, j23, j22, H⟩
       intro n2 a w20 hI hp
       obtain ⟨lt0_4, lt6_4, At6_4, ct6_4, it16_4, hS, hle, ft0_4, ft6_4, gL0_b3_0_4, gF5_4, gL0_b5_6_4, x0_4, ln_lt0_4, gb2_4, gb3_4, gb5_4, H⟩ := hI
       cases n2 with
       | zero => cases H
       | succ n2 =>
        rw [move_Step.l1] at H
        refine CW.go hp hS ?_
        have h70 : Ow kDeviceO 40 w20.heap (okL [(w5.heap.size, some w20.heap.size, some 40)]) (okL [(w5.heap.size, some w20.heap.size, some 105)]) Ab5_0_0 cb5_0_0 lt0_4 := ft0_4.close
        have h71 : Ow kPtr 43 w20.heap (okL [(w19.heap.size, some w20.heap.size, some 43)]) (okL []) At6_4 ct6_4 lt6_4 := ft6_4.close
        have xt2 : Ext w20 w20 := Upd.refl _ _
        refine CW.seq (CW.lw 1 rfl (pu 1 rfl (RW.done (NW.next ?_))))
        refine CW.seq ?_
        by_cases c9 : it16_4 < 1
        ·rw [if_pos c9] at H
         refine CW.cond_t rfl (decide_eq_true c9) (CW.skip (NW.next (CW.seq (CW.block ?_))))
         refine CW.seq (CW.lex [.W, .W, .M, .W, .W, .W, .X, .M, .W] rfl (pu 2 rfl (RW.callKM ent96 ⟨rfl, rfl, rfl, rfl⟩ rfl rfl rfl ?_)))
         refine calls_start Tryz.func96 rfl 39 rfl [.slice Ab5_0_0 lt0_4.length cb5_0_0, iv y2.Job.Dev] rfl ?_
         refine CW.seq (CW.lex [.X, .W] rfl (RW.alloc tk (.inl rfl) ⟨rfl, rfl, rfl, rfl⟩ rfl rfl ?_))
         intro b6 w21 x16 l8 h72
         have sx16 := x16.size
         have ltb6 := h72.lt
         refine pu 1 rfl (RW.done (NW.next (CW.seq (CW.lex [.W, .W, .X, .W] rfl ?_))))
         refine pu 2 rfl ?_
         have h73 := h70.ext x16
         obtain ⟨y7, h74, H⟩ := bind_some H
         refine RW.cl ent128 (room_emptiest.calls k Ab5_0_0 cb5_0_0 lt0_4 y2.Job.Dev _ _ (h73.all.to kDevice_ro rfl) h73.len h74) ?_
         rintro _ w22 ⟨rfl, x17⟩
         refine ⟨_, rfl, x17, ?_⟩
         have sx17 := x17.size
         refine pu 1 rfl (RW.done (NW.next (CW.seq (CW.seq ?_))))
         refine CW.lw 2 rfl (pu 2 rfl (RW.done (NW.next ?_)))
         by_cases c10 : y7 < 0
         ·rw [if_pos c10] at H
          cases H
         rw [if_neg c10] at H
         refine CW.cond_f rfl (decide_eq_false c10) (CW.skip (NW.next (CW.seq (CW.lex [.W, .W, .W, .W, .L, .X, .W] rfl ?_))))
         refine pu 2 rfl ?_
         obtain ⟨g2, H⟩ := guard_some H
         have h75 := h73.ext x17
         obtain ⟨ad2, A9, c_9, A10, c_10, e2, a2, h76, h77⟩ := kDeviceO_ato h75 g2.1 g2.2
         refine RW.ix tk g2 e2 ?_
         refine pu 1 rfl (RW.ld tk [.slice A9 ((rd lt0_4 y7).Free).length c_9] ((a2.fld 2).take 1 rfl) ?_)
         obtain ⟨y8, h78, H⟩ := bind_some H
         refine RW.cl ent57 (seg_Make.calls k A9 c_9 ((rd lt0_4 y7).Free) _ _ h76.all h76.len h78) ?_
         rintro _ w23 ⟨rfl, x18⟩
         refine ⟨_, rfl, x18, ?_⟩
         have sx18 := x18.size
         refine pu 1 rfl (RW.done (NW.next (CW.seq (CW.ord [0, 0, 3, 7, 15, 0, 32, 127, 255] (ofL [(0, .W), (1, .W), (2, .W), (3, .W), (5, .W), (4, .L), (6, .X), (7, .W), (8, .M)] .nil) mixed (by kernel_rfl) ?_))))
         intro w24 x19
         have sx19 := x19.size
         refine pu 2 rfl ?_
         obtain ⟨g3, H⟩ := guard_some H
         have h79 := (h75.ext x18).ext x19
         obtain ⟨ad3, A11, c_11, A12, c_12, e3, a3, h80, h81⟩ := kDeviceO_ato h79 g3.1 g3.2
         refine RW.ix tk g3 e3 ?_
         refine pu 2 rfl (RW.ld tk [iv ((rd lt0_4 y7).ID)] ((a3.fld 0).take 1 rfl) ?_)
         have h82 := ((((hG.ext x0_4).ext x16).ext x17).ext x18).ext x19
         obtain ⟨y9, h83, H⟩ := bind_some H
         refine RW.cl ent90 (seg_Set_Least.calls y8 _ _ h82 h83) ?_
         rintro _ w25 ⟨rfl, x20⟩
         refine ⟨_, rfl, x20, ?_⟩
         have sx20 := x20.size
         refine pu 1 rfl ?_
         have h84 := (((h72.ext x17).ext x18).ext x19).ext x20
         refine RW.sb tk h84 [iv ((rd lt0_4 y7).ID), iv y9] ?_
         intro w26 x21 h85
         have h86 : Box w26.heap b6 43 [iv ((rd lt0_4 y7).ID), iv y9] := h85
         have sx21 := x21.size
         refine RW.done (NW.next (CW.seq (CW.lex [.W, .W, .W, .W, .L, .X, .W, .X, .W, .W, .M] rfl (pu 4 rfl ?_))))
         refine RW.ld tk [iv y9] (h86.at 1) ?_
         obtain ⟨y10, h87, H⟩ := bind_some H
         refine RW.cl ent37 (seg_One.calls y9 _ _ h87) ?_
         rintro _ w27 ⟨rfl, x22⟩
         refine ⟨_, rfl, x22, ?_⟩
         have sx22 := x22.size
         refine pu 1 rfl ?_
         have h88 := ((h82.ext x20).tB x21).ext x22
         obtain ⟨y11, h89, H⟩ := bind_some H
         refine RW.cl ent40 (seg_Set_Segs.calls k (uandn y8 y10) _ _ h88 h89) ?_
         rintro _ w28 ⟨A13, c_13, rfl, x23, h90⟩
         refine ⟨_, rfl, x23, ?_⟩
         have sx23 := x23.size
         have h91 : Ow kSeg 105 w28.heap (okL [(w27.heap.size, some w28.heap.size, some 105)]) (okL []) A13 c_13 y11 := h90.close
         obtain ⟨g4, H⟩ := guard_some H
         have h92 := (((h79.ext x20).tB x21 h84).ext x22).ext x23
         obtain ⟨ad4, A14, c_14, A15, c_15, e4, a4, h93, h94⟩ := kDeviceO_ato h92 g4.1 g4.2
         refine RW.ix tk g4 e4 ?_
         refine pu 1 rfl ?_
         refine RW.storeElL (y := (⟨(rd lt0_4 y7).ID, (rd lt0_4 y7).Size, y11, (rd lt0_4 y7).Late⟩ : Device)) (lv := [(w27.heap.size, some w28.heap.size, some 105)]) (k := 2) tk h92 (j := y7.toNat) (by have := g4; omega) default [.slice A13 y11.length c_13] (fun cs ok' hr => by obtain ⟨qa1, qc1, qa2, qc2, rfl, q1, q2⟩ := kDeviceO_open hr; exact ⟨by simp, kDeviceO_mk (⟨(rd lt0_4 y7).ID, (rd lt0_4 y7).Size, y11, (rd lt0_4 y7).Late⟩ : Device) (h91.mono (fun _ _ ho => Or.inr (okL_sub (l := [(w27.heap.size, some w28.heap.size, some 105)]) (l' := [(w27.heap.size, some w28.heap.size, some 105)]) ⟨(.inl ⟨by omega, by omega, rfl⟩), trivial⟩ ho)) (fun _ _ ho => Or.inr (okL_sub (l := []) (l' := [(w27.heap.size, some w28.heap.size, some 105)]) trivial ho))) (q2.mono (fun _ _ ho => Or.inl ho) (fun _ _ ho => Or.inl ho))⟩) ⟨⟨.inl (nq rfl), trivial⟩, trivial⟩ ⟨rfl, rfl, rfl⟩ rfl rfl e4 rfl rfl rfl rfl rfl ?_
         intro w29 x24 h95
         have sx24 := x24.size
         have h96 := h95.close.sub (l' := [(w5.heap.size, some w20.heap.size, some 40)]) (li' := [(w5.heap.size, some w28.heap.size, some 105)]) ⟨(.inl ⟨by omega, by omega, rfl⟩), trivial⟩ ⟨(.inl ⟨by omega, by omega, rfl⟩), ⟨(.inl ⟨by omega, by omega, rfl⟩), trivial⟩⟩
         have h97 := ((((((((gb5_4.ext x16).ext x17).ext x18).ext x19).ext x20).tB x21).ext x22).ext x23).tL x24
         have h98 : Box w29.heap b5 78 [.slice Ab5_0_0 (lt0_4.set y7.toNat (⟨(rd lt0_4 y7).ID, (rd lt0_4 y7).Size, y11, (rd lt0_4 y7).Late⟩ : Device)).length cb5_0_0, .slice A5 y2.Tables.length c_5, iv y2.Job.Dev, iv (w64 (ib5_3_0 + 1)), iv y2.Job.Table.Dev, iv y2.Job.Table.Size, .slice Ab5_6_0 lb5_6_0.length cb5_6_0, iv y2.Next] := by simpa only [List.length_set] using h97
         refine RW.done (NW.next (CW.seq (CW.lex [.L, .M, .W] rfl ?_)))
         have h99 := ((h86.ext x22).ext x23).tL x24
         refine RW.ld tk [iv ((rd lt0_4 y7).ID), iv y9] (h99.at 0) ?_
         refine RW.sb tk h99 [iv ((rd lt0_4 y7).ID), iv y9] ?_
         intro w30 x25 h100
         have h101 : Box w30.heap b6 43 [iv ((rd lt0_4 y7).ID), iv y9] := h100
         have sx25 := x25.size
         refine pu 1 rfl (RW.done (NW.next (CW.ret ?_)))
         refine NW.ret2 rfl (resOne_cell tk (h101.at 0) rfl rfl rfl) (by rfl) ⟨_, rfl, ?_⟩
         refine RW.tell 0 (v' := .slice Ab5_0_0 (lt0_4.set y7.toNat (⟨(rd lt0_4 y7).ID, (rd lt0_4 y7).Size, y11, (rd lt0_4 y7).Late⟩ : Device)).length cb5_0_0) (show Value.slice Ab5_0_0 lt0_4.length cb5_0_0 = Value.slice Ab5_0_0 (lt0_4.set y7.toNat (⟨(rd lt0_4 y7).ID, (rd lt0_4 y7).Size, y11, (rd lt0_4 y7).Late⟩ : Device)).length cb5_0_0 from congrArg (fun n => Value.slice Ab5_0_0 n cb5_0_0) (by (try simp only [List.length_set]) <;> omega)) rfl ?_
         refine pu 3 rfl (RW.alloc tk (.inl rfl) ⟨rfl, rfl, rfl, rfl⟩ rfl rfl ?_)
         intro b7 w31 x26 l15 h102
         have sx26 := x26.size
         have ltb7 := h102.lt
         refine RW.sb tk h102 [iv ((rd lt0_4 y7).ID), iv y9] ?_
         intro w32 x27 h103
         have h104 : Box w32.heap b7 43 [iv ((rd lt0_4 y7).ID), iv y9] := h103
         have sx27 := x27.size
         refine pu 1 rfl (RW.done (NW.next (CW.lex [.W, .L, .X, .M, .W] rfl (pu 1 rfl ?_))))
         refine RW.ld tk [iv ((rd lt0_4 y7).ID), iv y9] (h104.at 0) ?_
         refine RW.buildSlice (cs := [iv ((rd lt0_4 y7).ID), iv y9]) tk (.inl rfl) ⟨rfl, rfl, rfl, rfl⟩ rfl rfl rfl rfl rfl rfl rfl ?_
         intro b8 w33 x28 l16 h105
         have sx28 := x28.size
         have ltb8 := h105.lt
         have h106 := ((((((((((((h71.ext x16).ext x17).ext x18).ext x19).ext x20).turnB x21 h84 ⟨.inr (by omega), trivial⟩ trivial).ext x22).ext x23).tL x24).turnB x25 h99 ⟨.inr (by omega), trivial⟩ trivial).ext x26).turnB x27 h102 ⟨.inr (by omega), trivial⟩ trivial).ext x28
         obtain ⟨g5, H⟩ := guard_some H
         refine RW.append1L (d := kPtr) (v := (⟨(rd lt0_4 y7).ID, y9⟩ : Ptr)) (l := [(w19.heap.size, some w20.heap.size, some 43)]) (li := []) (ly := []) (xs := lt6_4) tk h106 h105 (kPtr_mk (⟨(rd lt0_4 y7).ID, y9⟩ : Ptr)) trivial (by simp only [maxLen]; omega) g5 ⟨rfl, rfl, rfl, rfl⟩ rfl rfl rfl rfl rfl rfl rfl ?_
         intro A16 c_16 w34 x29 h107
         have sx29 := x29.size
         have h108 := h107.close.sub (l' := [(w19.heap.size, some w34.heap.size, some 43)]) (li' := []) ⟨(.inl ⟨by omega, by omega, rfl⟩), ⟨(.inl ⟨by omega, by omega, rfl⟩), trivial⟩⟩ trivial
         refine pu 1 rfl (RW.done ?_)
         refine NW.norm_block (NW.next ?_)
         refine CW.lw 2 rfl (pu 2 rfl (RW.done ?_))
         have h109 := ((((h96.tB x25 h99).ext x26).tB x27 h102).ext x28).tL x29
         have h110 := (((((((((((((gL0_b3_0_4.ext x16).ext x17).ext x18).ext x19).ext x20).tB x21 h84).ext x22).ext x23).tL x24).tB x25 h99).ext x26).tB x27 h102).ext x28).tL x29
         have h111 := (((((((((((((gF5_4.ext x16).ext x17).ext x18).ext x19).ext x20).tB x21 h84).ext x22).ext x23).tL x24).tB x25 h99).ext x26).tB x27 h102).ext x28).tL x29
         have h112 := (((((((((((((gL0_b5_6_4.ext x16).ext x17).ext x18).ext x19).ext x20).tB x21 h84).ext x22).ext x23).tL x24).tB x25 h99).ext x26).tB x27 h102).ext x28).tL x29
         have h113 := Ext.turn (((((Ext.turn ((((((((x0_4.tr x16).tr x17).tr x18).tr x19).tr x20).tB x21).tr x22).tr x23) x24 ⟨by omega, trivial⟩).tB x25).tr x26).tB x27).tr x28) x29 ⟨by omega, trivial⟩
         have h114 := (((((((((((((gb2_4.ext x16).ext x17).ext x18).ext x19).ext x20).tB x21).ext x22).ext x23).tL x24).tB x25).ext x26).tB x27).ext x28).tL x29
         have h115 := (((((((((((((gb3_4.ext x16).ext x17).ext x18).ext x19).ext x20).tB x21).ext x22).ext x23).tL x24).tB x25).ext x26).tB x27).ext x28).tL x29
         have h116 := ((((h98.tB x25).ext x26).tB x27).ext x28).tL x29
         exact NW.J fun a ha => ⟨n2, Nat.lt_succ_self n2, (lt0_4.set y7.toNat (⟨(rd lt0_4 y7).ID, (rd lt0_4 y7).Size, y11, (rd lt0_4 y7).Late⟩ : Device)), (lt6_4 ++ [(⟨(rd lt0_4 y7).ID, y9⟩ : Ptr)]), A16, c_16, (w64 (it16_4 + 1)), ha.sb, by omega, (h109.sb), (h108.sb), h110, h111, h112, h113, (by (try simp only [List.length_set]) <;> omega), h114, h115, h116, H⟩
        rw [if_neg c9] at H
        refine CW.cond_f rfl (decide_eq_false c9) (CW.exit ?_)
        refine NW.exit_then (NW.exit_then (NW.exit_hit ?_))
        refine NW.next (CW.seq (CW.lw 3 rfl (pu 3 rfl (RW.done ?_))))
        refine NW.next (CW.ret ?_)
        exact NW.ret2 rfl (by rfl) (by rfl) ⟨lt6_4, At6_4, ct6_4, true, lt0_4, Ab5_0_0, cb5_0_0, rfl, by omega, (h71.sb), (h70.sb), gF5_4, gL0_b5_6_4, gL0_b3_0_4, x0_4, gb5_4, gb3_4, gb2_4, H⟩
      rintro _ w18 ⟨lt66_0_3, At66_0_3, ct66_0_3, bt66_1_3, lb5_0_3, Ab5_0_3, cb5_0_3, rfl, hle, ft66_0_3, fb5_0_3, gF5_3, gL0_b5_6_3, gL0_b3_0_3, x0_3, gb5_3, gb3_3, gb2_3, H⟩
      refine ⟨_, rfl, ?_⟩
      unfold move_Step.j2 at H
      have h117 : Ow kPtr 43 w18.heap (okL [(w17.heap.size, some w18.heap.size, some 43)]) (okL []) At66_0_3 ct66_0_3 lt66_0_3 := ft66_0_3.close
      have h118 : Ow kDeviceO 40 w18.heap (okL [(w5.heap.size, some w18.heap.size, some 40)]) (okL [(w5.heap.size, some w18.heap.size, some 105)]) Ab5_0_3 cb5_0_3 lb5_0_3 := fb5_0_3.close
      have xt3 : Ext w18 w18 := Upd.refl _ _
      refine pu 5 rfl (RW.done (NW.next (CW.seq (CW.seq ?_))))
      refine CW.lw 2 rfl (pu 2 rfl (RW.done (NW.next ?_)))
      by_cases c11 : bt66_1_3 = true
      ·rw [if_pos c11] at H
       refine CW.cond_f rfl (not_f (c11)) (CW.skip (NW.next (CW.seq (CW.ord [0, 1, 3, 7, 15, 0, 0, 64, 192, 511] (ofL [(0, .W), (1, .W), (2, .W), (3, .W), (4, .W), (5, .W), (6, .W), (7, .W), (8, .L), (9, .M)] .nil) mixed (by kernel_rfl) ?_))))
       intro w35 x30
       have sx30 := x30.size
       refine pu 7 rfl ?_
       obtain ⟨g6, H⟩ := guard_some H
       have h119 := h117.ext x30
       obtain ⟨ad5, e5, a5⟩ := kPtr_at h119.slL g6.1 g6.2
       refine RW.ix tk g6 e5 ?_
       refine RW.ld tk [iv ((rd lt66_0_3 0).Dev), iv ((rd lt66_0_3 0).At)] a5 ?_
       refine RW.callFM (R := fun e w36 => ∃ (lb5_6_5 : List Entry) (Ab5_6_5 : Option Addr) (cb5_6_5 : Nat), e = .returned (.tuple #[]) ∧ w35.heap.size ≤ w36.heap.size ∧ Ow kEntry 66 w36.heap (okL [(w5.heap.size, some mid1, some 66), (w7.heap.size, none, some 66)]) (okL []) Ab5_6_5 cb5_6_5 lb5_6_5 ∧ Ow kDeviceO 40 w36.heap (okL [(w5.heap.size, some w18.heap.size, some 40)]) (okL [(w5.heap.size, some w18.heap.size, some 105)]) Ab5_0_3 cb5_0_3 lb5_0_3 ∧ Ow kTableO 26 w36.heap (okL [(w5.heap.size, some w6.heap.size, some 26)]) (okL [(mid1, some w6.heap.size, some 66)]) A5 c_5 y2.Tables ∧ Ow kPair 124 w36.heap (okL [(w7.heap.size, some w8.heap.size, some 124)]) (okL []) Ab3_0_0 cb3_0_0 lb3_0_0 ∧ Ow kPtr 43 w36.heap (okL [(w17.heap.size, some w18.heap.size, some 43)]) (okL []) At66_0_3 ct66_0_3 lt66_0_3 ∧ Ext w w36 ∧ Box w36.heap b5 78 [.slice Ab5_0_3 lb5_0_3.length cb5_0_3, .slice A5 y2.Tables.length c_5, iv y2.Job.Dev, iv (w64 (ib5_3_0 + 1)), iv y2.Job.Table.Dev, iv y2.Job.Table.Size, .slice Ab5_6_5 lb5_6_5.length cb5_6_5, iv y2.Next] ∧ Box w36.heap b3 51 [.slice Ab3_0_0 lb3_0_0.length cb3_0_0] ∧ Box w36.heap b2 30 [.slice none 0 0, .slice none 0 0, iv 0, iv 0, iv 0, iv 0, .slice none 0 0, iv 0] ∧ move_Step.j3 y2 it1_0 lb3_0_0 ib5_3_0 lt66_0_3 lb5_0_3 (move_Step.l0 k y2 n1) lb5_6_5 = some r) ent72 ⟨rfl, rfl, rfl, rfl⟩ rfl rfl rfl ?_ ?_
       ·refine calls_start Tryz.func72 rfl 70 rfl [.pointer (some ⟨b5, 4, none⟩), iv ib5_3_0, .agg #[iv ((rd lt66_0_3 0).Dev), iv ((rd lt66_0_3 0).At)]] rfl ?_
        refine CW.seq (CW.lex [.X] rfl (RW.box (cs := [iv ((rd lt66_0_3 0).Dev), iv ((rd lt66_0_3 0).At)]) (.inl rfl) ⟨rfl, rfl, rfl, rfl⟩ rfl rfl rfl ?_))
        intro b9 w37 x31 l17 h120
        have sx31 := x31.size
        have ltb9 := h120.lt
        refine RW.done (NW.next ?_)
        refine CW.seqJ (fun a w38 => Sat 70 [(0, .pointer (some ⟨b5, 4, none⟩)), (1, iv ib5_3_0), (5, .pointer (some ⟨b9, 0, none⟩))] a ∧ w37.heap.size ≤ w38.heap.size ∧ Ext w w38 ∧ Ext w18 w38 ∧ Box w38.heap b9 43 [iv ((rd lt66_0_3 0).Dev), iv ((rd lt66_0_3 0).At)] ∧ move_Step.j4 y2 it1_0 lb3_0_0 ib5_3_0 lb5_6_0 lt66_0_3 lb5_0_3 (move_Step.l0 k y2 n1) = some r) ?_ ?_
        ·refine CW.seq (CW.lex [.W, .W, .W, .L, .W, .W, .W] rfl (pu 3 rfl ?_))
         have h121 := (gb5_3.ext x30).ext x31
         refine RW.lb tk [.slice Ab5_6_0 lb5_6_0.length cb5_6_0] h121 6 ?_
         refine pu 3 rfl (RW.done (NW.next (CW.seq (CW.lw 2 rfl ?_))))
         refine pu 2 rfl (RW.done (NW.next ?_))
         have j25 := (x0_3.tr x30).tr x31
         have j26 := (xt3.tr x30).tr x31
         by_cases c12 : 0 ≤ (w64 ((lb5_6_0.length : Int) - 1))
         ·rw [if_pos c12] at H
          refine CW.cond_t rfl (decide_eq_true c12) (CW.seq (CW.lex [.W, .W, .W, .L, .W, .W, .L, .X, .M] rfl (pu 3 rfl (RW.lb tk [.slice Ab5_6_0 lb5_6_0.length cb5_6_0] h121 6 ?_))))
          refine pu 1 rfl ?_
          obtain ⟨g7, H⟩ := guard_some H
          have h122 := (gL0_b5_6_3.ext x30).ext x31
          obtain ⟨ad6, e6, a6⟩ := kEntry_at h122.slL g7.1 g7.2
          refine RW.ix tk g7 e6 ?_
          refine RW.ld tk [iv ((rd lb5_6_0 (w64 ((lb5_6_0.length : Int) - 1))).From), iv ((rd lb5_6_0 (w64 ((lb5_6_0.length : Int) - 1))).Len), iv ((rd lb5_6_0 (w64 ((lb5_6_0.length : Int) - 1))).Dev), iv ((rd lb5_6_0 (w64 ((lb5_6_0.length : Int) - 1))).To), iv ((rd lb5_6_0 (w64 ((lb5_6_0.length : Int) - 1))).Stale)] a6 ?_
          refine RW.alloc tk (.inl rfl) ⟨rfl, rfl, rfl, rfl⟩ rfl rfl ?_
          intro b10 w39 x32 l18 h123
          have sx32 := x32.size
          have ltb10 := h123.lt
          refine RW.sb tk h123 [iv ((rd lb5_6_0 (w64 ((lb5_6_0.length : Int) - 1))).From), iv ((rd lb5_6_0 (w64 ((lb5_6_0.length : Int) - 1))).Len), iv ((rd lb5_6_0 (w64 ((lb5_6_0.length : Int) - 1))).Dev), iv ((rd lb5_6_0 (w64 ((lb5_6_0.length : Int) - 1))).To), iv ((rd lb5_6_0 (w64 ((lb5_6_0.length : Int) - 1))).Stale)] ?_
          intro w40 x33 h124
          have h125 : Box w40.heap b10 66 [iv ((rd lb5_6_0 (w64 ((lb5_6_0.length : Int) - 1))).From), iv ((rd lb5_6_0 (w64 ((lb5_6_0.length : Int) - 1))).Len), iv ((rd lb5_6_0 (w64 ((lb5_6_0.length : Int) - 1))).Dev), iv ((rd lb5_6_0 (w64 ((lb5_6_0.length : Int) - 1))).To), iv ((rd lb5_6_0 (w64 ((lb5_6_0.length : Int) - 1))).Stale)] := h124
          have sx33 := x33.size
          refine RW.done (NW.next ?_)
          refine CW.seqJ (fun a w41 => ∃ (bt43_7 : Bool), Sat 70 [(0, .pointer (some ⟨b5, 4, none⟩)), (1, iv ib5_3_0), (5, .pointer (some ⟨b9, 0, none⟩)), (6, iv (w64 ((lb5_6_0.length : Int) - 1))), (43, .bool bt43_7)] a ∧ w40.heap.size ≤ w41.heap.size ∧ Ext w w41 ∧ Ext w18 w41 ∧ Box w41.heap b9 43 [iv ((rd lt66_0_3 0).Dev), iv ((rd lt66_0_3 0).At)] ∧ move_Step.j5 y2 it1_0 lb3_0_0 ib5_3_0 lb5_6_0 lt66_0_3 lb5_0_3 (move_Step.l0 k y2 n1) bt43_7 = some r) ?_ ?_
          ·refine CW.lex [.L, .X, .W, .W, .W, .W, .L, .W, .L, .W, .W, .W, .W, .L, .W, .L, .W, .W, .L, .W, .W] rfl (RW.ld tk [iv ((rd lb5_6_0 (w64 ((lb5_6_0.length : Int) - 1))).From), iv ((rd lb5_6_0 (w64 ((lb5_6_0.length : Int) - 1))).Len), iv ((rd lb5_6_0 (w64 ((lb5_6_0.length : Int) - 1))).Dev), iv ((rd lb5_6_0 (w64 ((lb5_6_0.length : Int) - 1))).To), iv ((rd lb5_6_0 (w64 ((lb5_6_0.length : Int) - 1))).Stale)] (h125.at 0) ?_)
           obtain ⟨y12, h126, H⟩ := bind_some H
           refine RW.cl ent97 (table_end.calls (rd lb5_6_0 (w64 ((lb5_6_0.length : Int) - 1))) _ _ h126) ?_
           rintro _ w42 ⟨rfl, x34⟩
           refine ⟨_, rfl, x34, ?_⟩
           have sx34 := x34.size
           refine pu 3 rfl ?_
           have j27 := ((h120.ext x32).tB x33).ext x34
           have j28 := ((j25.tr x32).tB x33).tr x34
           have j29 := ((j26.tr x32).tB x33).tr x34
           by_cases c13 : y12 = ib5_3_0
           ·rw [if_pos c13] at H
            refine RW.bool 27 (b' := true) (beq_t c13) rfl (pu 1 rfl ?_)
            have h127 := h125.ext x34
            refine RW.lb tk [iv ((rd lb5_6_0 (w64 ((lb5_6_0.length : Int) - 1))).Dev)] h127 2 ?_
            refine pu 1 rfl (RW.lb tk [iv ((rd lt66_0_3 0).Dev)] j27 0 ?_)
            refine pu 3 rfl ?_
            by_cases c14 : (rd lb5_6_0 (w64 ((lb5_6_0.length : Int) - 1))).Dev = (rd lt66_0_3 0).Dev
            ·rw [if_pos c14] at H
             refine RW.bool 34 (b' := true) (beq_t c14) rfl (pu 1 rfl (RW.lb tk [iv ((rd lb5_6_0 (w64 ((lb5_6_0.length : Int) - 1))).To)] h127 3 ?_))
             refine pu 1 rfl (RW.lb tk [iv ((rd lb5_6_0 (w64 ((lb5_6_0.length : Int) - 1))).Len)] h127 1 ?_)
             refine pu 2 rfl (RW.ld tk [iv ((rd lt66_0_3 0).At)] (j27.at 1) ?_)
             refine pu 2 rfl (RW.done ?_)
             exact NW.J fun a ha => ⟨((w64 (((rd lb5_6_0 (w64 ((lb5_6_0.length : Int) - 1))).To) + ((rd lb5_6_0 (w64 ((lb5_6_0.length : Int) - 1))).Len))) == ((rd lt66_0_3 0).At)), ha.sb, by omega, j28, j29, j27, H⟩
            rw [if_neg c14] at H
            refine RW.bool 34 (b' := false) (beq_f c14) rfl (pu 9 rfl (RW.done ?_))
            exact NW.J fun a ha => ⟨false, ha.sb, by omega, j28, j29, j27, H⟩
           rw [if_neg c13] at H
           refine RW.bool 27 (b' := false) (beq_f c13) rfl (pu 16 rfl (RW.done ?_))
           exact NW.J fun a ha => ⟨false, ha.sb, by omega, j28, j29, j27, H⟩
          intro a w41 hJ hp
          obtain ⟨bt43_7, hS, hle, x0_7, x_xt3_7, gb9_7, H⟩ := hJ
          unfold move_Step.j5 at H
          refine CW.go hp hS ?_
          have xt4 : Ext w41 w41 := Upd.refl _ _
          by_cases c15 : bt43_7 = true
          ·rw [if_pos c15] at H
           refine CW.cond_t rfl (c15) (CW.seq (CW.lex [.W, .W, .W, .L, .W, .W, .W, .L, .W, .W, .W, .M] rfl (pu 3 rfl (RW.lb tk [.slice Ab5_6_0 lb5_6_0.length cb5_6_0] (gb5_3.ext x_xt3_7) 6 ?_))))
           refine pu 1 rfl ?_
           obtain ⟨g8, H⟩ := guard_some H
           obtain ⟨ad7, e7, a7⟩ := kEntry_at ((gL0_b5_6_3.ext x_xt3_7).slL) g8.1 g8.2
           refine RW.ix tk g8 e7 ?_
           refine pu 1 rfl (RW.ld tk [iv ((rd lb5_6_0 (w64 ((lb5_6_0.length : Int) - 1))).Len)] ((a7.fld 1).take 1 rfl) ?_)
           refine pu 1 rfl ?_
           obtain ⟨g9, H⟩ := guard_some H
           obtain ⟨ad8, e8, a8⟩ := kEntry_at ((gL0_b5_6_3.ext x_xt3_7).slL) g9.1 g9.2
           refine RW.ix tk g9 e8 ?_
           refine pu 1 rfl ?_
           refine RW.storeElL (y := (⟨(rd lb5_6_0 (w64 ((lb5_6_0.length : Int) - 1))).From, w64 (((rd lb5_6_0 (w64 ((lb5_6_0.length : Int) - 1))).Len) + 1), (rd lb5_6_0 (w64 ((lb5_6_0.length : Int) - 1))).Dev, (rd lb5_6_0 (w64 ((lb5_6_0.length : Int) - 1))).To, (rd lb5_6_0 (w64 ((lb5_6_0.length : Int) - 1))).Stale⟩ : Entry)) (lv := []) (k := 1) tk (gL0_b5_6_3.ext x_xt3_7) (j := (w64 ((lb5_6_0.length : Int) - 1)).toNat) (by have := g9; omega) default [iv (w64 (((rd lb5_6_0 (w64 ((lb5_6_0.length : Int) - 1))).Len) + 1))] (fun cs ok' hr => by obtain rfl := kEntry_open hr; exact ⟨by simp, kEntry_mk (⟨(rd lb5_6_0 (w64 ((lb5_6_0.length : Int) - 1))).From, w64 (((rd lb5_6_0 (w64 ((lb5_6_0.length : Int) - 1))).Len) + 1), (rd lb5_6_0 (w64 ((lb5_6_0.length : Int) - 1))).Dev, (rd lb5_6_0 (w64 ((lb5_6_0.length : Int) - 1))).To, (rd lb5_6_0 (w64 ((lb5_6_0.length : Int) - 1))).Stale⟩ : Entry)⟩) trivial ⟨rfl, rfl, rfl⟩ rfl rfl e8 rfl rfl rfl rfl rfl ?_
           intro w43 x35 h136
           have sx35 := x35.size
           have h137 := h136.sub (l' := [(w5.heap.size, some mid1, some 66), (w7.heap.size, some w8.heap.size, some 66)]) (li' := []) ⟨(.inl ⟨by omega, by omega, rfl⟩), ⟨(.inr (.inl ⟨by omega, by omega, rfl⟩)), trivial⟩⟩ trivial
           have h138 := (gb5_3.ext x_xt3_7).tL x35
           have h139 : Box w43.heap b5 78 [.slice Ab5_0_3 lb5_0_3.length cb5_0_3, .slice A5 y2.Tables.length c_5, iv y2.Job.Dev, iv (w64 (ib5_3_0 + 1)), iv y2.Job.Table.Dev, iv y2.Job.Table.Size, .slice Ab5_6_0 (lb5_6_0.set (w64 ((lb5_6_0.length : Int) - 1)).toNat (⟨(rd lb5_6_0 (w64 ((lb5_6_0.length : Int) - 1))).From, w64 (((rd lb5_6_0 (w64 ((lb5_6_0.length : Int) - 1))).Len) + 1), (rd lb5_6_0 (w64 ((lb5_6_0.length : Int) - 1))).Dev, (rd lb5_6_0 (w64 ((lb5_6_0.length : Int) - 1))).To, (rd lb5_6_0 (w64 ((lb5_6_0.length : Int) - 1))).Stale⟩ : Entry)).length cb5_6_0, iv y2.Next] := by simpa only [List.length_set] using h138
           refine RW.done (NW.next (CW.ret (NW.ret_then ?_)))
           have h140 := (h118.ext x_xt3_7).tL x35
           have h141 := (gF5_3.ext x_xt3_7).turnL x35 ⟨⟨.inl (nq rfl), ⟨.inl (nq rfl), trivial⟩⟩, trivial⟩ ⟨⟨.inr (.inr (by omega)), ⟨.inr (.inl (by omega)), trivial⟩⟩, trivial⟩
           have h142 := (gL0_b3_0_3.ext x_xt3_7).tL x35
           have h143 := (h117.ext x_xt3_7).tL x35
           have h144 := Ext.turn x0_7 x35 ⟨by omega, ⟨by omega, trivial⟩⟩
           have h145 := (gb3_3.ext x_xt3_7).tL x35
           have h146 := (gb2_3.ext x_xt3_7).tL x35
           exact NW.ret0 rfl ⟨(lb5_6_0.set (w64 ((lb5_6_0.length : Int) - 1)).toNat (⟨(rd lb5_6_0 (w64 ((lb5_6_0.length : Int) - 1))).From, w64 (((rd lb5_6_0 (w64 ((lb5_6_0.length : Int) - 1))).Len) + 1), (rd lb5_6_0 (w64 ((lb5_6_0.length : Int) - 1))).Dev, (rd lb5_6_0 (w64 ((lb5_6_0.length : Int) - 1))).To, (rd lb5_6_0 (w64 ((lb5_6_0.length : Int) - 1))).Stale⟩ : Entry)), Ab5_6_0, cb5_6_0, rfl, by omega, (h137.sub ⟨(.inl ⟨by omega, by omega, rfl⟩), ⟨(.inr (.inl ⟨by omega, trivial, rfl⟩)), trivial⟩⟩ trivial), h140, h141, h142, h143, h144, h139, h145, h146, H⟩
          rw [if_neg c15] at H
          refine CW.cond_f rfl (bool_f c15) (CW.skip ?_)
          exact NW.J fun a ha => ⟨ha.sb, by omega, x0_7, x_xt3_7, gb9_7, H⟩
         rw [if_neg c12] at H
         refine CW.cond_f rfl (decide_eq_false c12) (CW.skip ?_)
         exact NW.J fun a ha => ⟨ha.sb, by omega, j25, j26, h120, H⟩
        intro a w38 hJ hp
        obtain ⟨hS, hle, x0_6, x_xt3_6, gb9_6, H⟩ := hJ
        unfold move_Step.j4 at H
        refine CW.go hp hS ?_
        have xt5 : Ext w38 w38 := Upd.refl _ _
        refine CW.ord [0, 0, 2, 6, 14, 0, 0, 64, 0, 256, 992, 2016, 4094, 8191, 16383, 32767] (ofL [(0, .W), (1, .W), (2, .W), (3, .W), (5, .W), (6, .W), (8, .W), (4, .L), (7, .L), (9, .L), (10, .W), (11, .X), (12, .M), (13, .W), (14, .W), (15, .M)] .nil) mixed (by kernel_rfl) ?_
        intro w44 x36
        have sx36 := x36.size
        refine pu 7 rfl ?_
        have h149 := (gb5_3.ext x_xt3_6).ext x36
        refine RW.lb tk [.slice Ab5_6_0 lb5_6_0.length cb5_6_0] h149 6 ?_
        have h150 := gb9_6.ext x36
        refine RW.lb tk [iv ((rd lt66_0_3 0).Dev)] h150 0 ?_
        refine RW.ld tk [iv ((rd lt66_0_3 0).At)] (h150.at 1) ?_
        refine pu 1 rfl (RW.buildSlice (cs := [iv ib5_3_0, iv 1, iv ((rd lt66_0_3 0).Dev), iv ((rd lt66_0_3 0).At), iv 0]) tk (.inl rfl) ⟨rfl, rfl, rfl, rfl⟩ rfl rfl rfl rfl rfl rfl rfl ?_)
        intro b11 w45 x37 l19 h151
        have sx37 := x37.size
        have ltb11 := h151.lt
        have h152 := ((gL0_b5_6_3.ext x_xt3_6).ext x36).ext x37
        obtain ⟨g10, H⟩ := guard_some H
        refine RW.append1L (d := kEntry) (v := (⟨ib5_3_0, 1, (rd lt66_0_3 0).Dev, (rd lt66_0_3 0).At, 0⟩ : Entry)) (l := [(w5.heap.size, some mid1, some 66), (w7.heap.size, some w8.heap.size, some 66)]) (li := []) (ly := []) (xs := lb5_6_0) tk h152 h151 (kEntry_mk (⟨ib5_3_0, 1, (rd lt66_0_3 0).Dev, (rd lt66_0_3 0).At, 0⟩ : Entry)) trivial (by simp only [maxLen]; omega) g10 ⟨rfl, rfl, rfl, rfl⟩ rfl rfl rfl rfl rfl rfl rfl ?_
        intro A17 c_17 w46 x38 h153
        have sx38 := x38.size
        have h154 := h153.close.sub (l' := [(w5.heap.size, some mid1, some 66), (w7.heap.size, some w46.heap.size, some 66)]) (li' := []) ⟨(.inl ⟨by omega, by omega, rfl⟩), ⟨(.inr (.inl ⟨by omega, by omega, rfl⟩)), ⟨(.inr (.inl ⟨by omega, by omega, rfl⟩)), trivial⟩⟩⟩ trivial
        refine pu 2 rfl ?_
        have h155 := (h149.ext x37).tL x38
        refine RW.sb tk h155 [.slice A17 (lb5_6_0 ++ [(⟨ib5_3_0, 1, (rd lt66_0_3 0).Dev, (rd lt66_0_3 0).At, 0⟩ : Entry)]).length c_17] ?_
        intro w47 x39 h156
        have h157 : Box w47.heap b5 78 [.slice Ab5_0_3 lb5_0_3.length cb5_0_3, .slice A5 y2.Tables.length c_5, iv y2.Job.Dev, iv (w64 (ib5_3_0 + 1)), iv y2.Job.Table.Dev, iv y2.Job.Table.Size, .slice A17 (lb5_6_0 ++ [(⟨ib5_3_0, 1, (rd lt66_0_3 0).Dev, (rd lt66_0_3 0).At, 0⟩ : Entry)]).length c_17, iv y2.Next] := h156
        have sx39 := x39.size
        refine RW.done (NW.end_ ?_)
        have h158 := h154.tB x39 h155
        have h159 := ((((h118.ext x_xt3_6).ext x36).ext x37).tL x38).tB x39 h155
        have h160 := ((((gF5_3.ext x_xt3_6).ext x36).ext x37).turnL x38 ⟨⟨.inl (nq rfl), ⟨.inl (nq rfl), trivial⟩⟩, trivial⟩ ⟨⟨.inr (.inr (by omega)), ⟨.inr (.inl (by omega)), trivial⟩⟩, trivial⟩).tB x39 h155
        have h161 := ((((gL0_b3_0_3.ext x_xt3_6).ext x36).ext x37).tL x38).tB x39 h155
        have h162 := ((((h117.ext x_xt3_6).ext x36).ext x37).tL x38).tB x39 h155
        have h163 := (Ext.turn ((x0_6.tr x36).tr x37) x38 ⟨by omega, ⟨by omega, trivial⟩⟩).tB x39
        have h164 := ((((gb3_3.ext x_xt3_6).ext x36).ext x37).tL x38).tB x39
        have h165 := ((((gb2_3.ext x_xt3_6).ext x36).ext x37).tL x38).tB x39
        exact NW.ret0 rfl ⟨(lb5_6_0 ++ [(⟨ib5_3_0, 1, (rd lt66_0_3 0).Dev, (rd lt66_0_3 0).At, 0⟩ : Entry)]), A17, c_17, rfl, by omega, (h158.sub ⟨(.inl ⟨by omega, by omega, rfl⟩), ⟨(.inr (.inl ⟨by omega, trivial, rfl⟩)), trivial⟩⟩ trivial), h159, h160, h161, h162, h163, h157, h164, h165, H⟩
       rintro _ w36 ⟨lb5_6_5, Ab5_6_5, cb5_6_5, rfl, hle, fb5_6_5, gL3_b5_0_5, gF5_5, gL0_b3_0_5, gL3_t66_0_5, x0_5, gb5_5, gb3_5, gb2_5, H⟩
       refine ⟨_, rfl, ?_⟩
       unfold move_Step.j3 at H
       have h166 : Ow kEntry 66 w36.heap (okL [(w5.heap.size, some mid1, some 66), (w7.heap.size, some w36.heap.size, some 66)]) (okL []) Ab5_6_5 cb5_6_5 lb5_6_5 := fb5_6_5.close
       have xt6 : Ext w36 w36 := Upd.refl _ _
       refine RW.done (NW.next (CW.seq (CW.ord [0, 0, 2, 6, 0, 16, 48, 112, 240, 496, 0, 2032, 0, 4096, 12288, 32752, 65520, 131070, 262143, 524287] (ofL [(0, .W), (1, .W), (2, .W), (4, .W), (5, .W), (6, .W), (7, .W), (8, .W), (10, .W), (12, .W), (13, .W), (3, .L), (9, .L), (11, .W), (14, .L), (15, .W), (16, .X), (17, .M), (18, .W), (19, .M)] .nil) mixed (by kernel_rfl) ?_)))
       intro w48 x40
       have sx40 := x40.size
       refine pu 10 rfl ?_
       obtain ⟨g11, H⟩ := guard_some H
       have h167 := gL3_t66_0_5.ext x40
       obtain ⟨ad9, e9, a9⟩ := kPtr_at h167.slL g11.1 g11.2
       refine RW.ix tk g11 e9 ?_
       have h168 := gb3_5.ext x40
       refine RW.ld tk [.slice Ab3_0_0 lb3_0_0.length cb3_0_0] (h168.at 0) ?_
       have h169 := gb5_5.ext x40
       refine RW.lb tk [iv y2.Job.Dev] h169 2 ?_
       refine pu 1 rfl (RW.ld tk [iv ((rd lt66_0_3 0).Dev), iv ((rd lt66_0_3 0).At)] a9 ?_)
       refine pu 1 rfl (RW.buildSlice (cs := [iv y2.Job.Dev, iv ib5_3_0, iv ((rd lt66_0_3 0).Dev), iv ((rd lt66_0_3 0).At)]) tk (.inl rfl) ⟨rfl, rfl, rfl, rfl⟩ rfl rfl rfl rfl rfl rfl rfl ?_)
       intro b12 w49 x41 l20 h170
       have sx41 := x41.size
       have ltb12 := h170.lt
       have h171 := (gL0_b3_0_5.ext x40).ext x41
       obtain ⟨g12, H⟩ := guard_some H
       refine RW.append1L (d := kPair) (v := (⟨(⟨y2.Job.Dev, ib5_3_0⟩ : Ptr), (rd lt66_0_3 0)⟩ : Pair)) (l := [(w7.heap.size, some w8.heap.size, some 124)]) (li := []) (ly := []) (xs := lb3_0_0) tk h171 h170 (kPair_mk (⟨(⟨y2.Job.Dev, ib5_3_0⟩ : Ptr), (rd lt66_0_3 0)⟩ : Pair)) trivial (by simp only [maxLen]; omega) g12 ⟨rfl, rfl, rfl, rfl⟩ rfl rfl rfl rfl rfl rfl rfl ?_
       intro A18 c_18 w50 x42 h172
       have sx42 := x42.size
       have h173 := h172.close.sub (l' := [(w7.heap.size, some w50.heap.size, some 124)]) (li' := []) ⟨(.inl ⟨by omega, by omega, rfl⟩), ⟨(.inl ⟨by omega, by omega, rfl⟩), trivial⟩⟩ trivial
       refine pu 1 rfl ?_
       have h174 := (h168.ext x41).tL x42
       refine RW.sb tk h174 [.slice A18 (lb3_0_0 ++ [(⟨(⟨y2.Job.Dev, ib5_3_0⟩ : Ptr), (rd lt66_0_3 0)⟩ : Pair)]).length c_18] ?_
       intro w51 x43 h175
       have h176 : Box w51.heap b3 51 [.slice A18 (lb3_0_0 ++ [(⟨(⟨y2.Job.Dev, ib5_3_0⟩ : Ptr), (rd lt66_0_3 0)⟩ : Pair)]).length c_18] := h175
       have sx43 := x43.size
       refine RW.done (NW.next (CW.seq (CW.lw 1 rfl (pu 1 rfl ?_))))
       refine RW.done (NW.next (CW.ret ?_))
       have h177 := h173.tB x43 h174
       have h178 := (((gL3_b5_0_5.ext x40).ext x41).tL x42).tB x43 h174
       have h179 := (((h166.ext x40).ext x41).tL x42).tB x43 h174
       have h180 := (((gF5_5.ext x40).ext x41).tL x42).tB x43 h174
       have h181 := (Ext.turn ((x0_5.tr x40).tr x41) x42 ⟨by omega, trivial⟩).tB x43
       have h182 := (((gb2_5.ext x40).ext x41).tL x42).tB x43
       have h183 := ((h169.ext x41).tL x42).tB x43
       exact NW.ret1 rfl (by rfl) ⟨true, (lb3_0_0 ++ [(⟨(⟨y2.Job.Dev, ib5_3_0⟩ : Ptr), (rd lt66_0_3 0)⟩ : Pair)]), A18, c_18, lb5_0_3, Ab5_0_3, cb5_0_3, lb5_6_5, Ab5_6_5, cb5_6_5, rfl, by omega, (h177.sb), (h178.sb), (h179.sub ⟨(.inl ⟨by omega, by omega, rfl⟩), ⟨(.inr (.inl ⟨by omega, trivial, rfl⟩)), trivial⟩⟩ trivial), h180, h181, h182, h176, h183, H⟩
      rw [if_neg c11] at H
      refine CW.cond_t rfl (not_t (bool_f c11)) (CW.seq (CW.lw 1 rfl (pu 1 rfl (RW.done ?_))))
      refine NW.next (CW.ret (NW.ret_then ?_))
      exact NW.ret1 rfl (by rfl) ⟨false, lb3_0_0, Ab3_0_0, cb3_0_0, lb5_0_3, Ab5_0_3, cb5_0_3, lb5_6_0, Ab5_6_0, cb5_6_0, rfl, by omega, (gL0_b3_0_3.sb), (h118.sb), (gL0_b5_6_3.sub ⟨(.inl ⟨by omega, by omega, rfl⟩), ⟨(.inr (.inl ⟨by omega, trivial, rfl⟩)), trivial⟩⟩ trivial), gF5_3, x0_3, gb2_3, gb3_3, gb5_3, H⟩
     rw [if_neg c7] at H
     refine CW.cond_t rfl (not_t (bool_f c7)) (CW.seq (CW.lw 1 rfl (pu 1 rfl (RW.done ?_))))
     refine NW.next (CW.ret (NW.ret_then ?_))
     exact NW.ret1 rfl (by rfl) ⟨true, lb3_0_0, Ab3_0_0, cb3_0_0, lb5_0_0, Ab5_0_0, cb5_0_0, lb5_6_0, Ab5_6_0, cb5_6_0, rfl, by omega, (j13.sb), (j10.sb), (j12.sub ⟨(.inl ⟨by omega, by omega, rfl⟩), ⟨(.inr (.inl ⟨by omega, trivial, rfl⟩)), trivial⟩⟩ trivial), j11, j14, j16, j15, j9, H⟩
    rintro _ w11 ⟨bt56_2, lb3_0_2, Ab3_0_2, cb3_0_2, lb5_0_2, Ab5_0_2, cb5_0_2, lb5_6_2, Ab5_6_2, cb5_6_2, rfl, hle, fb3_0_2, fb5_0_2, fb5_6_2, gF5_2, x0_2, gb2_2, gb3_2, gb5_2, H⟩
    refine ⟨_, rfl, ?_⟩
    unfold move_Step.j1 at H
    have h192 : Ow kPair 124 w11.heap (okL [(w7.heap.size, some w11.heap.size, some 124)]) (okL []) Ab3_0_2 cb3_0_2 lb3_0_2 := fb3_0_2.close
    have h193 : Ow kDeviceO 40 w11.heap (okL [(w5.heap.size, some w11.heap.size, some 40)]) (okL [(w5.heap.size, some w11.heap.size, some 105)]) Ab5_0_2 cb5_0_2 lb5_0_2 := fb5_0_2.close
    have h194 : Ow kEntry 66 w11.heap (okL [(w5.heap.size, some mid1, some 66), (w7.heap.size, some w11.heap.size, some 66)]) (okL []) Ab5_6_2 cb5_6_2 lb5_6_2 := fb5_6_2.close
    have xt7 : Ext w11 w11 := Upd.refl _ _
    refine pu 1 rfl (RW.done (NW.next ?_))
    by_cases c16 : bt56_2 = true
    ·rw [if_pos c16] at H
     refine CW.cond_f rfl (not_f (c16)) (CW.skip ?_)
     refine NW.norm_block (NW.next ?_)
     refine CW.lw 3 rfl (pu 3 rfl (RW.done ?_))
     exact NW.J fun a ha => ⟨n1, Nat.lt_succ_self n1, (w64 (it1_0 - 1)), lb3_0_2, Ab3_0_2, cb3_0_2, lb5_0_2, Ab5_0_2, cb5_0_2, (w64 (ib5_3_0 + 1)), lb5_6_2, Ab5_6_2, cb5_6_2, ha.sb, by omega, (h192.sb), (h193.sb), (h194.sub ⟨(.inl ⟨by omega, by omega, rfl⟩), ⟨(.inr (.inl ⟨by omega, trivial, rfl⟩)), trivial⟩⟩ trivial), gF5_2, x0_2, gb2_2, gb3_2, gb5_2, H⟩
    rw [if_neg c16] at H
    refine CW.cond_t rfl (not_t (bool_f c16)) (CW.seq (CW.lex [.L, .M, .M, .W] rfl (RW.ld tk [.slice none 0 0, .slice none 0 0, iv 0, iv 0, iv 0, iv 0, .slice none 0 0, iv 0] (gb2_2.at 0) ?_)))
    refine RW.sb tk gb2_2 [.slice none 0 0, .slice none 0 0, iv 0, iv 0, iv 0, iv 0, .slice none 0 0, iv 0] ?_
    intro w52 x44 h195
    have h196 : Box w52.heap b2 30 [.slice none 0 0, .slice none 0 0, iv 0, iv 0, iv 0, iv 0, .slice none 0 0, iv 0] := h195
    have sx44 := x44.size
    have h197 := gb3_2.tB x44
    refine RW.sb tk h197 [.slice none 0 0] ?_
    intro w53 x45 h198
    have h199 : Box w53.heap b3 51 [.slice none 0 0] := h198
    have sx45 := x45.size
    refine pu 1 rfl (RW.done (NW.next (CW.ret ?_)))
    refine NW.ret_block (NW.ret_then (NW.ret_then (NW.ret_block (NW.ret_then ?_))))
    have h200 := h196.tB x45
    obtain rfl := Option.some.inj H
    have h201 := (x0_2.tB x44).tB x45
    exact NW.ret3 rfl (resOne_cell tk (h200.at 0) rfl rfl rfl) (resOne_cell tk (h199.at 0) rfl rfl rfl) (by rfl) ⟨none, 0, none, 0, none, 0, none, 0, rfl, h201, Ow.nil, Ow.nil, Ow.nil, Ow.nil⟩
   rw [if_neg c6] at H
   refine CW.cond_f rfl (bool_f c6) (CW.exit ?_)
   refine NW.exit_then (NW.exit_then (NW.exit_hit ?_))
   refine NW.next (CW.seq (CW.lex [.W, .M] rfl (pu 1 rfl ?_)))
   refine RW.callFM (R := fun e w54 => ∃ (lb5_0_8 : List Device) (Ab5_0_8 : Option Addr) (cb5_0_8 : Nat) (lb5_1_8 : List Table) (Ab5_1_8 : Option Addr) (cb5_1_8 : Nat) (ib5_2_8 : Int) (ib5_3_8 : Int) (ib5_4_8 : Int) (ib5_5_8 : Int) (lb5_6_8 : List Entry) (Ab5_6_8 : Option Addr) (cb5_6_8 : Nat), e = .returned (.tuple #[]) ∧ w9.heap.size ≤ w54.heap.size ∧ Ow kPair 124 w54.heap (okL [(w7.heap.size, some w8.heap.size, some 124)]) (okL []) Ab3_0_0 cb3_0_0 lb3_0_0 ∧ Ow kDeviceO 40 w54.heap (okL [(w5.heap.size, some w8.heap.size, some 40)]) (okL [(w5.heap.size, none, some 105)]) Ab5_0_8 cb5_0_8 lb5_0_8 ∧ Ow kTableO 26 w54.heap (okL [(w5.heap.size, none, some 26)]) (okL [(w5.heap.size, none, some 66)]) Ab5_1_8 cb5_1_8 lb5_1_8 ∧ Ow kEntry 66 w54.heap (okL [(w5.heap.size, some mid1, some 66), (w7.heap.size, some w8.heap.size, some 66)]) (okL []) Ab5_6_8 cb5_6_8 lb5_6_8 ∧ Ext w w54 ∧ Box w54.heap b2 30 [.slice none 0 0, .slice none 0 0, iv 0, iv 0, iv 0, iv 0, .slice none 0 0, iv 0] ∧ Box w54.heap b3 51 [.slice Ab3_0_0 lb3_0_0.length cb3_0_0] ∧ Box w54.heap b5 78 [.slice Ab5_0_8 lb5_0_8.length cb5_0_8, .slice Ab5_1_8 lb5_1_8.length cb5_1_8, iv ib5_2_8, iv ib5_3_8, iv ib5_4_8, iv ib5_5_8, .slice Ab5_6_8 lb5_6_8.length cb5_6_8, iv y2.Next] ∧ move_Step.j6 k y2 lb3_0_0 lb5_0_8 lb5_1_8 ib5_2_8 ib5_3_8 ib5_4_8 ib5_5_8 lb5_6_8 = some r) ent47 ⟨rfl, rfl, rfl, rfl⟩ rfl rfl rfl ?_ ?_
   ·refine calls_start Tryz.func47 rfl 85 rfl [.pointer (some ⟨b5, 0, none⟩)] rfl ?_
    refine CW.seq (CW.seq (CW.ord [0, 1, 3, 7, 15, 31, 0, 64, 192, 448, 960, 1984, 4032, 8191] (ofL [(0, .W), (1, .W), (2, .W), (3, .W), (4, .W), (6, .W), (7, .W), (8, .W), (9, .W), (10, .W), (11, .W), (5, .L), (12, .L), (13, .W)] .nil) mixed (by kernel_rfl) ?_))
    intro w55 x46
    have sx46 := x46.size
    refine pu 11 rfl ?_
    have h202 := (gb5_0.ext x_xt1_1).ext x46
    refine RW.lb tk [iv ib5_3_0] h202 3 ?_
    refine RW.lb tk [iv y2.Job.Table.Size] h202 5 ?_
    refine pu 1 rfl (RW.done (NW.next ?_))
    have j30 := j4.ext x46
    have j31 := j1.ext x46
    have j32 := j2.ext x46
    have j33 := j3.ext x46
    have j34 := j6.ext x46
    have j35 := j5.ext x46
    by_cases c17 : ib5_3_0 < y2.Job.Table.Size
    ·rw [if_pos c17] at H
     refine CW.cond_t rfl (decide_eq_true c17) (CW.ret (NW.ret_then ?_))
     have h207 := x0_1.tr x46
     exact NW.ret0 rfl ⟨lb5_0_0, Ab5_0_0, cb5_0_0, y2.Tables, A5, c_5, y2.Job.Dev, ib5_3_0, y2.Job.Table.Dev, y2.Job.Table.Size, lb5_6_0, Ab5_6_0, cb5_6_0, rfl, by omega, j30, (j31.sb), (j32.sb), (j33.sub ⟨(.inl ⟨by omega, by omega, rfl⟩), ⟨(.inr (.inl ⟨by omega, by omega, rfl⟩)), trivial⟩⟩ trivial), h207, j34, j35, h202, H⟩
    rw [if_neg c17] at H
    refine CW.cond_f rfl (decide_eq_false c17) (CW.skip (NW.next (CW.seq (CW.ord [0, 1, 3, 7, 15, 0, 32, 96, 224, 480, 992, 2047, 4095, 8191, 8191, 16383, 65535] (ofL [(0, .W), (1, .W), (2, .W), (3, .W), (5, .W), (6, .W), (7, .W), (8, .W), (9, .W), (4, .L), (10, .L), (11, .X), (12, .W), (13, .W), (14, .W), (15, .W), (16, .W)] .nil) mixed (by kernel_rfl) ?_))))
    intro w56 x47
    have sx47 := x47.size
    refine pu 9 rfl ?_
    have h210 := h202.ext x47
    refine RW.lb tk [.slice Ab5_0_0 lb5_0_0.length cb5_0_0] h210 0 ?_
    refine RW.lb tk [iv y2.Job.Dev] h210 2 ?_
    have h211 := j31.ext x47
    obtain ⟨y13, h212, H⟩ := bind_some H
    refine RW.cl ent31 (room_Find.calls k Ab5_0_0 cb5_0_0 lb5_0_0 y2.Job.Dev _ _ (h211.all.to kDevice_ro rfl) h211.len h212) ?_
    rintro _ w57 ⟨rfl, x48⟩
    refine ⟨_, rfl, x48, ?_⟩
    have sx48 := x48.size
    refine pu 5 rfl (RW.done (NW.next (CW.seq (CW.ord [0, 1, 3, 7, 0, 16, 48, 112, 240, 496, 1023, 2047, 4095, 4095, 8191, 32767] (ofL [(0, .W), (1, .W), (2, .W), (4, .W), (5, .W), (6, .W), (7, .W), (8, .W), (3, .L), (9, .L), (10, .X), (11, .W), (12, .W), (13, .W), (14, .W), (15, .W)] .nil) mixed (by kernel_rfl) ?_))))
    intro w58 x49
    have sx49 := x49.size
    refine pu 8 rfl ?_
    have h213 := (h210.ext x48).ext x49
    refine RW.ld tk [.slice Ab5_0_0 lb5_0_0.length cb5_0_0, .slice A5 y2.Tables.length c_5, iv y2.Job.Dev, iv ib5_3_0, iv y2.Job.Table.Dev, iv y2.Job.Table.Size, .slice Ab5_6_0 lb5_6_0.length cb5_6_0, iv y2.Next] (h213.at 0) ?_
    refine RW.lb tk [iv y2.Job.Dev] h213 2 ?_
    have h214 := (h211.ext x48).ext x49
    have h215 := ((j32.ext x47).ext x48).ext x49
    have h216 := ((j33.ext x47).ext x48).ext x49
    obtain ⟨y14, h217, H⟩ := bind_some H
    refine RW.cl ent60 (chain_Find.calls k (⟨lb5_0_0, y2.Tables, (⟨y2.Job.Dev, ib5_3_0, (⟨y2.Job.Table.Dev, y2.Job.Table.Size, lb5_6_0⟩ : Table)⟩ : Job), y2.Next⟩ : Pool) Ab5_0_0 cb5_0_0 A5 c_5 Ab5_6_0 cb5_6_0 y2.Job.Dev _ _ (h214.all.to kDevice_ro rfl) h214.len (h215.all.to kTable_ro rfl) h215.len h216.all h216.len h217) ?_
    rintro _ w59 ⟨rfl, x50⟩
    refine ⟨_, rfl, x50, ?_⟩
    have sx50 := x50.size
    refine pu 5 rfl (RW.done (NW.next ?_))
    refine CW.seqJ (fun a w60 => ∃ (lb5_0_9 : List Device) (Ab5_0_9 : Option Addr) (cb5_0_9 : Nat) (lb5_1_9 : List Table) (Ab5_1_9 : Option Addr) (cb5_1_9 : Nat), Sat 85 [(0, .pointer (some ⟨b5, 0, none⟩))] a ∧ w59.heap.size ≤ w60.heap.size ∧ Ow kDeviceO 40 w60.heap (okL [(w5.heap.size, some w8.heap.size, some 40)]) (okL [(w5.heap.size, none, some 105)]) Ab5_0_9 cb5_0_9 lb5_0_9 ∧ Ow kTableO 26 w60.heap (okL [(w5.heap.size, none, some 26)]) (okL [(w5.heap.size, none, some 66)]) Ab5_1_9 cb5_1_9 lb5_1_9 ∧ Ow kEntry 66 w60.heap (okL [(w5.heap.size, some mid1, some 66), (w7.heap.size, some w8.heap.size, some 66)]) (okL []) Ab5_6_0 cb5_6_0 lb5_6_0 ∧ Ow kPair 124 w60.heap (okL [(w7.heap.size, some w8.heap.size, some 124)]) (okL []) Ab3_0_0 cb3_0_0 lb3_0_0 ∧ Ext w w60 ∧ Box w60.heap b5 78 [.slice Ab5_0_9 lb5_0_9.length cb5_0_9, .slice Ab5_1_9 lb5_1_9.length cb5_1_9, iv y2.Job.Dev, iv ib5_3_0, iv y2.Job.Table.Dev, iv y2.Job.Table.Size, .slice Ab5_6_0 lb5_6_0.length cb5_6_0, iv y2.Next] ∧ Box w60.heap b2 30 [.slice none 0 0, .slice none 0 0, iv 0, iv 0, iv 0, iv 0, .slice none 0 0, iv 0] ∧ Box w60.heap b3 51 [.slice Ab3_0_0 lb3_0_0.length cb3_0_0] ∧ move_Step.j7 k y2 lb3_0_0 lb5_0_9 lb5_1_9 = some r) ?_ ?_
    ·refine CW.ord [0, 0, 0, 4, 12, 28, 60, 0, 0, 256, 1020, 0, 2048, 6144, 14336, 30720, 0, 0, 131072, 393216, 917504, 1966080, 4063232, 8257536, 16777212, 33554429, 67108861, 134217725, 268435453, 536870911, 1073741823, 2147483647, 4294967295] (ofL [(0, .W), (1, .W), (2, .W), (3, .W), (4, .W), (5, .W), (7, .W), (8, .W), (9, .W), (11, .W), (12, .W), (13, .W), (14, .W), (16, .W), (17, .W), (18, .W), (19, .W), (20, .W), (21, .W), (6, .L)] (.three 10 .M (ofL [(15, .L), (22, .L), (23, .X), (24, .M), (25, .W), (26, .W), (27, .W), (28, .M), (29, .W), (30, .W), (31, .W), (32, .M)] .nil) 15 .L (ofL [] (.two 10 .M (ofL [(22, .L), (23, .X), (24, .M), (25, .W), (26, .W), (27, .W), (28, .M), (29, .W), (30, .W), (31, .W), (32, .M)] .nil) 22 .L (ofL [] (.two 10 .M (ofL [(23, .X), (24, .M), (25, .W), (26, .W), (27, .W), (28, .M), (29, .W), (30, .W), (31, .W), (32, .M)] .nil) 23 .X (ofL [(10, .M), (24, .M), (25, .W), (26, .W), (27, .W), (28, .M), (29, .W), (30, .W), (31, .W), (32, .M)] .nil))))) 22 .L (ofL [] (.three 10 .M (ofL [(15, .L), (23, .X), (24, .M), (25, .W), (26, .W), (27, .W), (28, .M), (29, .W), (30, .W), (31, .W), (32, .M)] .nil) 15 .L (ofL [] (.two 10 .M (ofL [(23, .X), (24, .M), (25, .W), (26, .W), (27, .W), (28, .M), (29, .W), (30, .W), (31, .W), (32, .M)] .nil) 23 .X (ofL [(10, .M), (24, .M), (25, .W), (26, .W), (27, .W), (28, .M), (29, .W), (30, .W), (31, .W), (32, .M)] .nil))) 23 .X (ofL [] (.two 10 .M (ofL [(15, .L), (24, .M), (25, .W), (26, .W), (27, .W), (28, .M), (29, .W), (30, .W), (31, .W), (32, .M)] .nil) 15 .L (ofL [(10, .M), (24, .M), (25, .W), (26, .W), (27, .W), (28, .M), (29, .W), (30, .W), (31, .W), (32, .M)] .nil))))))) mixed (by kernel_rfl) ?_
     intro w61 x51
     have sx51 := x51.size
     refine pu 19 rfl ?_
     have h218 := (h213.ext x50).ext x51
     refine RW.lb tk [.slice Ab5_0_0 lb5_0_0.length cb5_0_0] h218 0 ?_
     refine RW.three ?_ ?_ ?_
     ·have h219 := (h214.ext x50).ext x51
      obtain ⟨y15, h220, H⟩ := bind_some H
      refine RW.callFM (cap := []) ent73 ⟨rfl, rfl, rfl, rfl⟩ rfl rfl rfl (slices_Delete_Device.calls (l := [(w5.heap.size, some w8.heap.size, some 40)]) (li := [(w5.heap.size, some w8.heap.size, some 105)]) Ab5_0_0 cb5_0_0 lb5_0_0 y13.1 (w64 (y13.1 + 1)) _ _ h219 h220) ?_
      rintro _ w62 ⟨rfl, x52, h221⟩
      refine ⟨_, rfl, ?_⟩
      have sx52 := x52.size
      have h222 := h218.tL x52
      refine RW.lb tk [.slice A5 y2.Tables.length c_5] h222 1 ?_
      refine RW.lb tk [iv y2.Job.Table.Dev, iv y2.Job.Table.Size, .slice Ab5_6_0 lb5_6_0.length cb5_6_0] h222 4 ?_
      refine RW.buildSlice (cs := [iv y2.Job.Table.Dev, iv y2.Job.Table.Size, .slice Ab5_6_0 lb5_6_0.length cb5_6_0]) tk (.inl rfl) ⟨rfl, rfl, rfl, rfl⟩ rfl rfl rfl rfl rfl rfl rfl ?_
      intro b13 w63 x53 l21 h223
      have sx53 := x53.size
      have ltb13 := h223.lt
      have h224 := (((h215.ext x50).ext x51).tL x52).ext x53
      have h225 := (((h216.ext x50).ext x51).tL x52).ext x53
      obtain ⟨y16, h226, H⟩ := bind_some H
      refine RW.callFM (cap := []) ent74 ⟨rfl, rfl, rfl, rfl⟩ rfl rfl rfl (slices_Insert_Table.calls (l := [(w5.heap.size, some w6.heap.size, some 26)]) (li := [(mid1, some w6.heap.size, some 66)]) (ly := [(w5.heap.size, some mid1, some 66), (w7.heap.size, some w8.heap.size, some 66)]) A5 c_5 y2.Tables y14.1 (⟨y2.Job.Table.Dev, y2.Job.Table.Size, lb5_6_0⟩ : Table) _ _ _ _ h224 h223 (kTableO_mk (⟨y2.Job.Table.Dev, y2.Job.Table.Size, lb5_6_0⟩ : Table) (h225.sub (l' := [(w5.heap.size, some mid1, some 66), (w7.heap.size, some w8.heap.size, some 66)]) (li' := [(w5.heap.size, some mid1, some 66), (w7.heap.size, some w8.heap.size, some 66)]) ⟨(.inl ⟨by omega, by omega, rfl⟩), ⟨(.inr (.inl ⟨by omega, by omega, rfl⟩)), trivial⟩⟩ trivial)) ⟨⟨.inl (nq rfl), trivial⟩, ⟨⟨.inl (nq rfl), trivial⟩, trivial⟩⟩ ⟨.inr (by omega), trivial⟩ h226) ?_
      rintro _ w65 ⟨A19, c_19, rfl, x54, h227⟩
      refine ⟨_, rfl, ?_⟩
      have sx54 := x54.size
      have h228 := h227.close.sub (l' := [(w5.heap.size, some w65.heap.size, some 26)]) (li' := [(mid1, some w8.heap.size, some 66), (w5.heap.size, some mid1, some 66)]) ⟨(.inl ⟨by omega, by omega, rfl⟩), ⟨(.inl ⟨by omega, by omega, rfl⟩), trivial⟩⟩ ⟨(.inl ⟨by omega, by omega, rfl⟩), ⟨(.inr (.inl ⟨by omega, by omega, rfl⟩)), ⟨(.inl ⟨by omega, by omega, rfl⟩), trivial⟩⟩⟩
      refine pu 3 rfl ?_
      have h229 := (h222.ext x53).tL x54
      refine RW.sb tk h229 [.slice Ab5_0_0 y15.length cb5_0_0] ?_
      intro w66 x55 h230
      have h231 : Box w66.heap b5 78 [.slice Ab5_0_0 y15.length cb5_0_0, .slice A5 y2.Tables.length c_5, iv y2.Job.Dev, iv ib5_3_0, iv y2.Job.Table.Dev, iv y2.Job.Table.Size, .slice Ab5_6_0 lb5_6_0.length cb5_6_0, iv y2.Next] := h230
      have sx55 := x55.size
      refine pu 3 rfl (RW.sb tk h231 [.slice A19 y16.length c_19] ?_)
      intro w67 x56 h232
      have h233 : Box w67.heap b5 78 [.slice Ab5_0_0 y15.length cb5_0_0, .slice A19 y16.length c_19, iv y2.Job.Dev, iv ib5_3_0, iv y2.Job.Table.Dev, iv y2.Job.Table.Size, .slice Ab5_6_0 lb5_6_0.length cb5_6_0, iv y2.Next] := h232
      have sx56 := x56.size
      refine RW.done ?_
      have h234 := (((h221.ext x53).tL x54).tB x55 h229).tB x56 h231
      have h235 := (h228.tB x55 h229).tB x56 h231
      have h236 := ((h225.tL x54).tB x55 h229).tB x56 h231
      have h237 := (((((((((j30.ext x47).ext x48).ext x49).ext x50).ext x51).tL x52).ext x53).tL x54).tB x55 h229).tB x56 h231
      have h238 := ((Ext.turn ((Ext.turn ((((((x0_1.tr x46).tr x47).tr x48).tr x49).tr x50).tr x51) x52 ⟨by omega, trivial⟩).tr x53) x54 ⟨by omega, trivial⟩).tB x55).tB x56
      have h239 := (((((((((j34.ext x47).ext x48).ext x49).ext x50).ext x51).tL x52).ext x53).tL x54).tB x55).tB x56
      have h240 := (((((((((j35.ext x47).ext x48).ext x49).ext x50).ext x51).tL x52).ext x53).tL x54).tB x55).tB x56
      exact NW.J fun a ha => ⟨y15, Ab5_0_0, cb5_0_0, y16, A19, c_19, ha.sb, by omega, (h234.sb), (h235.sub ⟨(.inl ⟨by omega, trivial, rfl⟩), trivial⟩ ⟨(.inl ⟨by omega, trivial, rfl⟩), ⟨(.inl ⟨by omega, trivial, rfl⟩), trivial⟩⟩), h236, h237, h238, h233, h239, h240, H⟩
     ·refine RW.lb tk [.slice A5 y2.Tables.length c_5] h218 1 ?_
      refine RW.two ?_ ?_
      ·have h219 := (h214.ext x50).ext x51
       obtain ⟨y15, h220, H⟩ := bind_some H
       refine RW.callFM (cap := []) ent73 ⟨rfl, rfl, rfl, rfl⟩ rfl rfl rfl (slices_Delete_Device.calls (l := [(w5.heap.size, some w8.heap.size, some 40)]) (li := [(w5.heap.size, some w8.heap.size, some 105)]) Ab5_0_0 cb5_0_0 lb5_0_0 y13.1 (w64 (y13.1 + 1)) _ _ h219 h220) ?_
       rintro _ w62 ⟨rfl, x52, h221⟩
       refine ⟨_, rfl, ?_⟩
       have sx52 := x52.size
       have h222 := h218.tL x52
       refine RW.lb tk [iv y2.Job.Table.Dev, iv y2.Job.Table.Size, .slice Ab5_6_0 lb5_6_0.length cb5_6_0] h222 4 ?_
       refine RW.buildSlice (cs := [iv y2.Job.Table.Dev, iv y2.Job.Table.Size, .slice Ab5_6_0 lb5_6_0.length cb5_6_0]) tk (.inl rfl) ⟨rfl, rfl, rfl, rfl⟩ rfl rfl rfl rfl rfl rfl rfl ?_
       intro b13 w63 x53 l21 h223
       have sx53 := x53.size
       have ltb13 := h223.lt
       have h224 := (((h215.ext x50).ext x51).tL x52).ext x53
       have h225 := (((h216.ext x50).ext x51).tL x52).ext x53
       obtain ⟨y16, h226, H⟩ := bind_some H
       refine RW.callFM (cap := []) ent74 ⟨rfl, rfl, rfl, rfl⟩ rfl rfl rfl (slices_Insert_Table.calls (l := [(w5.heap.size, some w6.heap.size, some 26)]) (li := [(mid1, some w6.heap.size, some 66)]) (ly := [(w5.heap.size, some mid1, some 66), (w7.heap.size, some w8.heap.size, some 66)]) A5 c_5 y2.Tables y14.1 (⟨y2.Job.Table.Dev, y2.Job.Table.Size, lb5_6_0⟩ : Table) _ _ _ _ h224 h223 (kTableO_mk (⟨y2.Job.Table.Dev, y2.Job.Table.Size, lb5_6_0⟩ : Table) (h225.sub (l' := [(w5.heap.size, some mid1, some 66), (w7.heap.size, some w8.heap.size, some 66)]) (li' := [(w5.heap.size, some mid1, some 66), (w7.heap.size, some w8.heap.size, some 66)]) ⟨(.inl ⟨by omega, by omega, rfl⟩), ⟨(.inr (.inl ⟨by omega, by omega, rfl⟩)), trivial⟩⟩ trivial)) ⟨⟨.inl (nq rfl), trivial⟩, ⟨⟨.inl (nq rfl), trivial⟩, trivial⟩⟩ ⟨.inr (by omega), trivial⟩ h226) ?_
       rintro _ w65 ⟨A19, c_19, rfl, x54, h227⟩
       refine ⟨_, rfl, ?_⟩
       have sx54 := x54.size
       have h228 := h227.close.sub (l' := [(w5.heap.size, some w65.heap.size, some 26)]) (li' := [(mid1, some w8.heap.size, some 66), (w5.heap.size, some mid1, some 66)]) ⟨(.inl ⟨by omega, by omega, rfl⟩), ⟨(.inl ⟨by omega, by omega, rfl⟩), trivial⟩⟩ ⟨(.inl ⟨by omega, by omega, rfl⟩), ⟨(.inr (.inl ⟨by omega, by omega, rfl⟩)), ⟨(.inl ⟨by omega, by omega, rfl⟩), trivial⟩⟩⟩
       refine pu 3 rfl ?_
       have h229 := (h222.ext x53).tL x54
       refine RW.sb tk h229 [.slice Ab5_0_0 y15.length cb5_0_0] ?_
       intro w66 x55 h230
       have h231 : Box w66.heap b5 78 [.slice Ab5_0_0 y15.length cb5_0_0, .slice A5 y2.Tables.length c_5, iv y2.Job.Dev, iv ib5_3_0, iv y2.Job.Table.Dev, iv y2.Job.Table.Size, .slice Ab5_6_0 lb5_6_0.length cb5_6_0, iv y2.Next] := h230
       have sx55 := x55.size
       refine pu 3 rfl (RW.sb tk h231 [.slice A19 y16.length c_19] ?_)
       intro w67 x56 h232
       have h233 : Box w67.heap b5 78 [.slice Ab5_0_0 y15.length cb5_0_0, .slice A19 y16.length c_19, iv y2.Job.Dev, iv ib5_3_0, iv y2.Job.Table.Dev, iv y2.Job.Table.Size, .slice Ab5_6_0 lb5_6_0.length cb5_6_0, iv y2.Next] := h232
       have sx56 := x56.size
       refine RW.done ?_
       have h234 := (((h221.ext x53).tL x54).tB x55 h229).tB x56 h231
       have h235 := (h228.tB x55 h229).tB x56 h231
       have h236 := ((h225.tL x54).tB x55 h229).tB x56 h231
       have h237 := (((((((((j30.ext x47).ext x48).ext x49).ext x50).ext x51).tL x52).ext x53).tL x54).tB x55 h229).tB x56 h231
       have h238 := ((Ext.turn ((Ext.turn ((((((x0_1.tr x46).tr x47).tr x48).tr x49).tr x50).tr x51) x52 ⟨by omega, trivial⟩).tr x53) x54 ⟨by omega, trivial⟩).tB x55).tB x56
       have h239 := (((((((((j34.ext x47).ext x48).ext x49).ext x50).ext x51).tL x52).ext x53).tL x54).tB x55).tB x56
       have h240 := (((((((((j35.ext x47).ext x48).ext x49).ext x50).ext x51).tL x52).ext x53).tL x54).tB x55).tB x56
       exact NW.J fun a ha => ⟨y15, Ab5_0_0, cb5_0_0, y16, A19, c_19, ha.sb, by omega, (h234.sb), (h235.sub ⟨(.inl ⟨by omega, trivial, rfl⟩), trivial⟩ ⟨(.inl ⟨by omega, trivial, rfl⟩), ⟨(.inl ⟨by omega, trivial, rfl⟩), trivial⟩⟩), h236, h237, h238, h233, h239, h240, H⟩
      refine RW.lb tk [iv y2.Job.Table.Dev, iv y2.Job.Table.Size, .slice Ab5_6_0 lb5_6_0.length cb5_6_0] h218 4 ?_
      refine RW.two ?_ ?_
      ·have h219 := (h214.ext x50).ext x51
       obtain ⟨y15, h220, H⟩ := bind_some H
       refine RW.callFM (cap := []) ent73 ⟨rfl, rfl, rfl, rfl⟩ rfl rfl rfl (slices_Delete_Device.calls (l := [(w5.heap.size, some w8.heap.size, some 40)]) (li := [(w5.heap.size, some w8.heap.size, some 105)]) Ab5_0_0 cb5_0_0 lb5_0_0 y13.1 (w64 (y13.1 + 1)) _ _ h219 h220) ?_
       rintro _ w62 ⟨rfl, x52, h221⟩
       refine ⟨_, rfl, ?_⟩
       have sx52 := x52.size
       refine RW.buildSlice (cs := [iv y2.Job.Table.Dev, iv y2.Job.Table.Size, .slice Ab5_6_0 lb5_6_0.length cb5_6_0]) tk (.inl rfl) ⟨rfl, rfl, rfl, rfl⟩ rfl rfl rfl rfl rfl rfl rfl ?_
       intro b13 w63 x53 l21 h222
       have sx53 := x53.size
       have ltb13 := h222.lt
       have h223 := (((h215.ext x50).ext x51).tL x52).ext x53
       have h224 := (((h216.ext x50).ext x51).tL x52).ext x53
       obtain ⟨y16, h225, H⟩ := bind_some H
       refine RW.callFM (cap := []) ent74 ⟨rfl, rfl, rfl, rfl⟩ rfl rfl rfl (slices_Insert_Table.calls (l := [(w5.heap.size, some w6.heap.size, some 26)]) (li := [(mid1, some w6.heap.size, some 66)]) (ly := [(w5.heap.size, some mid1, some 66), (w7.heap.size, some w8.heap.size, some 66)]) A5 c_5 y2.Tables y14.1 (⟨y2.Job.Table.Dev, y2.Job.Table.Size, lb5_6_0⟩ : Table) _ _ _ _ h223 h222 (kTableO_mk (⟨y2.Job.Table.Dev, y2.Job.Table.Size, lb5_6_0⟩ : Table) (h224.sub (l' := [(w5.heap.size, some mid1, some 66), (w7.heap.size, some w8.heap.size, some 66)]) (li' := [(w5.heap.size, some mid1, some 66), (w7.heap.size, some w8.heap.size, some 66)]) ⟨(.inl ⟨by omega, by omega, rfl⟩), ⟨(.inr (.inl ⟨by omega, by omega, rfl⟩)), trivial⟩⟩ trivial)) ⟨⟨.inl (nq rfl), trivial⟩, ⟨⟨.inl (nq rfl), trivial⟩, trivial⟩⟩ ⟨.inr (by omega), trivial⟩ h225) ?_
       rintro _ w65 ⟨A19, c_19, rfl, x54, h226⟩
       refine ⟨_, rfl, ?_⟩
       have sx54 := x54.size
       have h227 := h226.close.sub (l' := [(w5.heap.size, some w65.heap.size, some 26)]) (li' := [(mid1, some w8.heap.size, some 66), (w5.heap.size, some mid1, some 66)]) ⟨(.inl ⟨by omega, by omega, rfl⟩), ⟨(.inl ⟨by omega, by omega, rfl⟩), trivial⟩⟩ ⟨(.inl ⟨by omega, by omega, rfl⟩), ⟨(.inr (.inl ⟨by omega, by omega, rfl⟩)), ⟨(.inl ⟨by omega, by omega, rfl⟩), trivial⟩⟩⟩
       refine pu 3 rfl ?_
       have h228 := ((h218.tL x52).ext x53).tL x54
       refine RW.sb tk h228 [.slice Ab5_0_0 y15.length cb5_0_0] ?_
       intro w66 x55 h229
       have h230 : Box w66.heap b5 78 [.slice Ab5_0_0 y15.length cb5_0_0, .slice A5 y2.Tables.length c_5, iv y2.Job.Dev, iv ib5_3_0, iv y2.Job.Table.Dev, iv y2.Job.Table.Size, .slice Ab5_6_0 lb5_6_0.length cb5_6_0, iv y2.Next] := h229
       have sx55 := x55.size
       refine pu 3 rfl (RW.sb tk h230 [.slice A19 y16.length c_19] ?_)
       intro w67 x56 h231
       have h232 : Box w67.heap b5 78 [.slice Ab5_0_0 y15.length cb5_0_0, .slice A19 y16.length c_19, iv y2.Job.Dev, iv ib5_3_0, iv y2.Job.Table.Dev, iv y2.Job.Table.Size, .slice Ab5_6_0 lb5_6_0.length cb5_6_0, iv y2.Next] := h231
       have sx56 := x56.size
       refine RW.done ?_
       have h233 := (((h221.ext x53).tL x54).tB x55 h228).tB x56 h230
       have h234 := (h227.tB x55 h228).tB x56 h230
       have h235 := ((h224.tL x54).tB x55 h228).tB x56 h230
       have h236 := (((((((((j30.ext x47).ext x48).ext x49).ext x50).ext x51).tL x52).ext x53).tL x54).tB x55 h228).tB x56 h230
       have h237 := ((Ext.turn ((Ext.turn ((((((x0_1.tr x46).tr x47).tr x48).tr x49).tr x50).tr x51) x52 ⟨by omega, trivial⟩).tr x53) x54 ⟨by omega, trivial⟩).tB x55).tB x56
       have h238 := (((((((((j34.ext x47).ext x48).ext x49).ext x50).ext x51).tL x52).ext x53).tL x54).tB x55).tB x56
       have h239 := (((((((((j35.ext x47).ext x48).ext x49).ext x50).ext x51).tL x52).ext x53).tL x54).tB x55).tB x56
       exact NW.J fun a ha => ⟨y15, Ab5_0_0, cb5_0_0, y16, A19, c_19, ha.sb, by omega, (h233.sb), (h234.sub ⟨(.inl ⟨by omega, trivial, rfl⟩), trivial⟩ ⟨(.inl ⟨by omega, trivial, rfl⟩), ⟨(.inl ⟨by omega, trivial, rfl⟩), trivial⟩⟩), h235, h236, h237, h232, h238, h239, H⟩
      refine RW.buildSlice (cs := [iv y2.Job.Table.Dev, iv y2.Job.Table.Size, .slice Ab5_6_0 lb5_6_0.length cb5_6_0]) tk (.inl rfl) ⟨rfl, rfl, rfl, rfl⟩ rfl rfl rfl rfl rfl rfl rfl ?_
      intro b13 w62 x52 l21 h219
      have sx52 := x52.size
      have ltb13 := h219.lt
      have h220 := ((h214.ext x50).ext x51).ext x52
      obtain ⟨y15, h221, H⟩ := bind_some H
      refine RW.callFM (cap := []) ent73 ⟨rfl, rfl, rfl, rfl⟩ rfl rfl rfl (slices_Delete_Device.calls (l := [(w5.heap.size, some w8.heap.size, some 40)]) (li := [(w5.heap.size, some w8.heap.size, some 105)]) Ab5_0_0 cb5_0_0 lb5_0_0 y13.1 (w64 (y13.1 + 1)) _ _ h220 h221) ?_
      rintro _ w63 ⟨rfl, x53, h222⟩
      refine ⟨_, rfl, ?_⟩
      have sx53 := x53.size
      have h223 := (((h215.ext x50).ext x51).ext x52).tL x53
      have h224 := (((h216.ext x50).ext x51).ext x52).tL x53
      have h225 := h219.tL x53
      obtain ⟨y16, h226, H⟩ := bind_some H
      refine RW.callFM (cap := []) ent74 ⟨rfl, rfl, rfl, rfl⟩ rfl rfl rfl (slices_Insert_Table.calls (l := [(w5.heap.size, some w6.heap.size, some 26)]) (li := [(mid1, some w6.heap.size, some 66)]) (ly := [(w5.heap.size, some mid1, some 66), (w7.heap.size, some w8.heap.size, some 66)]) A5 c_5 y2.Tables y14.1 (⟨y2.Job.Table.Dev, y2.Job.Table.Size, lb5_6_0⟩ : Table) _ _ _ _ h223 h225 (kTableO_mk (⟨y2.Job.Table.Dev, y2.Job.Table.Size, lb5_6_0⟩ : Table) (h224.sub (l' := [(w5.heap.size, some mid1, some 66), (w7.heap.size, some w8.heap.size, some 66)]) (li' := [(w5.heap.size, some mid1, some 66), (w7.heap.size, some w8.heap.size, some 66)]) ⟨(.inl ⟨by omega, by omega, rfl⟩), ⟨(.inr (.inl ⟨by omega, by omega, rfl⟩)), trivial⟩⟩ trivial)) ⟨⟨.inl (nq rfl), trivial⟩, ⟨⟨.inl (nq rfl), trivial⟩, trivial⟩⟩ ⟨.inr (by omega), trivial⟩ h226) ?_
      rintro _ w65 ⟨A19, c_19, rfl, x54, h227⟩
      refine ⟨_, rfl, ?_⟩
      have sx54 := x54.size
      have h228 := h227.close.sub (l' := [(w5.heap.size, some w65.heap.size, some 26)]) (li' := [(mid1, some w8.heap.size, some 66), (w5.heap.size, some mid1, some 66)]) ⟨(.inl ⟨by omega, by omega, rfl⟩), ⟨(.inl ⟨by omega, by omega, rfl⟩), trivial⟩⟩ ⟨(.inl ⟨by omega, by omega, rfl⟩), ⟨(.inr (.inl ⟨by omega, by omega, rfl⟩)), ⟨(.inl ⟨by omega, by omega, rfl⟩), trivial⟩⟩⟩
      refine pu 3 rfl ?_
      have h229 := ((h218.ext x52).tL x53).tL x54
      refine RW.sb tk h229 [.slice Ab5_0_0 y15.length cb5_0_0] ?_
      intro w66 x55 h230
      have h231 : Box w66.heap b5 78 [.slice Ab5_0_0 y15.length cb5_0_0, .slice A5 y2.Tables.length c_5, iv y2.Job.Dev, iv ib5_3_0, iv y2.Job.Table.Dev, iv y2.Job.Table.Size, .slice Ab5_6_0 lb5_6_0.length cb5_6_0, iv y2.Next] := h230
      have sx55 := x55.size
      refine pu 3 rfl (RW.sb tk h231 [.slice A19 y16.length c_19] ?_)
      intro w67 x56 h232
      have h233 : Box w67.heap b5 78 [.slice Ab5_0_0 y15.length cb5_0_0, .slice A19 y16.length c_19, iv y2.Job.Dev, iv ib5_3_0, iv y2.Job.Table.Dev, iv y2.Job.Table.Size, .slice Ab5_6_0 lb5_6_0.length cb5_6_0, iv y2.Next] := h232
      have sx56 := x56.size
      refine RW.done ?_
      have h234 := ((h222.tL x54).tB x55 h229).tB x56 h231
      have h235 := (h228.tB x55 h229).tB x56 h231
      have h236 := ((h224.tL x54).tB x55 h229).tB x56 h231
      have h237 := (((((((((j30.ext x47).ext x48).ext x49).ext x50).ext x51).ext x52).tL x53).tL x54).tB x55 h229).tB x56 h231
      have h238 := ((Ext.turn (Ext.turn (((((((x0_1.tr x46).tr x47).tr x48).tr x49).tr x50).tr x51).tr x52) x53 ⟨by omega, trivial⟩) x54 ⟨by omega, trivial⟩).tB x55).tB x56
      have h239 := (((((((((j34.ext x47).ext x48).ext x49).ext x50).ext x51).ext x52).tL x53).tL x54).tB x55).tB x56
      have h240 := (((((((((j35.ext x47).ext x48).ext x49).ext x50).ext x51).ext x52).tL x53).tL x54).tB x55).tB x56
      exact NW.J fun a ha => ⟨y15, Ab5_0_0, cb5_0_0, y16, A19, c_19, ha.sb, by omega, (h234.sb), (h235.sub ⟨(.inl ⟨by omega, trivial, rfl⟩), trivial⟩ ⟨(.inl ⟨by omega, trivial, rfl⟩), ⟨(.inl ⟨by omega, trivial, rfl⟩), trivial⟩⟩), h236, h237, h238, h233, h239, h240, H⟩
     refine RW.lb tk [iv y2.Job.Table.Dev, iv y2.Job.Table.Size, .slice Ab5_6_0 lb5_6_0.length cb5_6_0] h218 4 ?_
     refine RW.three ?_ ?_ ?_
     ·have h219 := (h214.ext x50).ext x51
      obtain ⟨y15, h220, H⟩ := bind_some H
      refine RW.callFM (cap := []) ent73 ⟨rfl, rfl, rfl, rfl⟩ rfl rfl rfl (slices_Delete_Device.calls (l := [(w5.heap.size, some w8.heap.size, some 40)]) (li := [(w5.heap.size, some w8.heap.size, some 105)]) Ab5_0_0 cb5_0_0 lb5_0_0 y13.1 (w64 (y13.1 + 1)) _ _ h219 h220) ?_
      rintro _ w62 ⟨rfl, x52, h221⟩
      refine ⟨_, rfl, ?_⟩
      have sx52 := x52.size
      have h222 := h218.tL x52
      refine RW.lb tk [.slice A5 y2.Tables.length c_5] h222 1 ?_
      refine RW.buildSlice (cs := [iv y2.Job.Table.Dev, iv y2.Job.Table.Size, .slice Ab5_6_0 lb5_6_0.length cb5_6_0]) tk (.inl rfl) ⟨rfl, rfl, rfl, rfl⟩ rfl rfl rfl rfl rfl rfl rfl ?_
      intro b13 w63 x53 l21 h223
      have sx53 := x53.size
      have ltb13 := h223.lt
      have h224 := (((h215.ext x50).ext x51).tL x52).ext x53
      have h225 := (((h216.ext x50).ext x51).tL x52).ext x53
      obtain ⟨y16, h226, H⟩ := bind_some H
      refine RW.callFM (cap := []) ent74 ⟨rfl, rfl, rfl, rfl⟩ rfl rfl rfl (slices_Insert_Table.calls (l := [(w5.heap.size, some w6.heap.size, some 26)]) (li := [(mid1, some w6.heap.size, some 66)]) (ly := [(w5.heap.size, some mid1, some 66), (w7.heap.size, some w8.heap.size, some 66)]) A5 c_5 y2.Tables y14.1 (⟨y2.Job.Table.Dev, y2.Job.Table.Size, lb5_6_0⟩ : Table) _ _ _ _ h224 h223 (kTableO_mk (⟨y2.Job.Table.Dev, y2.Job.Table.Size, lb5_6_0⟩ : Table) (h225.sub (l' := [(w5.heap.size, some mid1, some 66), (w7.heap.size, some w8.heap.size, some 66)]) (li' := [(w5.heap.size, some mid1, some 66), (w7.heap.size, some w8.heap.size, some 66)]) ⟨(.inl ⟨by omega, by omega, rfl⟩), ⟨(.inr (.inl ⟨by omega, by omega, rfl⟩)), trivial⟩⟩ trivial)) ⟨⟨.inl (nq rfl), trivial⟩, ⟨⟨.inl (nq rfl), trivial⟩, trivial⟩⟩ ⟨.inr (by omega), trivial⟩ h226) ?_
      rintro _ w65 ⟨A19, c_19, rfl, x54, h227⟩
      refine ⟨_, rfl, ?_⟩
      have sx54 := x54.size
      have h228 := h227.close.sub (l' := [(w5.heap.size, some w65.heap.size, some 26)]) (li' := [(mid1, some w8.heap.size, some 66), (w5.heap.size, some mid1, some 66)]) ⟨(.inl ⟨by omega, by omega, rfl⟩), ⟨(.inl ⟨by omega, by omega, rfl⟩), trivial⟩⟩ ⟨(.inl ⟨by omega, by omega, rfl⟩), ⟨(.inr (.inl ⟨by omega, by omega, rfl⟩)), ⟨(.inl ⟨by omega, by omega, rfl⟩), trivial⟩⟩⟩
      refine pu 3 rfl ?_
      have h229 := (h222.ext x53).tL x54
      refine RW.sb tk h229 [.slice Ab5_0_0 y15.length cb5_0_0] ?_
      intro w66 x55 h230
      have h231 : Box w66.heap b5 78 [.slice Ab5_0_0 y15.length cb5_0_0, .slice A5 y2.Tables.length c_5, iv y2.Job.Dev, iv ib5_3_0, iv y2.Job.Table.Dev, iv y2.Job.Table.Size, .slice Ab5_6_0 lb5_6_0.length cb5_6_0, iv y2.Next] := h230
      have sx55 := x55.size
      refine pu 3 rfl (RW.sb tk h231 [.slice A19 y16.length c_19] ?_)
      intro w67 x56 h232
      have h233 : Box w67.heap b5 78 [.slice Ab5_0_0 y15.length cb5_0_0, .slice A19 y16.length c_19, iv y2.Job.Dev, iv ib5_3_0, iv y2.Job.Table.Dev, iv y2.Job.Table.Size, .slice Ab5_6_0 lb5_6_0.length cb5_6_0, iv y2.Next] := h232
      have sx56 := x56.size
      refine RW.done ?_
      have h234 := (((h221.ext x53).tL x54).tB x55 h229).tB x56 h231
      have h235 := (h228.tB x55 h229).tB x56 h231
      have h236 := ((h225.tL x54).tB x55 h229).tB x56 h231
      have h237 := (((((((((j30.ext x47).ext x48).ext x49).ext x50).ext x51).tL x52).ext x53).tL x54).tB x55 h229).tB x56 h231
      have h238 := ((Ext.turn ((Ext.turn ((((((x0_1.tr x46).tr x47).tr x48).tr x49).tr x50).tr x51) x52 ⟨by omega, trivial⟩).tr x53) x54 ⟨by omega, trivial⟩).tB x55).tB x56
      have h239 := (((((((((j34.ext x47).ext x48).ext x49).ext x50).ext x51).tL x52).ext x53).tL x54).tB x55).tB x56
      have h240 := (((((((((j35.ext x47).ext x48).ext x49).ext x50).ext x51).tL x52).ext x53).tL x54).tB x55).tB x56
      exact NW.J fun a ha => ⟨y15, Ab5_0_0, cb5_0_0, y16, A19, c_19, ha.sb, by omega, (h234.sb), (h235.sub ⟨(.inl ⟨by omega, trivial, rfl⟩), trivial⟩ ⟨(.inl ⟨by omega, trivial, rfl⟩), ⟨(.inl ⟨by omega, trivial, rfl⟩), trivial⟩⟩), h236, h237, h238, h233, h239, h240, H⟩
     ·refine RW.lb tk [.slice A5 y2.Tables.length c_5] h218 1 ?_
      refine RW.two ?_ ?_
      ·have h219 := (h214.ext x50).ext x51
       obtain ⟨y15, h220, H⟩ := bind_some H
       refine RW.callFM (cap := []) ent73 ⟨rfl, rfl, rfl, rfl⟩ rfl rfl rfl (slices_Delete_Device.calls (l := [(w5.heap.size, some w8.heap.size, some 40)]) (li := [(w5.heap.size, some w8.heap.size, some 105)]) Ab5_0_0 cb5_0_0 lb5_0_0 y13.1 (w64 (y13.1 + 1)) _ _ h219 h220) ?_
       rintro _ w62 ⟨rfl, x52, h221⟩
       refine ⟨_, rfl, ?_⟩
       have sx52 := x52.size
       refine RW.buildSlice (cs := [iv y2.Job.Table.Dev, iv y2.Job.Table.Size, .slice Ab5_6_0 lb5_6_0.length cb5_6_0]) tk (.inl rfl) ⟨rfl, rfl, rfl, rfl⟩ rfl rfl rfl rfl rfl rfl rfl ?_
       intro b13 w63 x53 l21 h222
       have sx53 := x53.size
       have ltb13 := h222.lt
       have h223 := (((h215.ext x50).ext x51).tL x52).ext x53
       have h224 := (((h216.ext x50).ext x51).tL x52).ext x53
       obtain ⟨y16, h225, H⟩ := bind_some H
       refine RW.callFM (cap := []) ent74 ⟨rfl, rfl, rfl, rfl⟩ rfl rfl rfl (slices_Insert_Table.calls (l := [(w5.heap.size, some w6.heap.size, some 26)]) (li := [(mid1, some w6.heap.size, some 66)]) (ly := [(w5.heap.size, some mid1, some 66), (w7.heap.size, some w8.heap.size, some 66)]) A5 c_5 y2.Tables y14.1 (⟨y2.Job.Table.Dev, y2.Job.Table.Size, lb5_6_0⟩ : Table) _ _ _ _ h223 h222 (kTableO_mk (⟨y2.Job.Table.Dev, y2.Job.Table.Size, lb5_6_0⟩ : Table) (h224.sub (l' := [(w5.heap.size, some mid1, some 66), (w7.heap.size, some w8.heap.size, some 66)]) (li' := [(w5.heap.size, some mid1, some 66), (w7.heap.size, some w8.heap.size, some 66)]) ⟨(.inl ⟨by omega, by omega, rfl⟩), ⟨(.inr (.inl ⟨by omega, by omega, rfl⟩)), trivial⟩⟩ trivial)) ⟨⟨.inl (nq rfl), trivial⟩, ⟨⟨.inl (nq rfl), trivial⟩, trivial⟩⟩ ⟨.inr (by omega), trivial⟩ h225) ?_
       rintro _ w65 ⟨A19, c_19, rfl, x54, h226⟩
       refine ⟨_, rfl, ?_⟩
       have sx54 := x54.size
       have h227 := h226.close.sub (l' := [(w5.heap.size, some w65.heap.size, some 26)]) (li' := [(mid1, some w8.heap.size, some 66), (w5.heap.size, some mid1, some 66)]) ⟨(.inl ⟨by omega, by omega, rfl⟩), ⟨(.inl ⟨by omega, by omega, rfl⟩), trivial⟩⟩ ⟨(.inl ⟨by omega, by omega, rfl⟩), ⟨(.inr (.inl ⟨by omega, by omega, rfl⟩)), ⟨(.inl ⟨by omega, by omega, rfl⟩), trivial⟩⟩⟩
       refine pu 3 rfl ?_
       have h228 := ((h218.tL x52).ext x53).tL x54
       refine RW.sb tk h228 [.slice Ab5_0_0 y15.length cb5_0_0] ?_
       intro w66 x55 h229
       have h230 : Box w66.heap b5 78 [.slice Ab5_0_0 y15.length cb5_0_0, .slice A5 y2.Tables.length c_5, iv y2.Job.Dev, iv ib5_3_0, iv y2.Job.Table.Dev, iv y2.Job.Table.Size, .slice Ab5_6_0 lb5_6_0.length cb5_6_0, iv y2.Next] := h229
       have sx55 := x55.size
       refine pu 3 rfl (RW.sb tk h230 [.slice A19 y16.length c_19] ?_)
       intro w67 x56 h231
       have h232 : Box w67.heap b5 78 [.slice Ab5_0_0 y15.length cb5_0_0, .slice A19 y16.length c_19, iv y2.Job.Dev, iv ib5_3_0, iv y2.Job.Table.Dev, iv y2.Job.Table.Size, .slice Ab5_6_0 lb5_6_0.length cb5_6_0, iv y2.Next] := h231
       have sx56 := x56.size
       refine RW.done ?_
       have h233 := (((h221.ext x53).tL x54).tB x55 h228).tB x56 h230
       have h234 := (h227.tB x55 h228).tB x56 h230
       have h235 := ((h224.tL x54).tB x55 h228).tB x56 h230
       have h236 := (((((((((j30.ext x47).ext x48).ext x49).ext x50).ext x51).tL x52).ext x53).tL x54).tB x55 h228).tB x56 h230
       have h237 := ((Ext.turn ((Ext.turn ((((((x0_1.tr x46).tr x47).tr x48).tr x49).tr x50).tr x51) x52 ⟨by omega, trivial⟩).tr x53) x54 ⟨by omega, trivial⟩).tB x55).tB x56
       have h238 := (((((((((j34.ext x47).ext x48).ext x49).ext x50).ext x51).tL x52).ext x53).tL x54).tB x55).tB x56
       have h239 := (((((((((j35.ext x47).ext x48).ext x49).ext x50).ext x51).tL x52).ext x53).tL x54).tB x55).tB x56
       exact NW.J fun a ha => ⟨y15, Ab5_0_0, cb5_0_0, y16, A19, c_19, ha.sb, by omega, (h233.sb), (h234.sub ⟨(.inl ⟨by omega, trivial, rfl⟩), trivial⟩ ⟨(.inl ⟨by omega, trivial, rfl⟩), ⟨(.inl ⟨by omega, trivial, rfl⟩), trivial⟩⟩), h235, h236, h237, h232, h238, h239, H⟩
      refine RW.buildSlice (cs := [iv y2.Job.Table.Dev, iv y2.Job.Table.Size, .slice Ab5_6_0 lb5_6_0.length cb5_6_0]) tk (.inl rfl) ⟨rfl, rfl, rfl, rfl⟩ rfl rfl rfl rfl rfl rfl rfl ?_
      intro b13 w62 x52 l21 h219
      have sx52 := x52.size
      have ltb13 := h219.lt
      have h220 := ((h214.ext x50).ext x51).ext x52
      obtain ⟨y15, h221, H⟩ := bind_some H
      refine RW.callFM (cap := []) ent73 ⟨rfl, rfl, rfl, rfl⟩ rfl rfl rfl (slices_Delete_Device.calls (l := [(w5.heap.size, some w8.heap.size, some 40)]) (li := [(w5.heap.size, some w8.heap.size, some 105)]) Ab5_0_0 cb5_0_0 lb5_0_0 y13.1 (w64 (y13.1 + 1)) _ _ h220 h221) ?_
      rintro _ w63 ⟨rfl, x53, h222⟩
      refine ⟨_, rfl, ?_⟩
      have sx53 := x53.size
      have h223 := (((h215.ext x50).ext x51).ext x52).tL x53
      have h224 := (((h216.ext x50).ext x51).ext x52).tL x53
      have h225 := h219.tL x53
      obtain ⟨y16, h226, H⟩ := bind_some H
      refine RW.callFM (cap := []) ent74 ⟨rfl, rfl, rfl, rfl⟩ rfl rfl rfl (slices_Insert_Table.calls (l := [(w5.heap.size, some w6.heap.size, some 26)]) (li := [(mid1, some w6.heap.size, some 66)]) (ly := [(w5.heap.size, some mid1, some 66), (w7.heap.size, some w8.heap.size, some 66)]) A5 c_5 y2.Tables y14.1 (⟨y2.Job.Table.Dev, y2.Job.Table.Size, lb5_6_0⟩ : Table) _ _ _ _ h223 h225 (kTableO_mk (⟨y2.Job.Table.Dev, y2.Job.Table.Size, lb5_6_0⟩ : Table) (h224.sub (l' := [(w5.heap.size, some mid1, some 66), (w7.heap.size, some w8.heap.size, some 66)]) (li' := [(w5.heap.size, some mid1, some 66), (w7.heap.size, some w8.heap.size, some 66)]) ⟨(.inl ⟨by omega, by omega, rfl⟩), ⟨(.inr (.inl ⟨by omega, by omega, rfl⟩)), trivial⟩⟩ trivial)) ⟨⟨.inl (nq rfl), trivial⟩, ⟨⟨.inl (nq rfl), trivial⟩, trivial⟩⟩ ⟨.inr (by omega), trivial⟩ h226) ?_
      rintro _ w65 ⟨A19, c_19, rfl, x54, h227⟩
      refine ⟨_, rfl, ?_⟩
      have sx54 := x54.size
      have h228 := h227.close.sub (l' := [(w5.heap.size, some w65.heap.size, some 26)]) (li' := [(mid1, some w8.heap.size, some 66), (w5.heap.size, some mid1, some 66)]) ⟨(.inl ⟨by omega, by omega, rfl⟩), ⟨(.inl ⟨by omega, by omega, rfl⟩), trivial⟩⟩ ⟨(.inl ⟨by omega, by omega, rfl⟩), ⟨(.inr (.inl ⟨by omega, by omega, rfl⟩)), ⟨(.inl ⟨by omega, by omega, rfl⟩), trivial⟩⟩⟩
      refine pu 3 rfl ?_
      have h229 := ((h218.ext x52).tL x53).tL x54
      refine RW.sb tk h229 [.slice Ab5_0_0 y15.length cb5_0_0] ?_
      intro w66 x55 h230
      have h231 : Box w66.heap b5 78 [.slice Ab5_0_0 y15.length cb5_0_0, .slice A5 y2.Tables.length c_5, iv y2.Job.Dev, iv ib5_3_0, iv y2.Job.Table.Dev, iv y2.Job.Table.Size, .slice Ab5_6_0 lb5_6_0.length cb5_6_0, iv y2.Next] := h230
      have sx55 := x55.size
      refine pu 3 rfl (RW.sb tk h231 [.slice A19 y16.length c_19] ?_)
      intro w67 x56 h232
      have h233 : Box w67.heap b5 78 [.slice Ab5_0_0 y15.length cb5_0_0, .slice A19 y16.length c_19, iv y2.Job.Dev, iv ib5_3_0, iv y2.Job.Table.Dev, iv y2.Job.Table.Size, .slice Ab5_6_0 lb5_6_0.length cb5_6_0, iv y2.Next] := h232
      have sx56 := x56.size
      refine RW.done ?_
      have h234 := ((h222.tL x54).tB x55 h229).tB x56 h231
      have h235 := (h228.tB x55 h229).tB x56 h231
      have h236 := ((h224.tL x54).tB x55 h229).tB x56 h231
      have h237 := (((((((((j30.ext x47).ext x48).ext x49).ext x50).ext x51).ext x52).tL x53).tL x54).tB x55 h229).tB x56 h231
      have h238 := ((Ext.turn (Ext.turn (((((((x0_1.tr x46).tr x47).tr x48).tr x49).tr x50).tr x51).tr x52) x53 ⟨by omega, trivial⟩) x54 ⟨by omega, trivial⟩).tB x55).tB x56
      have h239 := (((((((((j34.ext x47).ext x48).ext x49).ext x50).ext x51).ext x52).tL x53).tL x54).tB x55).tB x56
      have h240 := (((((((((j35.ext x47).ext x48).ext x49).ext x50).ext x51).ext x52).tL x53).tL x54).tB x55).tB x56
      exact NW.J fun a ha => ⟨y15, Ab5_0_0, cb5_0_0, y16, A19, c_19, ha.sb, by omega, (h234.sb), (h235.sub ⟨(.inl ⟨by omega, trivial, rfl⟩), trivial⟩ ⟨(.inl ⟨by omega, trivial, rfl⟩), ⟨(.inl ⟨by omega, trivial, rfl⟩), trivial⟩⟩), h236, h237, h238, h233, h239, h240, H⟩
     refine RW.buildSlice (cs := [iv y2.Job.Table.Dev, iv y2.Job.Table.Size, .slice Ab5_6_0 lb5_6_0.length cb5_6_0]) tk (.inl rfl) ⟨rfl, rfl, rfl, rfl⟩ rfl rfl rfl rfl rfl rfl rfl ?_
     intro b13 w62 x52 l21 h219
     have sx52 := x52.size
     have ltb13 := h219.lt
     refine RW.two ?_ ?_
     ·have h220 := ((h214.ext x50).ext x51).ext x52
      obtain ⟨y15, h221, H⟩ := bind_some H
      refine RW.callFM (cap := []) ent73 ⟨rfl, rfl, rfl, rfl⟩ rfl rfl rfl (slices_Delete_Device.calls (l := [(w5.heap.size, some w8.heap.size, some 40)]) (li := [(w5.heap.size, some w8.heap.size, some 105)]) Ab5_0_0 cb5_0_0 lb5_0_0 y13.1 (w64 (y13.1 + 1)) _ _ h220 h221) ?_
      rintro _ w63 ⟨rfl, x53, h222⟩
      refine ⟨_, rfl, ?_⟩
      have sx53 := x53.size
      have h223 := (h218.ext x52).tL x53
      refine RW.lb tk [.slice A5 y2.Tables.length c_5] h223 1 ?_
      have h224 := (((h215.ext x50).ext x51).ext x52).tL x53
      have h225 := (((h216.ext x50).ext x51).ext x52).tL x53
      have h226 := h219.tL x53
      obtain ⟨y16, h227, H⟩ := bind_some H
      refine RW.callFM (cap := []) ent74 ⟨rfl, rfl, rfl, rfl⟩ rfl rfl rfl (slices_Insert_Table.calls (l := [(w5.heap.size, some w6.heap.size, some 26)]) (li := [(mid1, some w6.heap.size, some 66)]) (ly := [(w5.heap.size, some mid1, some 66), (w7.heap.size, some w8.heap.size, some 66)]) A5 c_5 y2.Tables y14.1 (⟨y2.Job.Table.Dev, y2.Job.Table.Size, lb5_6_0⟩ : Table) _ _ _ _ h224 h226 (kTableO_mk (⟨y2.Job.Table.Dev, y2.Job.Table.Size, lb5_6_0⟩ : Table) (h225.sub (l' := [(w5.heap.size, some mid1, some 66), (w7.heap.size, some w8.heap.size, some 66)]) (li' := [(w5.heap.size, some mid1, some 66), (w7.heap.size, some w8.heap.size, some 66)]) ⟨(.inl ⟨by omega, by omega, rfl⟩), ⟨(.inr (.inl ⟨by omega, by omega, rfl⟩)), trivial⟩⟩ trivial)) ⟨⟨.inl (nq rfl), trivial⟩, ⟨⟨.inl (nq rfl), trivial⟩, trivial⟩⟩ ⟨.inr (by omega), trivial⟩ h227) ?_
      rintro _ w65 ⟨A19, c_19, rfl, x54, h228⟩
      refine ⟨_, rfl, ?_⟩
      have sx54 := x54.size
      have h229 := h228.close.sub (l' := [(w5.heap.size, some w65.heap.size, some 26)]) (li' := [(mid1, some w8.heap.size, some 66), (w5.heap.size, some mid1, some 66)]) ⟨(.inl ⟨by omega, by omega, rfl⟩), ⟨(.inl ⟨by omega, by omega, rfl⟩), trivial⟩⟩ ⟨(.inl ⟨by omega, by omega, rfl⟩), ⟨(.inr (.inl ⟨by omega, by omega, rfl⟩)), ⟨(.inl ⟨by omega, by omega, rfl⟩), trivial⟩⟩⟩
      refine pu 3 rfl ?_
      have h230 := h223.tL x54
      refine RW.sb tk h230 [.slice Ab5_0_0 y15.length cb5_0_0] ?_
      intro w66 x55 h231
      have h232 : Box w66.heap b5 78 [.slice Ab5_0_0 y15.length cb5_0_0, .slice A5 y2.Tables.length c_5, iv y2.Job.Dev, iv ib5_3_0, iv y2.Job.Table.Dev, iv y2.Job.Table.Size, .slice Ab5_6_0 lb5_6_0.length cb5_6_0, iv y2.Next] := h231
      have sx55 := x55.size
      refine pu 3 rfl (RW.sb tk h232 [.slice A19 y16.length c_19] ?_)
      intro w67 x56 h233
      have h234 : Box w67.heap b5 78 [.slice Ab5_0_0 y15.length cb5_0_0, .slice A19 y16.length c_19, iv y2.Job.Dev, iv ib5_3_0, iv y2.Job.Table.Dev, iv y2.Job.Table.Size, .slice Ab5_6_0 lb5_6_0.length cb5_6_0, iv y2.Next] := h233
      have sx56 := x56.size
      refine RW.done ?_
      have h235 := ((h222.tL x54).tB x55 h230).tB x56 h232
      have h236 := (h229.tB x55 h230).tB x56 h232
      have h237 := ((h225.tL x54).tB x55 h230).tB x56 h232
      have h238 := (((((((((j30.ext x47).ext x48).ext x49).ext x50).ext x51).ext x52).tL x53).tL x54).tB x55 h230).tB x56 h232
      have h239 := ((Ext.turn (Ext.turn (((((((x0_1.tr x46).tr x47).tr x48).tr x49).tr x50).tr x51).tr x52) x53 ⟨by omega, trivial⟩) x54 ⟨by omega, trivial⟩).tB x55).tB x56
      have h240 := (((((((((j34.ext x47).ext x48).ext x49).ext x50).ext x51).ext x52).tL x53).tL x54).tB x55).tB x56
      have h241 := (((((((((j35.ext x47).ext x48).ext x49).ext x50).ext x51).ext x52).tL x53).tL x54).tB x55).tB x56
      exact NW.J fun a ha => ⟨y15, Ab5_0_0, cb5_0_0, y16, A19, c_19, ha.sb, by omega, (h235.sb), (h236.sub ⟨(.inl ⟨by omega, trivial, rfl⟩), trivial⟩ ⟨(.inl ⟨by omega, trivial, rfl⟩), ⟨(.inl ⟨by omega, trivial, rfl⟩), trivial⟩⟩), h237, h238, h239, h234, h240, h241, H⟩
     have h220 := h218.ext x52
     refine RW.lb tk [.slice A5 y2.Tables.length c_5] h220 1 ?_
     have h221 := ((h214.ext x50).ext x51).ext x52
     obtain ⟨y15, h222, H⟩ := bind_some H
     refine RW.callFM (cap := []) ent73 ⟨rfl, rfl, rfl, rfl⟩ rfl rfl rfl (slices_Delete_Device.calls (l := [(w5.heap.size, some w8.heap.size, some 40)]) (li := [(w5.heap.size, some w8.heap.size, some 105)]) Ab5_0_0 cb5_0_0 lb5_0_0 y13.1 (w64 (y13.1 + 1)) _ _ h221 h222) ?_
     rintro _ w63 ⟨rfl, x53, h223⟩
     refine ⟨_, rfl, ?_⟩
     have sx53 := x53.size
     have h224 := (((h215.ext x50).ext x51).ext x52).tL x53
     have h225 := (((h216.ext x50).ext x51).ext x52).tL x53
     have h226 := h219.tL x53
     obtain ⟨y16, h227, H⟩ := bind_some H
     refine RW.callFM (cap := []) ent74 ⟨rfl, rfl, rfl, rfl⟩ rfl rfl rfl (slices_Insert_Table.calls (l := [(w5.heap.size, some w6.heap.size, some 26)]) (li := [(mid1, some w6.heap.size, some 66)]) (ly := [(w5.heap.size, some mid1, some 66), (w7.heap.size, some w8.heap.size, some 66)]) A5 c_5 y2.Tables y14.1 (⟨y2.Job.Table.Dev, y2.Job.Table.Size, lb5_6_0⟩ : Table) _ _ _ _ h224 h226 (kTableO_mk (⟨y2.Job.Table.Dev, y2.Job.Table.Size, lb5_6_0⟩ : Table) (h225.sub (l' := [(w5.heap.size, some mid1, some 66), (w7.heap.size, some w8.heap.size, some 66)]) (li' := [(w5.heap.size, some mid1, some 66), (w7.heap.size, some w8.heap.size, some 66)]) ⟨(.inl ⟨by omega, by omega, rfl⟩), ⟨(.inr (.inl ⟨by omega, by omega, rfl⟩)), trivial⟩⟩ trivial)) ⟨⟨.inl (nq rfl), trivial⟩, ⟨⟨.inl (nq rfl), trivial⟩, trivial⟩⟩ ⟨.inr (by omega), trivial⟩ h227) ?_
     rintro _ w65 ⟨A19, c_19, rfl, x54, h228⟩
     refine ⟨_, rfl, ?_⟩
     have sx54 := x54.size
     have h229 := h228.close.sub (l' := [(w5.heap.size, some w65.heap.size, some 26)]) (li' := [(mid1, some w8.heap.size, some 66), (w5.heap.size, some mid1, some 66)]) ⟨(.inl ⟨by omega, by omega, rfl⟩), ⟨(.inl ⟨by omega, by omega, rfl⟩), trivial⟩⟩ ⟨(.inl ⟨by omega, by omega, rfl⟩), ⟨(.inr (.inl ⟨by omega, by omega, rfl⟩)), ⟨(.inl ⟨by omega, by omega, rfl⟩), trivial⟩⟩⟩
     refine pu 3 rfl ?_
     have h230 := (h220.tL x53).tL x54
     refine RW.sb tk h230 [.slice Ab5_0_0 y15.length cb5_0_0] ?_
     intro w66 x55 h231
     have h232 : Box w66.heap b5 78 [.slice Ab5_0_0 y15.length cb5_0_0, .slice A5 y2.Tables.length c_5, iv y2.Job.Dev, iv ib5_3_0, iv y2.Job.Table.Dev, iv y2.Job.Table.Size, .slice Ab5_6_0 lb5_6_0.length cb5_6_0, iv y2.Next] := h231
     have sx55 := x55.size
     refine pu 3 rfl (RW.sb tk h232 [.slice A19 y16.length c_19] ?_)
     intro w67 x56 h233
     have h234 : Box w67.heap b5 78 [.slice Ab5_0_0 y15.length cb5_0_0, .slice A19 y16.length c_19, iv y2.Job.Dev, iv ib5_3_0, iv y2.Job.Table.Dev, iv y2.Job.Table.Size, .slice Ab5_6_0 lb5_6_0.length cb5_6_0, iv y2.Next] := h233
     have sx56 := x56.size
     refine RW.done ?_
     have h235 := ((h223.tL x54).tB x55 h230).tB x56 h232
     have h236 := (h229.tB x55 h230).tB x56 h232
     have h237 := ((h225.tL x54).tB x55 h230).tB x56 h232
     have h238 := (((((((((j30.ext x47).ext x48).ext x49).ext x50).ext x51).ext x52).tL x53).tL x54).tB x55 h230).tB x56 h232
     have h239 := ((Ext.turn (Ext.turn (((((((x0_1.tr x46).tr x47).tr x48).tr x49).tr x50).tr x51).tr x52) x53 ⟨by omega, trivial⟩) x54 ⟨by omega, trivial⟩).tB x55).tB x56
     have h240 := (((((((((j34.ext x47).ext x48).ext x49).ext x50).ext x51).ext x52).tL x53).tL x54).tB x55).tB x56
     have h241 := (((((((((j35.ext x47).ext x48).ext x49).ext x50).ext x51).ext x52).tL x53).tL x54).tB x55).tB x56
     exact NW.J fun a ha => ⟨y15, Ab5_0_0, cb5_0_0, y16, A19, c_19, ha.sb, by omega, (h235.sb), (h236.sub ⟨(.inl ⟨by omega, trivial, rfl⟩), trivial⟩ ⟨(.inl ⟨by omega, trivial, rfl⟩), ⟨(.inl ⟨by omega, trivial, rfl⟩), trivial⟩⟩), h237, h238, h239, h234, h240, h241, H⟩
    intro a w60 hJ hp
    obtain ⟨lb5_0_9, Ab5_0_9, cb5_0_9, lb5_1_9, Ab5_1_9, cb5_1_9, hS, hle, fb5_0_9, fb5_1_9, gL0_b5_6_9, gL0_b3_0_9, x0_9, gb5_9, gb2_9, gb3_9, H⟩ := hJ
    unfold move_Step.j7 at H
    refine CW.go hp hS ?_
    have h242 : Ow kDeviceO 40 w60.heap (okL [(w5.heap.size, some w8.heap.size, some 40)]) (okL [(w5.heap.size, some w60.heap.size, some 105)]) Ab5_0_9 cb5_0_9 lb5_0_9 := fb5_0_9.close
    have h243 : Ow kTableO 26 w60.heap (okL [(w5.heap.size, some w60.heap.size, some 26)]) (okL [(w5.heap.size, some w60.heap.size, some 66)]) Ab5_1_9 cb5_1_9 lb5_1_9 := fb5_1_9.close
    have xt8 : Ext w60 w60 := Upd.refl _ _
    refine CW.lex [.W, .W, .W, .W, .W, .M] rfl (pu 5 rfl (RW.sb tk gb5_9 [iv 0, iv 0, iv 0, iv 0, .slice none 0 0] ?_))
    intro w68 x57 h244
    have h245 : Box w68.heap b5 78 [.slice Ab5_0_9 lb5_0_9.length cb5_0_9, .slice Ab5_1_9 lb5_1_9.length cb5_1_9, iv 0, iv 0, iv 0, iv 0, .slice none 0 0, iv y2.Next] := h244
    have sx57 := x57.size
    refine RW.done (NW.end_ ?_)
    have h246 := gL0_b3_0_9.tB x57 gb5_9
    have h247 := h242.tB x57 gb5_9
    have h248 := h243.tB x57 gb5_9
    have h249 := x0_9.tB x57
    have h250 := gb2_9.tB x57
    have h251 := gb3_9.tB x57
    exact NW.ret0 rfl ⟨lb5_0_9, Ab5_0_9, cb5_0_9, lb5_1_9, Ab5_1_9, cb5_1_9, 0, 0, 0, 0, ([] : List Entry), none, 0, rfl, by omega, h246, (h247.sb), (h248.sb), Ow.nil, h249, h250, h251, h245, H⟩
   rintro _ w54 ⟨lb5_0_8, Ab5_0_8, cb5_0_8, lb5_1_8, Ab5_1_8, cb5_1_8, ib5_2_8, ib5_3_8, ib5_4_8, ib5_5_8, lb5_6_8, Ab5_6_8, cb5_6_8, rfl, hle, gL0_b3_0_8, fb5_0_8, fb5_1_8, fb5_6_8, x0_8, gb2_8, gb3_8, gb5_8, H⟩
   refine ⟨_, rfl, ?_⟩
   unfold move_Step.j6 at H
   have h252 : Ow kDeviceO 40 w54.heap (okL [(w5.heap.size, some w8.heap.size, some 40)]) (okL [(w5.heap.size, some w54.heap.size, some 105)]) Ab5_0_8 cb5_0_8 lb5_0_8 := fb5_0_8.close
   have h253 : Ow kTableO 26 w54.heap (okL [(w5.heap.size, some w54.heap.size, some 26)]) (okL [(w5.heap.size, some w54.heap.size, some 66)]) Ab5_1_8 cb5_1_8 lb5_1_8 := fb5_1_8.close
   have xt9 : Ext w54 w54 := Upd.refl _ _
   refine RW.done (NW.next (CW.seq (CW.lex [.W, .W, .W, .W, .L, .M] rfl (pu 4 rfl ?_))))
   refine RW.lb tk [.slice Ab5_0_8 lb5_0_8.length cb5_0_8] gb5_8 0 ?_
   refine RW.callKM ent35 ⟨rfl, rfl, rfl, rfl⟩ rfl rfl rfl ?_
   refine calls_start Tryz.func35 rfl 28 rfl [.slice Ab5_0_8 lb5_0_8.length cb5_0_8] rfl ?_
   refine CW.seq (CW.lw 3 rfl (pu 3 rfl (RW.done (NW.next ?_))))
   refine CW.block ?_
   refine CW.loop (fun n3 a w69 => ∃ (lt0_10 : List Device) (it6_10 : Int), Sat 28 [(0, .slice Ab5_0_8 lt0_10.length cb5_0_8), (4, .slice Ab5_0_8 lt0_10.length cb5_0_8), (5, iv (lb5_0_8.length : Int)), (6, iv it6_10)] a ∧ w54.heap.size ≤ w69.heap.size ∧ Ow kDeviceO 40 w69.heap (okL [(w5.heap.size, none, some 40)]) (okL [(w5.heap.size, none, some 105)]) Ab5_0_8 cb5_0_8 lt0_10 ∧ Ow kPair 124 w69.heap (okL [(w7.heap.size, some w8.heap.size, some 124)]) (okL []) Ab3_0_0 cb3_0_0 lb3_0_0 ∧ Ow kTableO 26 w69.heap (okL [(w5.heap.size, some w54.heap.size, some 26)]) (okL [(w5.heap.size, some w54.heap.size, some 66)]) Ab5_1_8 cb5_1_8 lb5_1_8 ∧ Ow kEntry 66 w69.heap (okL [(w5.heap.size, some mid1, some 66), (w7.heap.size, some w8.heap.size, some 66)]) (okL []) Ab5_6_8 cb5_6_8 lb5_6_8 ∧ Ext w w69 ∧ lt0_10.length = lb5_0_8.length ∧ Box w69.heap b2 30 [.slice none 0 0, .slice none 0 0, iv 0, iv 0, iv 0, iv 0, .slice none 0 0, iv 0] ∧ Box w69.heap b3 51 [.slice Ab3_0_0 lb3_0_0.length cb3_0_0] ∧ Box w69.heap b5 78 [.slice Ab5_0_8 lt0_10.length cb5_0_8, .slice Ab5_1_8 lb5_1_8.length cb5_1_8, iv ib5_2_8, iv ib5_3_8, iv ib5_4_8, iv ib5_5_8, .slice Ab5_6_8 lb5_6_8.length cb5_6_8, iv y2.Next] ∧ move_Step.l2 k y2 lb3_0_0 lb5_0_8 lb5_1_8 ib5_2_8 ib5_3_8 ib5_4_8 ib5_5_8 lb5_6_8 n3 lt0_10 it6_10 = some r) k ?_ ?_
   ·exact fun a ha => ⟨lb5_0_8, 0, ha.sb, by omega, (h252.sb), gL0_b3_0_8, h253, fb5_6_8, x0_8, (by (try simp only [List.length_set]) <;> omega), gb2_8, gb3_8, gb5_8, H⟩
   intro n3 a w69 hI hp
   obtain ⟨lt0_10, it6_10, hS, hle, ft0_10, gL0_b3_0_10, gL8_b5_1_10, gL8_b5_6_10, x0_10, ln_lt0_10, gb2_10, gb3_10, gb5_10, H⟩ := hI
   cases n3 with
   | zero => cases H
   | succ n3 =>
    rw [move_Step.l2] at H
    refine CW.go hp hS ?_
    have h254 : Ow kDeviceO 40 w69.heap (okL [(w5.heap.size, some w69.heap.size, some 40)]) (okL [(w5.heap.size, some w69.heap.size, some 105)]) Ab5_0_8 cb5_0_8 lt0_10 := ft0_10.close
    have xt10 : Ext w69 w69 := Upd.refl _ _
    refine CW.seq (CW.lw 1 rfl (pu 1 rfl (RW.done (NW.next ?_))))
    refine CW.seq ?_
    by_cases c18 : it6_10 < (lb5_0_8.length : Int)
    ·rw [if_pos c18] at H
     refine CW.cond_t rfl (decide_eq_true c18) (CW.skip (NW.next (CW.seq (CW.block ?_))))
     refine CW.seq (CW.lex [.W, .W, .L, .X, .W, .M] rfl (pu 1 rfl ?_))
     obtain ⟨g13, H⟩ := guard_some H
     obtain ⟨ad10, A20, c_20, A21, c_21, e10, a10, h255, h256⟩ := kDeviceO_ato h254 g13.1 g13.2
     refine RW.ix tk g13 e10 ?_
     refine RW.ld tk [iv ((rd lt0_10 it6_10).ID), iv ((rd lt0_10 it6_10).Size), .slice A20 ((rd lt0_10 it6_10).Free).length c_20, .slice A21 ((rd lt0_10 it6_10).Late).length c_21] a10 ?_
     refine RW.alloc tk (.inl rfl) ⟨rfl, rfl, rfl, rfl⟩ rfl rfl ?_
     intro b14 w70 x58 l24 h257
     have sx58 := x58.size
     have ltb14 := h257.lt
     refine pu 1 rfl (RW.sb tk h257 [iv ((rd lt0_10 it6_10).ID), iv ((rd lt0_10 it6_10).Size), .slice A20 ((rd lt0_10 it6_10).Free).length c_20, .slice A21 ((rd lt0_10 it6_10).Late).length c_21] ?_)
     intro w71 x59 h258
     have h259 : Box w71.heap b14 40 [iv ((rd lt0_10 it6_10).ID), iv ((rd lt0_10 it6_10).Size), .slice A20 ((rd lt0_10 it6_10).Free).length c_20, .slice A21 ((rd lt0_10 it6_10).Late).length c_21] := h258
     have sx59 := x59.size
     refine RW.done (NW.next (CW.ord [0, 0, 0, 0, 0, 16, 48, 0, 128, 496, 1008, 2032, 4083, 8179, 16371, 32767, 65535, 131071] (ofL [(0, .W), (1, .W), (2, .W), (3, .W), (4, .W), (7, .W), (5, .L), (8, .L), (6, .X), (9, .X), (10, .W), (11, .X), (12, .W), (13, .W), (14, .M), (15, .W), (16, .W), (17, .M)] .nil) mixed (by kernel_rfl) ?_))
     intro w72 x60
     have sx60 := x60.size
     refine pu 6 rfl ?_
     have h260 := h259.ext x60
     refine RW.lb tk [.slice A20 ((rd lt0_10 it6_10).Free).length c_20] h260 2 ?_
     refine RW.ld tk [.slice A21 ((rd lt0_10 it6_10).Late).length c_21] (h260.at 3) ?_
     have h261 := ((h255.ext x58).tB x59 h257).ext x60
     obtain ⟨y17, h262, H⟩ := bind_some H
     refine RW.cl ent57 (seg_Make.calls k A20 c_20 ((rd lt0_10 it6_10).Free) _ _ h261.all h261.len h262) ?_
     rintro _ w73 ⟨rfl, x61⟩
     refine ⟨_, rfl, x61, ?_⟩
     have sx61 := x61.size
     have h263 := (((h256.ext x58).tB x59 h257).ext x60).ext x61
     obtain ⟨y18, h264, H⟩ := bind_some H
     refine RW.cl ent57 (seg_Make.calls k A21 c_21 ((rd lt0_10 it6_10).Late) _ _ h263.all h263.len h264) ?_
     rintro _ w74 ⟨rfl, x62⟩
     refine ⟨_, rfl, x62, ?_⟩
     have sx62 := x62.size
     refine pu 1 rfl ?_
     have h265 := (((((hG.ext x0_10).ext x58).tB x59).ext x60).ext x61).ext x62
     obtain ⟨y19, h266, H⟩ := bind_some H
     refine RW.cl ent40 (seg_Set_Segs.calls k (uor y17 y18) _ _ h265 h266) ?_
     rintro _ w75 ⟨A22, c_22, rfl, x63, h267⟩
     refine ⟨_, rfl, x63, ?_⟩
     have sx63 := x63.size
     have h268 : Ow kSeg 105 w75.heap (okL [(w74.heap.size, some w75.heap.size, some 105)]) (okL []) A22 c_22 y19 := h267.close
     obtain ⟨g14, H⟩ := guard_some H
     have h269 := (((((h254.ext x58).turnB x59 h257 ⟨.inr (by omega), trivial⟩ ⟨.inl (nq rfl), trivial⟩).ext x60).ext x61).ext x62).ext x63
     obtain ⟨ad11, A23, c_23, A24, c_24, e11, a11, h270, h271⟩ := kDeviceO_ato h269 g14.1 g14.2
     refine RW.ix tk g14 e11 ?_
     refine pu 1 rfl ?_
     refine RW.storeElL (y := (⟨(rd lt0_10 it6_10).ID, (rd lt0_10 it6_10).Size, y19, (rd lt0_10 it6_10).Late⟩ : Device)) (lv := [(w74.heap.size, some w75.heap.size, some 105)]) (k := 2) tk h269 (j := it6_10.toNat) (by have := g14; omega) default [.slice A22 y19.length c_22] (fun cs ok' hr => by obtain ⟨qa1, qc1, qa2, qc2, rfl, q1, q2⟩ := kDeviceO_open hr; exact ⟨by simp, kDeviceO_mk (⟨(rd lt0_10 it6_10).ID, (rd lt0_10 it6_10).Size, y19, (rd lt0_10 it6_10).Late⟩ : Device) (h268.mono (fun _ _ ho => Or.inr (okL_sub (l := [(w74.heap.size, some w75.heap.size, some 105)]) (l' := [(w74.heap.size, some w75.heap.size, some 105)]) ⟨(.inl ⟨by omega, by omega, rfl⟩), trivial⟩ ho)) (fun _ _ ho => Or.inr (okL_sub (l := []) (l' := [(w74.heap.size, some w75.heap.size, some 105)]) trivial ho))) (q2.mono (fun _ _ ho => Or.inl ho) (fun _ _ ho => Or.inl ho))⟩) ⟨⟨.inl (nq rfl), trivial⟩, trivial⟩ ⟨rfl, rfl, rfl⟩ rfl rfl e11 rfl rfl rfl rfl rfl ?_
     intro w76 x64 h272
     have sx64 := x64.size
     have h273 := h272.close.sub (l' := [(w5.heap.size, some w69.heap.size, some 40)]) (li' := [(w5.heap.size, some w75.heap.size, some 105)]) ⟨(.inl ⟨by omega, by omega, rfl⟩), trivial⟩ ⟨(.inl ⟨by omega, by omega, rfl⟩), ⟨(.inl ⟨by omega, by omega, rfl⟩), trivial⟩⟩
     refine RW.tell 0 (v' := .slice Ab5_0_8 (lt0_10.set it6_10.toNat (⟨(rd lt0_10 it6_10).ID, (rd lt0_10 it6_10).Size, y19, (rd lt0_10 it6_10).Late⟩ : Device)).length cb5_0_8) (by simp only [List.length_set]) rfl (RW.tell 4 (v' := .slice Ab5_0_8 (lt0_10.set it6_10.toNat (⟨(rd lt0_10 it6_10).ID, (rd lt0_10 it6_10).Size, y19, (rd lt0_10 it6_10).Late⟩ : Device)).length cb5_0_8) (by simp only [List.length_set]) rfl (RW.tell 13 (v' := .slice Ab5_0_8 (lt0_10.set it6_10.toNat (⟨(rd lt0_10 it6_10).ID, (rd lt0_10 it6_10).Size, y19, (rd lt0_10 it6_10).Late⟩ : Device)).length cb5_0_8) (by simp only [List.length_set]) rfl ?_))
     have h274 := ((((((gb5_10.ext x58).tB x59).ext x60).ext x61).ext x62).ext x63).tL x64
     have h275 : Box w76.heap b5 78 [.slice Ab5_0_8 (lt0_10.set it6_10.toNat (⟨(rd lt0_10 it6_10).ID, (rd lt0_10 it6_10).Size, y19, (rd lt0_10 it6_10).Late⟩ : Device)).length cb5_0_8, .slice Ab5_1_8 lb5_1_8.length cb5_1_8, iv ib5_2_8, iv ib5_3_8, iv ib5_4_8, iv ib5_5_8, .slice Ab5_6_8 lb5_6_8.length cb5_6_8, iv y2.Next] := by simpa only [List.length_set] using h274
     obtain ⟨g15, H⟩ := guard_some H
     obtain ⟨ad12, A25, c_25, A26, c_26, e12, a12, h276, h277⟩ := kDeviceO_ato h273 g15.1 g15.2
     refine RW.ix tk g15 e12 ?_
     refine pu 1 rfl ?_
     refine RW.storeElL (y := (⟨(rd (lt0_10.set it6_10.toNat (⟨(rd lt0_10 it6_10).ID, (rd lt0_10 it6_10).Size, y19, (rd lt0_10 it6_10).Late⟩ : Device)) it6_10).ID, (rd (lt0_10.set it6_10.toNat (⟨(rd lt0_10 it6_10).ID, (rd lt0_10 it6_10).Size, y19, (rd lt0_10 it6_10).Late⟩ : Device)) it6_10).Size, (rd (lt0_10.set it6_10.toNat (⟨(rd lt0_10 it6_10).ID, (rd lt0_10 it6_10).Size, y19, (rd lt0_10 it6_10).Late⟩ : Device)) it6_10).Free, ([] : List Seg)⟩ : Device)) (lv := []) (k := 3) tk h273 (j := it6_10.toNat) (by have := g15; omega) default [.slice none 0 0] (fun cs ok' hr => by obtain ⟨qa1, qc1, qa2, qc2, rfl, q1, q2⟩ := kDeviceO_open hr; exact ⟨by simp, kDeviceO_mk (⟨(rd (lt0_10.set it6_10.toNat (⟨(rd lt0_10 it6_10).ID, (rd lt0_10 it6_10).Size, y19, (rd lt0_10 it6_10).Late⟩ : Device)) it6_10).ID, (rd (lt0_10.set it6_10.toNat (⟨(rd lt0_10 it6_10).ID, (rd lt0_10 it6_10).Size, y19, (rd lt0_10 it6_10).Late⟩ : Device)) it6_10).Size, (rd (lt0_10.set it6_10.toNat (⟨(rd lt0_10 it6_10).ID, (rd lt0_10 it6_10).Size, y19, (rd lt0_10 it6_10).Late⟩ : Device)) it6_10).Free, ([] : List Seg)⟩ : Device) (q1.mono (fun _ _ ho => Or.inl ho) (fun _ _ ho => Or.inl ho)) Ow.nil⟩) trivial ⟨rfl, rfl, rfl⟩ rfl rfl e12 rfl rfl rfl rfl rfl ?_
     intro w77 x65 h278
     have sx65 := x65.size
     have h279 := h278.sub (l' := [(w5.heap.size, some w69.heap.size, some 40)]) (li' := [(w5.heap.size, some w75.heap.size, some 105)]) ⟨(.inl ⟨by omega, by omega, rfl⟩), trivial⟩ ⟨(.inl ⟨by omega, by omega, rfl⟩), trivial⟩
     refine RW.tell 0 (v' := .slice Ab5_0_8 ((lt0_10.set it6_10.toNat (⟨(rd lt0_10 it6_10).ID, (rd lt0_10 it6_10).Size, y19, (rd lt0_10 it6_10).Late⟩ : Device)).set it6_10.toNat (⟨(rd (lt0_10.set it6_10.toNat (⟨(rd lt0_10 it6_10).ID, (rd lt0_10 it6_10).Size, y19, (rd lt0_10 it6_10).Late⟩ : Device)) it6_10).ID, (rd (lt0_10.set it6_10.toNat (⟨(rd lt0_10 it6_10).ID, (rd lt0_10 it6_10).Size, y19, (rd lt0_10 it6_10).Late⟩ : Device)) it6_10).Size, (rd (lt0_10.set it6_10.toNat (⟨(rd lt0_10 it6_10).ID, (rd lt0_10 it6_10).Size, y19, (rd lt0_10 it6_10).Late⟩ : Device)) it6_10).Free, ([] : List Seg)⟩ : Device)).length cb5_0_8) (by simp only [List.length_set]) rfl (RW.tell 4 (v' := .slice Ab5_0_8 ((lt0_10.set it6_10.toNat (⟨(rd lt0_10 it6_10).ID, (rd lt0_10 it6_10).Size, y19, (rd lt0_10 it6_10).Late⟩ : Device)).set it6_10.toNat (⟨(rd (lt0_10.set it6_10.toNat (⟨(rd lt0_10 it6_10).ID, (rd lt0_10 it6_10).Size, y19, (rd lt0_10 it6_10).Late⟩ : Device)) it6_10).ID, (rd (lt0_10.set it6_10.toNat (⟨(rd lt0_10 it6_10).ID, (rd lt0_10 it6_10).Size, y19, (rd lt0_10 it6_10).Late⟩ : Device)) it6_10).Size, (rd (lt0_10.set it6_10.toNat (⟨(rd lt0_10 it6_10).ID, (rd lt0_10 it6_10).Size, y19, (rd lt0_10 it6_10).Late⟩ : Device)) it6_10).Free, ([] : List Seg)⟩ : Device)).length cb5_0_8) (by simp only [List.length_set]) rfl ?_)
     have h280 := h275.tL x65
     have h281 : Box w77.heap b5 78 [.slice Ab5_0_8 ((lt0_10.set it6_10.toNat (⟨(rd lt0_10 it6_10).ID, (rd lt0_10 it6_10).Size, y19, (rd lt0_10 it6_10).Late⟩ : Device)).set it6_10.toNat (⟨(rd (lt0_10.set it6_10.toNat (⟨(rd lt0_10 it6_10).ID, (rd lt0_10 it6_10).Size, y19, (rd lt0_10 it6_10).Late⟩ : Device)) it6_10).ID, (rd (lt0_10.set it6_10.toNat (⟨(rd lt0_10 it6_10).ID, (rd lt0_10 it6_10).Size, y19, (rd lt0_10 it6_10).Late⟩ : Device)) it6_10).Size, (rd (lt0_10.set it6_10.toNat (⟨(rd lt0_10 it6_10).ID, (rd lt0_10 it6_10).Size, y19, (rd lt0_10 it6_10).Late⟩ : Device)) it6_10).Free, ([] : List Seg)⟩ : Device)).length cb5_0_8, .slice Ab5_1_8 lb5_1_8.length cb5_1_8, iv ib5_2_8, iv ib5_3_8, iv ib5_4_8, iv ib5_5_8, .slice Ab5_6_8 lb5_6_8.length cb5_6_8, iv y2.Next] := by simpa only [List.length_set] using h280
     refine RW.done ?_
     refine NW.norm_block (NW.next ?_)
     refine CW.lw 2 rfl (pu 2 rfl (RW.done ?_))
     have h282 := (((((((gL0_b3_0_10.ext x58).tB x59 h257).ext x60).ext x61).ext x62).ext x63).tL x64).tL x65
     have h283 := (((((((gL8_b5_1_10.ext x58).tB x59 h257).ext x60).ext x61).ext x62).ext x63).tL x64).tL x65
     have h284 := (((((((gL8_b5_6_10.ext x58).tB x59 h257).ext x60).ext x61).ext x62).ext x63).tL x64).tL x65
     have h285 := Ext.turn (Ext.turn ((((((x0_10.tr x58).tB x59).tr x60).tr x61).tr x62).tr x63) x64 ⟨by omega, trivial⟩) x65 ⟨by omega, trivial⟩
     have h286 := (((((((gb2_10.ext x58).tB x59).ext x60).ext x61).ext x62).ext x63).tL x64).tL x65
     have h287 := (((((((gb3_10.ext x58).tB x59).ext x60).ext x61).ext x62).ext x63).tL x64).tL x65
     exact NW.J fun a ha => ⟨n3, Nat.lt_succ_self n3, ((lt0_10.set it6_10.toNat (⟨(rd lt0_10 it6_10).ID, (rd lt0_10 it6_10).Size, y19, (rd lt0_10 it6_10).Late⟩ : Device)).set it6_10.toNat (⟨(rd (lt0_10.set it6_10.toNat (⟨(rd lt0_10 it6_10).ID, (rd lt0_10 it6_10).Size, y19, (rd lt0_10 it6_10).Late⟩ : Device)) it6_10).ID, (rd (lt0_10.set it6_10.toNat (⟨(rd lt0_10 it6_10).ID, (rd lt0_10 it6_10).Size, y19, (rd lt0_10 it6_10).Late⟩ : Device)) it6_10).Size, (rd (lt0_10.set it6_10.toNat (⟨(rd lt0_10 it6_10).ID, (rd lt0_10 it6_10).Size, y19, (rd lt0_10 it6_10).Late⟩ : Device)) it6_10).Free, ([] : List Seg)⟩ : Device)), (w64 (it6_10 + 1)), ha.sb, by omega, (h279.sb), h282, h283, h284, h285, (by (try simp only [List.length_set]) <;> omega), h286, h287, h281, H⟩
    rw [if_neg c18] at H
    refine CW.cond_f rfl (decide_eq_false c18) (CW.exit ?_)
    refine NW.exit_then (NW.exit_then (NW.exit_hit ?_))
    refine NW.end_ ?_
    refine NW.ret0 rfl ⟨_, rfl, ?_⟩
    refine RW.done (NW.next (CW.seq (CW.ord [0, 1, 3, 7, 0, 15, 63, 127] (ofL [(0, .W), (1, .W), (2, .W), (3, .L)] (.two 4 .L (ofL [(5, .M), (6, .M), (7, .W)] .nil) 5 .M (ofL [(4, .L), (6, .M), (7, .W)] .nil))) mixed (by kernel_rfl) ?_)))
    intro w78 x66
    have sx66 := x66.size
    refine pu 3 rfl ?_
    have h288 := gb5_10.ext x66
    refine RW.ld tk [.slice Ab5_0_8 lt0_10.length cb5_0_8, .slice Ab5_1_8 lb5_1_8.length cb5_1_8, iv ib5_2_8, iv ib5_3_8, iv ib5_4_8, iv ib5_5_8, .slice Ab5_6_8 lb5_6_8.length cb5_6_8, iv y2.Next] (h288.at 0) ?_
    refine RW.two ?_ ?_
    ·have h289 := gb3_10.ext x66
     refine RW.ld tk [.slice Ab3_0_0 lb3_0_0.length cb3_0_0] (h289.at 0) ?_
     have h290 := gb2_10.ext x66
     refine RW.sb tk h290 [.slice Ab5_0_8 lt0_10.length cb5_0_8, .slice Ab5_1_8 lb5_1_8.length cb5_1_8, iv ib5_2_8, iv ib5_3_8, iv ib5_4_8, iv ib5_5_8, .slice Ab5_6_8 lb5_6_8.length cb5_6_8, iv y2.Next] ?_
     intro w79 x67 h291
     have h292 : Box w79.heap b2 30 [.slice Ab5_0_8 lt0_10.length cb5_0_8, .slice Ab5_1_8 lb5_1_8.length cb5_1_8, iv ib5_2_8, iv ib5_3_8, iv ib5_4_8, iv ib5_5_8, .slice Ab5_6_8 lb5_6_8.length cb5_6_8, iv y2.Next] := h291
     have sx67 := x67.size
     have h293 := h289.tB x67
     refine RW.sb tk h293 [.slice Ab3_0_0 lb3_0_0.length cb3_0_0] ?_
     intro w80 x68 h294
     have h295 : Box w80.heap b3 51 [.slice Ab3_0_0 lb3_0_0.length cb3_0_0] := h294
     have sx68 := x68.size
     refine pu 1 rfl (RW.done (NW.next (CW.ret ?_)))
     have h296 := h292.tB x68
     have h297 := ((h254.ext x66).tB x67 h290).tB x68 h293
     have h298 := ((gL8_b5_1_10.ext x66).tB x67 h290).tB x68 h293
     have h299 := ((gL8_b5_6_10.ext x66).tB x67 h290).tB x68 h293
     have h300 := ((gL0_b3_0_10.ext x66).tB x67 h290).tB x68 h293
     obtain rfl := Option.some.inj H
     have h301 := ((x0_10.tr x66).tB x67).tB x68
     exact NW.ret3 rfl (resOne_cell tk (h296.at 0) rfl rfl rfl) (resOne_cell tk (h295.at 0) rfl rfl rfl) (by rfl) ⟨Ab5_0_8, cb5_0_8, Ab5_1_8, cb5_1_8, Ab5_6_8, cb5_6_8, Ab3_0_0, cb3_0_0, rfl, h301, (h297.sub (l' := [(w.heap.size, none, some 40)]) (li' := [(w.heap.size, none, some 105)]) ⟨(.inl ⟨by omega, trivial, rfl⟩), trivial⟩ ⟨(.inl ⟨by omega, trivial, rfl⟩), trivial⟩), (h298.sub (l' := [(w.heap.size, none, some 26)]) (li' := [(w.heap.size, none, some 66)]) ⟨(.inl ⟨by omega, trivial, rfl⟩), trivial⟩ ⟨(.inl ⟨by omega, trivial, rfl⟩), trivial⟩), (h299.sub (l' := [(w.heap.size, none, some 66)]) (li' := []) ⟨(.inl ⟨by omega, trivial, rfl⟩), ⟨(.inl ⟨by omega, trivial, rfl⟩), trivial⟩⟩ trivial), (h300.sub (l' := [(w.heap.size, none, some 124)]) (li' := []) ⟨(.inl ⟨by omega, trivial, rfl⟩), trivial⟩ trivial)⟩
    have h289 := gb2_10.ext x66
    refine RW.sb tk h289 [.slice Ab5_0_8 lt0_10.length cb5_0_8, .slice Ab5_1_8 lb5_1_8.length cb5_1_8, iv ib5_2_8, iv ib5_3_8, iv ib5_4_8, iv ib5_5_8, .slice Ab5_6_8 lb5_6_8.length cb5_6_8, iv y2.Next] ?_
    intro w79 x67 h290
    have h291 : Box w79.heap b2 30 [.slice Ab5_0_8 lt0_10.length cb5_0_8, .slice Ab5_1_8 lb5_1_8.length cb5_1_8, iv ib5_2_8, iv ib5_3_8, iv ib5_4_8, iv ib5_5_8, .slice Ab5_6_8 lb5_6_8.length cb5_6_8, iv y2.Next] := h290
    have sx67 := x67.size
    have h292 := (gb3_10.ext x66).tB x67
    refine RW.ld tk [.slice Ab3_0_0 lb3_0_0.length cb3_0_0] (h292.at 0) ?_
    refine RW.sb tk h292 [.slice Ab3_0_0 lb3_0_0.length cb3_0_0] ?_
    intro w80 x68 h293
    have h294 : Box w80.heap b3 51 [.slice Ab3_0_0 lb3_0_0.length cb3_0_0] := h293
    have sx68 := x68.size
    refine pu 1 rfl (RW.done (NW.next (CW.ret ?_)))
    have h295 := h291.tB x68
    have h296 := ((h254.ext x66).tB x67 h289).tB x68 h292
    have h297 := ((gL8_b5_1_10.ext x66).tB x67 h289).tB x68 h292
    have h298 := ((gL8_b5_6_10.ext x66).tB x67 h289).tB x68 h292
    have h299 := ((gL0_b3_0_10.ext x66).tB x67 h289).tB x68 h292
    obtain rfl := Option.some.inj H
    have h300 := ((x0_10.tr x66).tB x67).tB x68
    exact NW.ret3 rfl (resOne_cell tk (h295.at 0) rfl rfl rfl) (resOne_cell tk (h294.at 0) rfl rfl rfl) (by rfl) ⟨Ab5_0_8, cb5_0_8, Ab5_1_8, cb5_1_8, Ab5_6_8, cb5_6_8, Ab3_0_0, cb3_0_0, rfl, h300, (h296.sub (l' := [(w.heap.size, none, some 40)]) (li' := [(w.heap.size, none, some 105)]) ⟨(.inl ⟨by omega, trivial, rfl⟩), trivial⟩ ⟨(.inl ⟨by omega, trivial, rfl⟩), trivial⟩), (h297.sub (l' := [(w.heap.size, none, some 26)]) (li' := [(w.heap.size, none, some 66)]) ⟨(.inl ⟨by omega, trivial, rfl⟩), trivial⟩ ⟨(.inl ⟨by omega, trivial, rfl⟩), trivial⟩), (h298.sub (l' := [(w.heap.size, none, some 66)]) (li' := []) ⟨(.inl ⟨by omega, trivial, rfl⟩), ⟨(.inl ⟨by omega, trivial, rfl⟩), trivial⟩⟩ trivial), (h299.sub (l' := [(w.heap.size, none, some 124)]) (li' := []) ⟨(.inl ⟨by omega, trivial, rfl⟩), trivial⟩ trivial)⟩
 rw [if_neg c1] at H
 cases H
theorem hermitagelaw10_Pool.calls (p0 : Int) (r : Pool) (w : World) (H : hermitagelaw10_Pool.f p0 = some r) :
    Calls Tryz.prog 27 #[iv p0] w fun e w' => ∃ (B1 : Option Addr) (d1 : Nat) (B2 : Option Addr) (d2 : Nat) (B3 : Option Addr) (d3 : Nat), e = .returned (.agg #[.slice B1 r.Devices.length d1, .slice B2 r.Tables.length d2, iv r.Job.Dev, iv r.Job.At, iv r.Job.Table.Dev, iv r.Job.Table.Size, .slice B3 r.Job.Table.List_.length d3, iv r.Next]) ∧ Ext w w' ∧ Ow kDeviceO 40 w'.heap (okL [(w.heap.size, none, some 40)]) (okL [(w.heap.size, none, some 105)]) B1 d1 r.Devices ∧ Ow kTableO 26 w'.heap (okL [(w.heap.size, none, some 26)]) (okL [(w.heap.size, none, some 66)]) B2 d2 r.Tables ∧ Ow kEntry 66 w'.heap (okL [(w.heap.size, none, some 66)]) (okL []) B3 d3 r.Job.Table.List_ := by
 have x0 : Ext w w := Upd.refl _ w
 unfold hermitagelaw10_Pool.f at H
 refine calls_start Tryz.func27 rfl 12 rfl [iv p0] rfl ?_
 refine CW.seq (CW.lex [.X] rfl (RW.alloc tk (.inl rfl) ⟨rfl, rfl, rfl, rfl⟩ rfl rfl ?_))
 intro b1 w1 x1 l1 h1
 have sx1 := x1.size
 have ltb1 := h1.lt
 refine RW.done (NW.next (CW.seq (CW.lex [.W, .W, .W, .W, .W, .X, .W, .X, .W, .M] rfl (pu 5 rfl ?_))))
 refine RW.buildSlice (cs := [iv 0, iv p0]) tk (.inl rfl) ⟨rfl, rfl, rfl, rfl⟩ rfl rfl rfl rfl rfl rfl rfl ?_
 intro b2 w2 x2 l2 h2
 have sx2 := x2.size
 have ltb2 := h2.lt
 refine pu 1 rfl (RW.buildSlice (cs := [iv 1, iv p0, .slice none 0 0, .slice none 0 0, iv 2, iv p0, .slice (some ⟨b2, 0, none⟩) 1 1, .slice none 0 0]) tk (.inl rfl) ⟨rfl, rfl, rfl, rfl⟩ rfl rfl rfl rfl rfl rfl rfl ?_)
 intro b3 w3 x3 l3 h3
 have sx3 := x3.size
 have ltb3 := h3.lt
 refine pu 1 rfl ?_
 have h4 := h2.ext x3
 have h5 : Ow kSeg 105 w3.heap (okL [(w1.heap.size, some w2.heap.size, some 105)]) (okL []) (some ⟨b2, 0, none⟩) 1 ([(⟨0, p0⟩ : Seg)] : List Seg) := Ow.of_box h4 (.inl ⟨l2, ltb2, rfl⟩) (Nat.le_of_ble_eq_true rfl) (Ch.cons (d := kSeg) (cs := [iv 0, iv p0]) (x := (⟨0, p0⟩ : Seg)) (kSeg_mk (⟨0, p0⟩ : Seg)) Ch.nil)
 have h6 : Ow kDeviceO 40 w3.heap (okL [(w2.heap.size, some w3.heap.size, some 40)]) (okL [(w1.heap.size, some w2.heap.size, some 105)]) (some ⟨b3, 0, none⟩) 2 ([(⟨1, p0, ([] : List Seg), ([] : List Seg)⟩ : Device), (⟨2, p0, ([(⟨0, p0⟩ : Seg)] : List Seg), ([] : List Seg)⟩ : Device)] : List Device) := Ow.of_box h3 (.inl ⟨l3, ltb3, rfl⟩) (Nat.le_of_ble_eq_true rfl) (Ch.cons (d := kDeviceO) (cs := [iv 1, iv p0, .slice none 0 0, .slice none 0 0]) (x := (⟨1, p0, ([] : List Seg), ([] : List Seg)⟩ : Device)) (kDeviceO_mk (⟨1, p0, ([] : List Seg), ([] : List Seg)⟩ : Device) Ow.nil Ow.nil) (Ch.cons (d := kDeviceO) (cs := [iv 2, iv p0, .slice (some ⟨b2, 0, none⟩) ([(⟨0, p0⟩ : Seg)] : List Seg).length 1, .slice none 0 0]) (x := (⟨2, p0, ([(⟨0, p0⟩ : Seg)] : List Seg), ([] : List Seg)⟩ : Device)) (kDeviceO_mk (⟨2, p0, ([(⟨0, p0⟩ : Seg)] : List Seg), ([] : List Seg)⟩ : Device) (h5.off (l' := [(w1.heap.size, some w2.heap.size, some 105)]) h3 ⟨.inl (nq rfl), trivial⟩ trivial ⟨(.inl ⟨by omega, by omega, rfl⟩), trivial⟩ trivial) Ow.nil) Ch.nil))
 have h7 := (h1.ext x2).ext x3
 refine RW.sb tk h7 [.slice (some ⟨b3, 0, none⟩) ([(⟨1, p0, ([] : List Seg), ([] : List Seg)⟩ : Device), (⟨2, p0, ([(⟨0, p0⟩ : Seg)] : List Seg), ([] : List Seg)⟩ : Device)] : List Device).length 2, .slice none 0 0, iv 0, iv 0, iv 0, iv 0, .slice none 0 0, iv 3] ?_
 intro w4 x4 h8
 have h9 : Box w4.heap b1 30 [.slice (some ⟨b3, 0, none⟩) ([(⟨1, p0, ([] : List Seg), ([] : List Seg)⟩ : Device), (⟨2, p0, ([(⟨0, p0⟩ : Seg)] : List Seg), ([] : List Seg)⟩ : Device)] : List Device).length 2, .slice none 0 0, iv 0, iv 0, iv 0, iv 0, .slice none 0 0, iv 3] := h8
 have sx4 := x4.size
 refine RW.done (NW.next (CW.ret ?_))
 have h10 := h6.tB x4 h7
 obtain rfl := Option.some.inj H
 have h11 := (((x0.tr x1).tr x2).tr x3).tB x4
 exact NW.ret1 rfl (resOne_cell tk (h9.at 0) rfl rfl rfl) ⟨(some ⟨b3, 0, none⟩), 2, none, 0, none, 0, rfl, h11, (h10.sub (l' := [(w.heap.size, none, some 40)]) (li' := [(w.heap.size, none, some 105)]) ⟨(.inl ⟨by omega, trivial, rfl⟩), trivial⟩ ⟨(.inl ⟨by omega, trivial, rfl⟩), trivial⟩), Ow.nil, Ow.nil⟩
theorem hermitagelaw10_wakes.calls (k : Nat)  (r : Bool) (w : World) {gT : Nat} (hG : Box w.heap 0 gT (arrI .u8 64 tz)) (H : hermitagelaw10_wakes.f k = some r) :
    Calls Tryz.prog 9 #[] w fun e w' => e = .returned (.bool r) ∧ Ext w w' := by
 have hG0 : 0 < w.heap.size := hG.lt
 have x0 : Ext w w := Upd.refl _ w
 unfold hermitagelaw10_wakes.f at H
 refine calls_start Tryz.func9 rfl 50 rfl [] rfl ?_
 refine CW.seq (CW.lw 1 rfl (pu 1 rfl (RW.done (NW.next ?_))))
 refine CW.seq (CW.lex [.X, .X, .W, .W, .W, .X, .M, .W] rfl ?_)
 obtain ⟨y1, h1, H⟩ := bind_some H
 refine RW.cl ent27 (hermitagelaw10_Pool.calls 3 _ _ h1) ?_
 rintro _ w1 ⟨A1, c_1, A2, c_2, A3, c_3, rfl, x1, h2, h3, h4⟩
 refine ⟨_, rfl, x1, ?_⟩
 have sx1 := x1.size
 have h5 : Ow kDeviceO 40 w1.heap (okL [(w.heap.size, some w1.heap.size, some 40)]) (okL [(w.heap.size, some w1.heap.size, some 105)]) A1 c_1 y1.Devices := h2.close
 have h6 : Ow kTableO 26 w1.heap (okL [(w.heap.size, some w1.heap.size, some 26)]) (okL [(w.heap.size, some w1.heap.size, some 66)]) A2 c_2 y1.Tables := h3.close
 have h7 : Ow kEntry 66 w1.heap (okL [(w.heap.size, some w1.heap.size, some 66)]) (okL []) A3 c_3 y1.Job.Table.List_ := h4.close
 have h8 := hG.ext x1
 obtain ⟨y2, h9, H⟩ := bind_some H
 refine RW.cl ent11 (move_Remove.calls k y1 A1 c_1 A2 c_2 A3 c_3 1 _ _ (h5.all.to kDevice_ro rfl) h5.len (h6.all.to kTable_ro rfl) h6.len h7.all h7.len h8 h9) ?_
 rintro _ w2 ⟨A4, c_4, A5, c_5, A6, c_6, rfl, x2, h10, h11, h12⟩
 refine ⟨_, rfl, x2, ?_⟩
 have sx2 := x2.size
 have h13 : Ow kDeviceO 40 w2.heap (okL [(w1.heap.size, some w2.heap.size, some 40)]) (okL [(w1.heap.size, some w2.heap.size, some 105)]) A4 c_4 y2.1.Devices := h10.close
 have h14 : Ow kTableO 26 w2.heap (okL [(w1.heap.size, some w2.heap.size, some 26)]) (okL [(w1.heap.size, some w2.heap.size, some 66)]) A5 c_5 y2.1.Tables := h11.close
 have h15 : Ow kEntry 66 w2.heap (okL [(w1.heap.size, some w2.heap.size, some 66)]) (okL []) A6 c_6 y2.1.Job.Table.List_ := h12.close
 refine pu 3 rfl (RW.alloc tk (.inl rfl) ⟨rfl, rfl, rfl, rfl⟩ rfl rfl ?_)
 intro b1 w3 x3 l1 h16
 have sx3 := x3.size
 have ltb1 := h16.lt
 refine RW.sb tk h16 [.slice A4 y2.1.Devices.length c_4, .slice A5 y2.1.Tables.length c_5, iv y2.1.Job.Dev, iv y2.1.Job.At, iv y2.1.Job.Table.Dev, iv y2.1.Job.Table.Size, .slice A6 y2.1.Job.Table.List_.length c_6, iv y2.1.Next] ?_
 intro w4 x4 h17
 have h18 : Box w4.heap b1 30 [.slice A4 y2.1.Devices.length c_4, .slice A5 y2.1.Tables.length c_5, iv y2.1.Job.Dev, iv y2.1.Job.At, iv y2.1.Job.Table.Dev, iv y2.1.Job.Table.Size, .slice A6 y2.1.Job.Table.List_.length c_6, iv y2.1.Next] := h17
 have sx4 := x4.size
 refine pu 1 rfl (RW.done (NW.next (CW.seq (CW.lex [.L, .X, .W, .W, .W, .W, .M, .W, .W] rfl ?_))))
 refine RW.ld tk [.slice A4 y2.1.Devices.length c_4, .slice A5 y2.1.Tables.length c_5, iv y2.1.Job.Dev, iv y2.1.Job.At, iv y2.1.Job.Table.Dev, iv y2.1.Job.Table.Size, .slice A6 y2.1.Job.Table.List_.length c_6, iv y2.1.Next] (h18.at 0) ?_
 have h19 := (h13.ext x3).tB x4 h16
 have h20 := (h14.ext x3).tB x4 h16
 have h21 := (h15.ext x3).tB x4 h16
 have h22 := ((h8.ext x2).ext x3).tB x4
 obtain ⟨y3, h23, H⟩ := bind_some H
 refine RW.cl ent16 (move_Step.calls k y2.1 A4 c_4 A5 c_5 A6 c_6 5 _ _ (h19.all.to kDevice_ro rfl) h19.len (h20.all.to kTable_ro rfl) h20.len h21.all h21.len h22 h23) ?_
 rintro _ w5 ⟨A7, c_7, A8, c_8, A9, c_9, A10, c_10, rfl, x5, h24, h25, h26, h27⟩
 refine ⟨_, rfl, x5, ?_⟩
 have sx5 := x5.size
 have h28 : Ow kDeviceO 40 w5.heap (okL [(w4.heap.size, some w5.heap.size, some 40)]) (okL [(w4.heap.size, some w5.heap.size, some 105)]) A7 c_7 y3.1.Devices := h24.close
 have h29 : Ow kTableO 26 w5.heap (okL [(w4.heap.size, some w5.heap.size, some 26)]) (okL [(w4.heap.size, some w5.heap.size, some 66)]) A8 c_8 y3.1.Tables := h25.close
 have h30 : Ow kEntry 66 w5.heap (okL [(w4.heap.size, some w5.heap.size, some 66)]) (okL []) A9 c_9 y3.1.Job.Table.List_ := h26.close
 have h31 : Ow kPair 124 w5.heap (okL [(w4.heap.size, some w5.heap.size, some 124)]) (okL []) A10 c_10 y3.2.1 := h27.close
 refine pu 4 rfl ?_
 have h32 := h18.ext x5
 refine RW.sb tk h32 [.slice A7 y3.1.Devices.length c_7, .slice A8 y3.1.Tables.length c_8, iv y3.1.Job.Dev, iv y3.1.Job.At, iv y3.1.Job.Table.Dev, iv y3.1.Job.Table.Size, .slice A9 y3.1.Job.Table.List_.length c_9, iv y3.1.Next] ?_
 intro w6 x6 h33
 have h34 : Box w6.heap b1 30 [.slice A7 y3.1.Devices.length c_7, .slice A8 y3.1.Tables.length c_8, iv y3.1.Job.Dev, iv y3.1.Job.At, iv y3.1.Job.Table.Dev, iv y3.1.Job.Table.Size, .slice A9 y3.1.Job.Table.List_.length c_9, iv y3.1.Next] := h33
 have sx6 := x6.size
 refine pu 2 rfl (RW.done (NW.next (CW.seq (CW.lex [.W, .X, .W, .W, .W, .X, .W, .W, .W, .W, .W, .W, .W, .W, .W, .L, .W, .W, .W, .W, .W, .L, .W, .W, .W, .W, .W, .L, .W, .W, .L, .W, .W, .W, .W] rfl ?_))))
 refine pu 1 rfl ?_
 obtain ⟨y4, h35, H⟩ := bind_some H
 refine RW.cl ent12 (hermitagelaw10_num.calls y2.2 _ _ h35) ?_
 rintro _ w7 ⟨rfl, x7⟩
 refine ⟨_, rfl, x7, ?_⟩
 have sx7 := x7.size
 refine pu 2 rfl ?_
 by_cases c1 : y4 = 0
 ·rw [if_pos c1] at H
  refine RW.bool 19 (b' := true) (beq_t c1) rfl (pu 1 rfl ?_)
  obtain ⟨y5, h36, H⟩ := bind_some H
  refine RW.cl ent12 (hermitagelaw10_num.calls y3.2.2 _ _ h36) ?_
  rintro _ w8 ⟨rfl, x8⟩
  refine ⟨_, rfl, x8, ?_⟩
  have sx8 := x8.size
  refine pu 3 rfl ?_
  by_cases c2 : y5 = 0
  ·rw [if_pos c2] at H
   refine RW.bool 24 (b' := true) (beq_t c2) rfl (pu 5 rfl ?_)
   by_cases c3 : (y3.2.1.length : Int) = 3
   ·rw [if_pos c3] at H
    refine RW.bool 29 (b' := true) (beq_t c3) rfl (pu 1 rfl ?_)
    have h37 := (h34.ext x7).ext x8
    refine RW.lb tk [.slice A7 y3.1.Devices.length c_7] h37 0 ?_
    refine pu 4 rfl ?_
    by_cases c4 : (y3.1.Devices.length : Int) = 1
    ·rw [if_pos c4] at H
     refine RW.bool 35 (b' := true) (beq_t c4) rfl (pu 1 rfl (RW.lb tk [.slice A8 y3.1.Tables.length c_8] h37 1 ?_))
     refine pu 4 rfl ?_
     by_cases c5 : (y3.1.Tables.length : Int) = 1
     ·rw [if_pos c5] at H
      refine RW.bool 41 (b' := true) (beq_t c5) rfl (pu 1 rfl (RW.lb tk [.slice A8 y3.1.Tables.length c_8] h37 1 ?_))
      obtain ⟨g1, H⟩ := guard_some H
      have h38 := ((h29.tB x6 h32).ext x7).ext x8
      obtain ⟨ad1, A11, c_11, e1, a1, h39⟩ := kTableO_ato h38 g1.1 g1.2
      refine RW.ix tk g1 e1 ?_
      refine pu 1 rfl (RW.ld tk [.slice A11 ((rd y3.1.Tables 0).List_).length c_11] (a1.fld 2) ?_)
      refine pu 4 rfl (RW.done (NW.next (CW.ret ?_)))
      obtain rfl := Option.some.inj H
      have h40 := (((((((x0.tr x1).tr x2).tr x3).tB x4).tr x5).tB x6).tr x7).tr x8
      exact NW.ret1 rfl (by rfl) ⟨rfl, h40⟩
     rw [if_neg c5] at H
     cases H
    rw [if_neg c4] at H
    cases H
   rw [if_neg c3] at H
   cases H
  rw [if_neg c2] at H
  cases H
 rw [if_neg c1] at H
 cases H
theorem hermitageref1_Has.calls (k : Nat) (A1 : Option Addr) (c_1 : Nat) (p0 : List Seg) (p1 : Int) (r : Bool) (w : World) (hs1 : Sl kSeg w.heap okAll A1 p0) (hl1 : p0.length ≤ c_1) (H : hermitageref1_Has.f k p0 p1 = some r) :
    Calls Tryz.prog 10 #[.slice A1 p0.length c_1, iv p1] w fun e w' => e = .returned (.bool r) ∧ Ext w w' := by
 have h1 : Sl kSeg w.heap (okL [(0, some w.heap.size, none)]) A1 p0 := hs1.old _ rfl
 have x0 : Ext w w := Upd.refl _ w
 unfold hermitageref1_Has.f at H
 refine calls_start Tryz.func10 rfl 15 rfl [.slice A1 p0.length c_1, iv p1] rfl ?_
 refine CW.seq (CW.lw 1 rfl (pu 1 rfl (RW.done (NW.next ?_))))
 refine CW.seq (CW.lex [.W, .X, .X, .M] rfl (pu 1 rfl ?_))
 obtain ⟨y1, h2, H⟩ := bind_some H
 refine RW.cl ent28 (hermitageref1_Set.calls k A1 c_1 p0 _ _ h1.all hl1 h2) ?_
 rintro _ w1 ⟨rfl, x1⟩
 refine ⟨_, rfl, x1, ?_⟩
 have sx1 := x1.size
 refine RW.alloc tk (.inl rfl) ⟨rfl, rfl, rfl, rfl⟩ rfl rfl ?_
 intro b1 w2 x2 l1 h3
 have sx2 := x2.size
 have ltb1 := h3.lt
 refine RW.storeBox tk h3 (arrB 64 y1) ⟨rfl, rfl, rfl⟩ rfl rfl rfl rfl rfl arrF_len (arrF_all fun _ => rfl) (arrF_fitAll arrF_len) ?_
 intro w3 x3 h4
 have h5 : Box w3.heap b1 69 (arrB 64 y1) := by rw [lay_arrFull] at h4; exact h4
 have sx3 := x3.size
 refine RW.done (NW.next (CW.seq (CW.lex [.W, .X, .W, .W, .W, .L, .W, .W] rfl (pu 1 rfl ?_))))
 obtain ⟨y2, h6, H⟩ := bind_some H
 refine RW.cl ent29 (hermitageref0_Num.calls p1 63 _ _ h6) ?_
 rintro _ w4 ⟨rfl, x4⟩
 refine ⟨_, rfl, x4, ?_⟩
 have sx4 := x4.size
 refine pu 1 rfl ?_
 have j1 := (((x0.tr x1).tr x2).tB x3).tr x4
 by_cases c1 : y2 = true
 ·rw [if_pos c1] at H
  refine RW.bool 10 (b' := true) (c1) rfl (pu 1 rfl ?_)
  obtain ⟨g1, H⟩ := guard_some H
  refine RW.indexBox tk g1.1 g1.2 ⟨rfl, rfl, rfl, rfl⟩ rfl rfl rfl rfl rfl rfl rfl ?_
  have h7 := h5.ext x4
  refine RW.ld tk [.bool (y1 p1.toNat)] (h7.elF (by have := g1; omega)) ?_
  refine pu 2 rfl (RW.done (NW.next (CW.ret ?_)))
  obtain rfl := Option.some.inj H
  exact NW.ret1 rfl (by rfl) ⟨rfl, j1⟩
 rw [if_neg c1] at H
 refine RW.bool 10 (b' := false) (bool_f c1) rfl (pu 5 rfl (RW.done (NW.next (CW.ret ?_))))
 obtain rfl := Option.some.inj H
 exact NW.ret1 rfl (by rfl) ⟨rfl, j1⟩
theorem table_At.calls (k : Nat) (p0 : Table) (A1 : Option Addr) (c_1 : Nat) (p1 : Int) (r : Int) (w : World) (hs1 : Sl kEntry w.heap okAll A1 p0.List_) (hl1 : p0.List_.length ≤ c_1) (H : table_At.f k p0 p1 = some r) :
    Calls Tryz.prog 125 #[.agg #[iv p0.Dev, iv p0.Size, .slice A1 p0.List_.length c_1], iv p1] w fun e w' => e = .returned (iv r) ∧ Ext w w' := by
 have h1 : Sl kEntry w.heap (okL [(0, some w.heap.size, none)]) A1 p0.List_ := hs1.old _ rfl
 have x0 : Ext w w := Upd.refl _ w
 unfold table_At.f at H
 refine calls_start Tryz.func125 rfl 9 rfl [.agg #[iv p0.Dev, iv p0.Size, .slice A1 p0.List_.length c_1], iv p1] rfl ?_
 refine CW.seq (CW.lex [.X, .X, .W] rfl (RW.box (cs := [iv p0.Dev, iv p0.Size, .slice A1 p0.List_.length c_1]) (.inl rfl) ⟨rfl, rfl, rfl, rfl⟩ rfl rfl rfl ?_))
 intro b1 w1 x1 l1 h2
 have sx1 := x1.size
 have ltb1 := h2.lt
 refine RW.box (cs := [iv p1]) (.inl rfl) ⟨rfl, rfl, rfl, rfl⟩ rfl rfl rfl ?_
 intro b2 w2 x2 l2 h3
 have sx2 := x2.size
 have ltb2 := h3.lt
 refine pu 1 rfl (RW.done (NW.next (CW.seq (CW.lex [.W, .L, .W, .X, .W] rfl ?_))))
 refine pu 1 rfl ?_
 have h4 := h2.ext x2
 refine RW.ld tk [.slice A1 p0.List_.length c_1] (h4.at 2) ?_
 refine pu 1 rfl ?_
 have xc1 : Ext w2 w2 := Upd.refl _ _
 refine RW.callV (R := fun e w3 => ∃ (it8_0 : Int), e = .returned (iv it8_0) ∧ w2.heap.size ≤ w3.heap.size ∧ Ext w w3 ∧ Ext w2 w3 ∧ table_At.j0 it8_0 = some r) (.inl rfl) ent144 ⟨rfl, rfl, rfl, rfl⟩ rfl rfl rfl ?_ ?_
 ·refine calls_start Tryz.func144 rfl 19 rfl [.slice A1 p0.List_.length c_1, .func (.func 146) #[] #[.pointer (some ⟨b2, 0, none⟩)]] rfl ?_
  refine CW.seq (CW.lw 1 rfl (pu 1 rfl (RW.done (NW.next ?_))))
  refine CW.seq (CW.seq (CW.lw 3 rfl (pu 3 rfl (RW.done ?_))))
  refine NW.next (CW.block ?_)
  refine CW.loop (fun n1 a w4 => ∃ (it8_1 : Int), Sat 19 [(0, .slice A1 p0.List_.length c_1), (1, .func (.func 146) #[] #[.pointer (some ⟨b2, 0, none⟩)]), (7, iv (p0.List_.length : Int)), (8, iv it8_1)] a ∧ w2.heap.size ≤ w4.heap.size ∧ Ext w w4 ∧ Ext w2 w4 ∧ Box w4.heap b2 3 [iv p1] ∧ table_At.l0 p0 p1 n1 it8_1 = some r) k ?_ ?_
  have h5 := (x0.tr x1).tr x2
  ·exact fun a ha => ⟨0, ha.sb, by omega, h5, xc1, h3, H⟩
  intro n1 a w4 hI hp
  obtain ⟨it8_1, hS, hle, x0_1, x_xc1_1, gb2_1, H⟩ := hI
  cases n1 with
  | zero => cases H
  | succ n1 =>
   rw [table_At.l0] at H
   refine CW.go hp hS ?_
   have xt1 : Ext w4 w4 := Upd.refl _ _
   refine CW.seq (CW.lw 1 rfl (pu 1 rfl (RW.done (NW.next ?_))))
   refine CW.seq ?_
   by_cases c1 : it8_1 < (p0.List_.length : Int)
   ·rw [if_pos c1] at H
    refine CW.cond_t rfl (decide_eq_true c1) (CW.skip (NW.next (CW.seq (CW.block ?_))))
    refine CW.seq (CW.lw 2 rfl (pu 2 rfl (RW.done (NW.next ?_))))
    refine CW.seq (CW.lex [.W, .W, .W, .W, .L, .M] rfl (pu 3 rfl ?_))
    obtain ⟨g1, H⟩ := guard_some H
    obtain ⟨ad1, e1, a1⟩ := kEntry_at (h1.ext x0_1) g1.1 g1.2
    refine RW.ix tk g1 e1 ?_
    refine RW.ld tk [iv ((rd p0.List_ it8_1).From), iv ((rd p0.List_ it8_1).Len), iv ((rd p0.List_ it8_1).Dev), iv ((rd p0.List_ it8_1).To), iv ((rd p0.List_ it8_1).Stale)] a1 ?_
    refine RW.callFM (R := fun e w5 => ∃ (bt16_2 : Bool), e = .returned (.bool bt16_2) ∧ w4.heap.size ≤ w5.heap.size ∧ Ext w w5 ∧ Ext w2 w5 ∧ Ext w4 w5 ∧ table_At.j1 it8_1 (table_At.l0 p0 p1 n1) bt16_2 = some r) ent146 ⟨rfl, rfl, rfl, rfl⟩ rfl rfl rfl ?_ ?_
    ·refine calls_start Tryz.func146 rfl 14 rfl [.agg #[iv ((rd p0.List_ it8_1).From), iv ((rd p0.List_ it8_1).Len), iv ((rd p0.List_ it8_1).Dev), iv ((rd p0.List_ it8_1).To), iv ((rd p0.List_ it8_1).Stale)], .pointer (some ⟨b2, 0, none⟩)] rfl ?_
     refine CW.seq (CW.lex [.X, .W] rfl (RW.box (cs := [iv ((rd p0.List_ it8_1).From), iv ((rd p0.List_ it8_1).Len), iv ((rd p0.List_ it8_1).Dev), iv ((rd p0.List_ it8_1).To), iv ((rd p0.List_ it8_1).Stale)]) (.inl rfl) ⟨rfl, rfl, rfl, rfl⟩ rfl rfl rfl ?_))
     intro b3 w6 x3 l3 h6
     have sx3 := x3.size
     have ltb3 := h6.lt
     refine pu 1 rfl (RW.done (NW.next (CW.seq (CW.ord [0, 0, 2, 7, 15, 31, 31, 95, 255, 511, 1023] (ofL [(1, .W), (0, .L), (2, .L), (3, .W), (4, .W), (5, .L), (6, .L), (7, .X), (8, .W), (9, .W), (10, .W)] .nil) mixed (by kernel_rfl) ?_))))
     intro w7 x4
     have sx4 := x4.size
     refine pu 1 rfl ?_
     have h7 := (gb2_1.ext x3).ext x4
     refine RW.ld tk [iv p1] (h7.at 0) ?_
     have h8 := h6.ext x4
     refine RW.lb tk [iv ((rd p0.List_ it8_1).From)] h8 0 ?_
     refine pu 2 rfl ?_
     have j1 := (x0_1.tr x3).tr x4
     have j2 := (x_xc1_1.tr x3).tr x4
     have j3 := (xt1.tr x3).tr x4
     by_cases c2 : ((rd p0.List_ it8_1).From) ≤ p1
     ·rw [if_pos c2] at H
      refine RW.bool 8 (b' := true) (decide_eq_true c2) rfl (RW.ld tk [iv p1] (h7.at 0) ?_)
      refine RW.ld tk [iv ((rd p0.List_ it8_1).From), iv ((rd p0.List_ it8_1).Len), iv ((rd p0.List_ it8_1).Dev), iv ((rd p0.List_ it8_1).To), iv ((rd p0.List_ it8_1).Stale)] (h8.at 0) ?_
      obtain ⟨y1, h9, H⟩ := bind_some H
      refine RW.cl ent97 (table_end.calls (rd p0.List_ it8_1) _ _ h9) ?_
      rintro _ w8 ⟨rfl, x5⟩
      refine ⟨_, rfl, x5, ?_⟩
      have sx5 := x5.size
      refine pu 3 rfl (RW.done (NW.next (CW.ret ?_)))
      have h10 := j1.tr x5
      have h11 := j2.tr x5
      have h12 := j3.tr x5
      exact NW.ret1 rfl (by rfl) ⟨(decide (p1 < y1)), rfl, by omega, h10, h11, h12, H⟩
     rw [if_neg c2] at H
     refine RW.bool 8 (b' := false) (decide_eq_false c2) rfl (pu 6 rfl (RW.done (NW.next (CW.ret ?_))))
     exact NW.ret1 rfl (by rfl) ⟨false, rfl, by omega, j1, j2, j3, H⟩
    rintro _ w5 ⟨bt16_2, rfl, hle, x0_2, x_xc1_2, x_xt1_2, H⟩
    refine ⟨_, rfl, ?_⟩
    unfold table_At.j1 at H
    refine RW.done (NW.next ?_)
    by_cases c3 : bt16_2 = true
    ·rw [if_pos c3] at H
     refine CW.cond_t rfl (c3) (CW.seq (CW.lw 2 rfl (pu 2 rfl (RW.done ?_))))
     refine NW.next (CW.ret ?_)
     refine NW.ret_block (NW.ret_then (NW.ret_then (NW.ret_block (NW.ret_then ?_))))
     exact NW.ret1 rfl (by rfl) ⟨it8_1, rfl, by omega, x0_2, x_xc1_2, H⟩
    rw [if_neg c3] at H
    refine CW.cond_f rfl (bool_f c3) (CW.skip ?_)
    refine NW.norm_block (NW.next ?_)
    refine CW.lw 2 rfl (pu 2 rfl (RW.done ?_))
    exact NW.J fun a ha => ⟨n1, Nat.lt_succ_self n1, (w64 (it8_1 + 1)), ha.sb, by omega, x0_2, x_xc1_2, (gb2_1.ext x_xt1_2), H⟩
   rw [if_neg c1] at H
   refine CW.cond_f rfl (decide_eq_false c1) (CW.exit ?_)
   refine NW.exit_then (NW.exit_then (NW.exit_hit ?_))
   refine NW.next (CW.seq (CW.lw 1 rfl (pu 1 rfl (RW.done ?_))))
   refine NW.next (CW.ret ?_)
   exact NW.ret1 rfl (by rfl) ⟨(-1), rfl, by omega, x0_1, x_xc1_1, H⟩
 rintro _ w3 ⟨it8_0, rfl, hle, x0_0, x_xc1_0, H⟩
 refine ⟨_, rfl, x_xc1_0, ?_⟩
 unfold table_At.j0 at H
 refine pu 1 rfl (RW.done (NW.next (CW.ret ?_)))
 obtain rfl := Option.some.inj H
 exact NW.ret1 rfl (by rfl) ⟨rfl, x0_0⟩
theorem table_Find.calls (k : Nat) (p0 : Table) (A1 : Option Addr) (c_1 : Nat) (p1 : Int) (r : Ptr × Bool) (w : World) (hs1 : Sl kEntry w.heap okAll A1 p0.List_) (hl1 : p0.List_.length ≤ c_1) (H : table_Find.f k p0 p1 = some r) :
    Calls Tryz.prog 89 #[.agg #[iv p0.Dev, iv p0.Size, .slice A1 p0.List_.length c_1], iv p1] w fun e w' => e = .returned (.tuple #[.agg #[iv r.1.Dev, iv r.1.At], .bool r.2]) ∧ Ext w w' := by
 have h1 : Sl kEntry w.heap (okL [(0, some w.heap.size, none)]) A1 p0.List_ := hs1.old _ rfl
 have x0 : Ext w w := Upd.refl _ w
 unfold table_Find.f at H
 refine calls_start Tryz.func89 rfl 29 rfl [.agg #[iv p0.Dev, iv p0.Size, .slice A1 p0.List_.length c_1], iv p1] rfl ?_
 refine CW.seq (CW.lex [.X, .X, .W] rfl (RW.box (cs := [iv p0.Dev, iv p0.Size, .slice A1 p0.List_.length c_1]) (.inl rfl) ⟨rfl, rfl, rfl, rfl⟩ rfl rfl rfl ?_))
 intro b1 w1 x1 l1 h2
 have sx1 := x1.size
 have ltb1 := h2.lt
 refine RW.alloc tk (.inl rfl) ⟨rfl, rfl, rfl, rfl⟩ rfl rfl ?_
 intro b2 w2 x2 l2 h3
 have sx2 := x2.size
 have ltb2 := h3.lt
 refine pu 1 rfl (RW.done (NW.next (CW.seq (CW.lex [.L, .W, .X, .W] rfl ?_))))
 have h4 := h2.ext x2
 refine RW.ld tk [iv p0.Dev, iv p0.Size, .slice A1 p0.List_.length c_1] (h4.at 0) ?_
 refine pu 1 rfl ?_
 have h5 := (h1.ext x1).ext x2
 obtain ⟨y1, h6, H⟩ := bind_some H
 refine RW.cl ent125 (table_At.calls k p0 A1 c_1 p1 _ _ h5.all hl1 h6) ?_
 rintro _ w3 ⟨rfl, x3⟩
 refine ⟨_, rfl, x3, ?_⟩
 have sx3 := x3.size
 refine pu 1 rfl (RW.done (NW.next (CW.seq (CW.seq ?_))))
 refine CW.lw 2 rfl (pu 2 rfl (RW.done (NW.next ?_)))
 have j1 := h3.ext x3
 have j2 := ((x0.tr x1).tr x2).tr x3
 by_cases c1 : y1 < 0
 ·rw [if_pos c1] at H
  refine CW.cond_t rfl (decide_eq_true c1) (CW.seq (CW.lex [.W, .M, .W] rfl (pu 1 rfl (RW.sb tk j1 [iv 0, iv 0] ?_))))
  intro w4 x4 h8
  have h9 : Box w4.heap b2 43 [iv 0, iv 0] := h8
  have sx4 := x4.size
  refine pu 1 rfl (RW.done (NW.next (CW.ret (NW.ret_then ?_))))
  obtain rfl := Option.some.inj H
  have h10 := j2.tB x4
  exact NW.ret2 rfl (resOne_cell tk (h9.at 0) rfl rfl rfl) (by rfl) ⟨rfl, h10⟩
 rw [if_neg c1] at H
 refine CW.cond_f rfl (decide_eq_false c1) (CW.skip (NW.next (CW.seq (CW.lex [.W, .L, .W, .W, .L, .X, .M] rfl ?_))))
 refine pu 1 rfl ?_
 have h11 := h4.ext x3
 refine RW.ld tk [.slice A1 p0.List_.length c_1] (h11.at 2) ?_
 refine pu 1 rfl ?_
 obtain ⟨g1, H⟩ := guard_some H
 have h12 := h5.ext x3
 obtain ⟨ad1, e1, a1⟩ := kEntry_at h12 g1.1 g1.2
 refine RW.ix tk g1 e1 ?_
 refine RW.ld tk [iv ((rd p0.List_ y1).From), iv ((rd p0.List_ y1).Len), iv ((rd p0.List_ y1).Dev), iv ((rd p0.List_ y1).To), iv ((rd p0.List_ y1).Stale)] a1 ?_
 refine RW.alloc tk (.inl rfl) ⟨rfl, rfl, rfl, rfl⟩ rfl rfl ?_
 intro b3 w5 x5 l3 h13
 have sx5 := x5.size
 have ltb3 := h13.lt
 refine RW.sb tk h13 [iv ((rd p0.List_ y1).From), iv ((rd p0.List_ y1).Len), iv ((rd p0.List_ y1).Dev), iv ((rd p0.List_ y1).To), iv ((rd p0.List_ y1).Stale)] ?_
 intro w6 x6 h14
 have h15 : Box w6.heap b3 66 [iv ((rd p0.List_ y1).From), iv ((rd p0.List_ y1).Len), iv ((rd p0.List_ y1).Dev), iv ((rd p0.List_ y1).To), iv ((rd p0.List_ y1).Stale)] := h14
 have sx6 := x6.size
 refine RW.done (NW.next (CW.seq (CW.lex [.W, .L, .W, .L, .W, .W, .W, .L, .W, .W, .M, .W] rfl (pu 1 rfl ?_))))
 refine RW.lb tk [iv ((rd p0.List_ y1).Dev)] h15 2 ?_
 refine pu 1 rfl (RW.lb tk [iv ((rd p0.List_ y1).To)] h15 3 ?_)
 refine pu 3 rfl (RW.lb tk [iv ((rd p0.List_ y1).From)] h15 0 ?_)
 refine pu 2 rfl ?_
 have h16 := (j1.ext x5).tB x6
 refine RW.sb tk h16 [iv ((rd p0.List_ y1).Dev), iv (w64 ((w64 (((rd p0.List_ y1).To) + p1)) - ((rd p0.List_ y1).From)))] ?_
 intro w7 x7 h17
 have h18 : Box w7.heap b2 43 [iv ((rd p0.List_ y1).Dev), iv (w64 ((w64 (((rd p0.List_ y1).To) + p1)) - ((rd p0.List_ y1).From)))] := h17
 have sx7 := x7.size
 refine pu 1 rfl (RW.done (NW.next (CW.ret ?_)))
 obtain rfl := Option.some.inj H
 have h19 := ((j2.tr x5).tB x6).tB x7
 exact NW.ret2 rfl (resOne_cell tk (h18.at 0) rfl rfl rfl) (by rfl) ⟨rfl, h19⟩
end Go.Proofs.YtnaajldlloglkaaGreatDoor.W
