/- Walks; printed by a program of the claim. -/
import Derived.Test.YtnaajldlloglkaaGreatDoorMoveX
set_option linter.unusedVariables false
set_option linter.unusedSimpArgs false
set_option maxHeartbeats 20000000
set_option maxRecDepth 100000
namespace Go.Proofs.YtnaajldlloglkaaGreatDoor.W
open Go.H Go.Proofs
theorem hermitagelaw0_DevicesWeight.calls (k : Nat) (A1 : Option Addr) (c_1 : Nat) (p0 : List Device) (r : Int) (w : World) (hs1 : Sl kDeviceR w.heap okAll A1 p0) (hl1 : p0.length ≤ c_1) (H : hermitagelaw0_DevicesWeight.f k p0 = some r) :
    Calls Tryz.prog 49 #[.slice A1 p0.length c_1] w fun e w' => e = .returned (iv r) ∧ Ext w w' := by
 have h1 : Sl kDeviceR w.heap (okL [(0, some w.heap.size, none)]) A1 p0 := hs1.old _ rfl
 have x0 : Ext w w := Upd.refl _ w
 unfold hermitagelaw0_DevicesWeight.f at H
 refine calls_start Tryz.func49 rfl 33 rfl [.slice A1 p0.length c_1] rfl ?_
 refine CW.seq (CW.lw 1 rfl (pu 1 rfl (RW.done (NW.next ?_))))
 refine CW.seq (CW.lw 3 rfl (pu 3 rfl (RW.done (NW.next ?_))))
 refine CW.seq (CW.seq (CW.lw 1 rfl (pu 1 rfl (RW.done ?_))))
 refine NW.next (CW.block ?_)
 refine CW.loop (fun n1 a w1 => ∃ (it3_0 : Int) (it4_0 : Int), Sat 33 [(0, .slice A1 p0.length c_1), (3, iv it3_0), (4, iv it4_0)] a ∧ w.heap.size ≤ w1.heap.size ∧ Ext w w1 ∧ hermitagelaw0_DevicesWeight.l0 p0 n1 it3_0 it4_0 = some r) k ?_ ?_
 ·exact fun a ha => ⟨(p0.length : Int), 0, ha.sb, by omega, x0, H⟩
 intro n1 a w1 hI hp
 obtain ⟨it3_0, it4_0, hS, hle, x0_0, H⟩ := hI
 cases n1 with
 | zero => cases H
 | succ n1 =>
  rw [hermitagelaw0_DevicesWeight.l0] at H
  refine CW.go hp hS (CW.seq ?_)
  refine CW.seqJ (fun a w2 => ∃ (bt14_1 : Bool), Sat 33 [(0, .slice A1 p0.length c_1), (3, iv it3_0), (4, iv it4_0), (14, .bool bt14_1)] a ∧ w1.heap.size ≤ w2.heap.size ∧ Ext w w2 ∧ hermitagelaw0_DevicesWeight.j0 p0 it3_0 it4_0 (hermitagelaw0_DevicesWeight.l0 p0 n1) bt14_1 = some r) ?_ ?_
  ·refine CW.lw 8 rfl (pu 5 rfl ?_)
   by_cases c1 : it4_0 < (p0.length : Int)
   ·rw [if_pos c1] at H
    refine RW.bool 11 (b' := true) (decide_eq_true c1) rfl (pu 3 rfl (RW.done ?_))
    exact NW.J fun a ha => ⟨(decide (it3_0 < 1048576)), ha.sb, by omega, x0_0, H⟩
   rw [if_neg c1] at H
   refine RW.bool 11 (b' := false) (decide_eq_false c1) rfl (pu 3 rfl (RW.done ?_))
   exact NW.J fun a ha => ⟨false, ha.sb, by omega, x0_0, H⟩
  intro a w2 hJ hp
  obtain ⟨bt14_1, hS, hle, x0_1, H⟩ := hJ
  unfold hermitagelaw0_DevicesWeight.j0 at H
  refine CW.go hp hS ?_
  by_cases c2 : bt14_1 = true
  ·rw [if_pos c2] at H
   refine CW.cond_t rfl (c2) (CW.skip (NW.next (CW.seq (CW.block ?_))))
   refine CW.ord [0, 0, 0, 6, 14, 30, 62, 127, 0, 0, 768, 1792, 3840, 7936, 16383, 32767] (ofL [(0, .W), (1, .W), (2, .W), (3, .W), (4, .W), (8, .W), (9, .W), (10, .W), (11, .W), (5, .L), (6, .W), (7, .W), (12, .L), (13, .W), (14, .W), (15, .W)] .nil) mixed (by kernel_rfl) ?_
   intro w3 x1
   have sx1 := x1.size
   refine pu 3 rfl ?_
   obtain ⟨g1, H⟩ := guard_some H
   have h2 := (h1.ext x0_1).ext x1
   obtain ⟨ad1, A2, c_2, A3, c_3, e1, a1, l1, h3, l2, h4⟩ := kDeviceR_at h2 g1.1 g1.2
   refine RW.ix tk g1 e1 ?_
   refine pu 3 rfl ?_
   obtain ⟨g2, H⟩ := guard_some H
   obtain ⟨ad2, A4, c_4, A5, c_5, e2, a2, l3, h5, l4, h6⟩ := kDeviceR_at h2 g2.1 g2.2
   refine RW.ix tk g2 e2 ?_
   refine pu 1 rfl (RW.ld tk [.slice A2 ((rd p0 it4_0).Free).length c_2] ((a1.fld 2).take 1 rfl) ?_)
   refine pu 2 rfl (RW.ld tk [.slice A5 ((rd p0 it4_0).Late).length c_5] (a2.fld 3) ?_)
   refine pu 3 rfl (RW.done ?_)
   refine NW.norm_block (NW.next ?_)
   refine CW.lw 3 rfl (pu 3 rfl (RW.done ?_))
   have h7 := x0_1.tr x1
   exact NW.J fun a ha => ⟨n1, Nat.lt_succ_self n1, (w64 ((w64 (it3_0 + (((rd p0 it4_0).Free).length : Int))) + (((rd p0 it4_0).Late).length : Int))), (w64 (it4_0 + 1)), ha.sb, by omega, h7, H⟩
  rw [if_neg c2] at H
  refine CW.cond_f rfl (bool_f c2) (CW.exit ?_)
  refine NW.exit_then (NW.exit_then (NW.exit_hit ?_))
  refine NW.next (CW.seq (CW.lw 2 rfl (pu 2 rfl (RW.done ?_))))
  refine NW.next (CW.ret ?_)
  obtain rfl := Option.some.inj H
  exact NW.ret1 rfl (by rfl) ⟨rfl, x0_1⟩
theorem hermitagelaw0_PoolWeight.calls (k : Nat) (p0 : Pool) (A1 : Option Addr) (c_1 : Nat) (A2 : Option Addr) (c_2 : Nat) (A3 : Option Addr) (c_3 : Nat) (r : Int) (w : World) (hs1 : Sl kDeviceR w.heap okAll A1 p0.Devices) (hl1 : p0.Devices.length ≤ c_1) (hs2 : Sl kTableR w.heap okAll A2 p0.Tables) (hl2 : p0.Tables.length ≤ c_2) (hs3 : Sl kEntry w.heap okAll A3 p0.Job.Table.List_) (hl3 : p0.Job.Table.List_.length ≤ c_3) (H : hermitagelaw0_PoolWeight.f k p0 = some r) :
    Calls Tryz.prog 19 #[.agg #[.slice A1 p0.Devices.length c_1, .slice A2 p0.Tables.length c_2, iv p0.Job.Dev, iv p0.Job.At, iv p0.Job.Table.Dev, iv p0.Job.Table.Size, .slice A3 p0.Job.Table.List_.length c_3, iv p0.Next]] w fun e w' => e = .returned (iv r) ∧ Ext w w' := by
 have h1 : Sl kDeviceR w.heap (okL [(0, some w.heap.size, none)]) A1 p0.Devices := hs1.old _ rfl
 have h2 : Sl kTableR w.heap (okL [(0, some w.heap.size, none)]) A2 p0.Tables := hs2.old _ rfl
 have h3 : Sl kEntry w.heap (okL [(0, some w.heap.size, none)]) A3 p0.Job.Table.List_ := hs3.old _ rfl
 have x0 : Ext w w := Upd.refl _ w
 unfold hermitagelaw0_PoolWeight.f at H
 refine calls_start Tryz.func19 rfl 39 rfl [.agg #[.slice A1 p0.Devices.length c_1, .slice A2 p0.Tables.length c_2, iv p0.Job.Dev, iv p0.Job.At, iv p0.Job.Table.Dev, iv p0.Job.Table.Size, .slice A3 p0.Job.Table.List_.length c_3, iv p0.Next]] rfl ?_
 refine CW.seq (CW.lex [.X, .W] rfl (RW.box (cs := [.slice A1 p0.Devices.length c_1, .slice A2 p0.Tables.length c_2, iv p0.Job.Dev, iv p0.Job.At, iv p0.Job.Table.Dev, iv p0.Job.Table.Size, .slice A3 p0.Job.Table.List_.length c_3, iv p0.Next]) (.inl rfl) ⟨rfl, rfl, rfl, rfl⟩ rfl rfl rfl ?_))
 intro b1 w1 x1 l1 h4
 have sx1 := x1.size
 have ltb1 := h4.lt
 refine pu 1 rfl (RW.done (NW.next (CW.seq (CW.ord [0, 1, 3, 0, 8, 24, 63, 0, 128, 384, 896, 1920, 4095, 8191] (ofL [(0, .W), (3, .W), (7, .W), (8, .W), (9, .W), (1, .L), (4, .L), (5, .W), (10, .L), (11, .W), (2, .X), (6, .W), (12, .W), (13, .W)] .nil) mixed (by kernel_rfl) ?_))))
 intro w2 x2
 have sx2 := x2.size
 refine pu 5 rfl ?_
 have h5 := h4.ext x2
 refine RW.lb tk [.slice A1 p0.Devices.length c_1] h5 0 ?_
 refine RW.lb tk [.slice A2 p0.Tables.length c_2] h5 1 ?_
 refine pu 1 rfl (RW.lb tk [.slice A3 p0.Job.Table.List_.length c_3] h5 6 ?_)
 refine pu 1 rfl ?_
 have h6 := (h1.ext x1).ext x2
 obtain ⟨y1, h7, H⟩ := bind_some H
 refine RW.cl ent49 (hermitagelaw0_DevicesWeight.calls k A1 c_1 p0.Devices _ _ h6.all hl1 h7) ?_
 rintro _ w3 ⟨rfl, x3⟩
 refine ⟨_, rfl, x3, ?_⟩
 have sx3 := x3.size
 refine pu 3 rfl (RW.done (NW.next (CW.seq (CW.seq ?_))))
 refine CW.lw 1 rfl (pu 1 rfl (RW.done (NW.next (CW.block ?_))))
 refine CW.loop (fun n1 a w4 => ∃ (it3_0 : Int) (it4_0 : Int), Sat 39 [(1, .pointer (some ⟨b1, 0, none⟩)), (3, iv it3_0), (4, iv it4_0)] a ∧ w3.heap.size ≤ w4.heap.size ∧ Ext w w4 ∧ Box w4.heap b1 30 [.slice A1 p0.Devices.length c_1, .slice A2 p0.Tables.length c_2, iv p0.Job.Dev, iv p0.Job.At, iv p0.Job.Table.Dev, iv p0.Job.Table.Size, .slice A3 p0.Job.Table.List_.length c_3, iv p0.Next] ∧ hermitagelaw0_PoolWeight.l0 p0 n1 it3_0 it4_0 = some r) k ?_ ?_
 have h8 := ((x0.tr x1).tr x2).tr x3
 have h9 := h5.ext x3
 ·exact fun a ha => ⟨(w64 ((w64 (y1 + (p0.Tables.length : Int))) + (p0.Job.Table.List_.length : Int))), 0, ha.sb, by omega, h8, h9, H⟩
 intro n1 a w4 hI hp
 obtain ⟨it3_0, it4_0, hS, hle, x0_0, gb1_0, H⟩ := hI
 cases n1 with
 | zero => cases H
 | succ n1 =>
  rw [hermitagelaw0_PoolWeight.l0] at H
  refine CW.go hp hS ?_
  have xt1 : Ext w4 w4 := Upd.refl _ _
  refine CW.seq ?_
  refine CW.seqJ (fun a w5 => ∃ (bt26_1 : Bool), Sat 39 [(1, .pointer (some ⟨b1, 0, none⟩)), (3, iv it3_0), (4, iv it4_0), (26, .bool bt26_1)] a ∧ w4.heap.size ≤ w5.heap.size ∧ Ext w w5 ∧ Ext w4 w5 ∧ hermitagelaw0_PoolWeight.j0 p0 it3_0 it4_0 (hermitagelaw0_PoolWeight.l0 p0 n1) bt26_1 = some r) ?_ ?_
  ·refine CW.lex [.W, .W, .L, .W, .W, .W, .W, .W, .W] rfl (pu 2 rfl (RW.lb tk [.slice A2 p0.Tables.length c_2] gb1_0 1 ?_))
   refine pu 3 rfl ?_
   by_cases c1 : it4_0 < (p0.Tables.length : Int)
   ·rw [if_pos c1] at H
    refine RW.bool 23 (b' := true) (decide_eq_true c1) rfl (pu 3 rfl (RW.done ?_))
    exact NW.J fun a ha => ⟨(decide (it3_0 < 1048576)), ha.sb, by omega, x0_0, xt1, H⟩
   rw [if_neg c1] at H
   refine RW.bool 23 (b' := false) (decide_eq_false c1) rfl (pu 3 rfl (RW.done ?_))
   exact NW.J fun a ha => ⟨false, ha.sb, by omega, x0_0, xt1, H⟩
  intro a w5 hJ hp
  obtain ⟨bt26_1, hS, hle, x0_1, x_xt1_1, H⟩ := hJ
  unfold hermitagelaw0_PoolWeight.j0 at H
  refine CW.go hp hS ?_
  by_cases c2 : bt26_1 = true
  ·rw [if_pos c2] at H
   refine CW.cond_t rfl (c2) (CW.skip (NW.next (CW.seq (CW.block ?_))))
   refine CW.lex [.W, .W, .L, .W, .W, .W, .L, .W, .W, .W] rfl (pu 2 rfl (RW.lb tk [.slice A2 p0.Tables.length c_2] (gb1_0.ext x_xt1_1) 1 ?_))
   refine pu 1 rfl ?_
   obtain ⟨g1, H⟩ := guard_some H
   obtain ⟨ad1, A4, c_4, e1, a1, l2, h10⟩ := kTableR_at (h2.ext x0_1) g1.1 g1.2
   refine RW.ix tk g1 e1 ?_
   refine pu 1 rfl (RW.ld tk [.slice A4 ((rd p0.Tables it4_0).List_).length c_4] (a1.fld 2) ?_)
   refine pu 3 rfl (RW.done ?_)
   refine NW.norm_block (NW.next ?_)
   refine CW.lw 3 rfl (pu 3 rfl (RW.done ?_))
   exact NW.J fun a ha => ⟨n1, Nat.lt_succ_self n1, (w64 (it3_0 + (((rd p0.Tables it4_0).List_).length : Int))), (w64 (it4_0 + 1)), ha.sb, by omega, x0_1, (gb1_0.ext x_xt1_1), H⟩
  rw [if_neg c2] at H
  refine CW.cond_f rfl (bool_f c2) (CW.exit ?_)
  refine NW.exit_then (NW.exit_then (NW.exit_hit ?_))
  refine NW.next (CW.seq (CW.lw 2 rfl (pu 2 rfl (RW.done ?_))))
  refine NW.next (CW.ret ?_)
  obtain rfl := Option.some.inj H
  exact NW.ret1 rfl (by rfl) ⟨rfl, x0_1⟩
theorem hermitagelaw10_Heavy.calls (k : Nat) (p0 : Script) (A1 : Option Addr) (c_1 : Nat) (A2 : Option Addr) (c_2 : Nat) (A3 : Option Addr) (c_3 : Nat) (A4 : Option Addr) (c_4 : Nat) (r : Bool) (w : World) (hs1 : Sl kDeviceR w.heap okAll A1 p0.P.Devices) (hl1 : p0.P.Devices.length ≤ c_1) (hs2 : Sl kTableR w.heap okAll A2 p0.P.Tables) (hl2 : p0.P.Tables.length ≤ c_2) (hs3 : Sl kEntry w.heap okAll A3 p0.P.Job.Table.List_) (hl3 : p0.P.Job.Table.List_.length ≤ c_3) (hs4 : Sl kActR w.heap okAll A4 p0.A) (hl4 : p0.A.length ≤ c_4) (H : hermitagelaw10_Heavy.f k p0 = some r) :
    Calls Tryz.prog 7 #[.agg #[.slice A1 p0.P.Devices.length c_1, .slice A2 p0.P.Tables.length c_2, iv p0.P.Job.Dev, iv p0.P.Job.At, iv p0.P.Job.Table.Dev, iv p0.P.Job.Table.Size, .slice A3 p0.P.Job.Table.List_.length c_3, iv p0.P.Next, .slice A4 p0.A.length c_4]] w fun e w' => e = .returned (.bool r) ∧ Ext w w' := by
 have h1 : Sl kDeviceR w.heap (okL [(0, some w.heap.size, none)]) A1 p0.P.Devices := hs1.old _ rfl
 have h2 : Sl kTableR w.heap (okL [(0, some w.heap.size, none)]) A2 p0.P.Tables := hs2.old _ rfl
 have h3 : Sl kEntry w.heap (okL [(0, some w.heap.size, none)]) A3 p0.P.Job.Table.List_ := hs3.old _ rfl
 have h4 : Sl kActR w.heap (okL [(0, some w.heap.size, none)]) A4 p0.A := hs4.old _ rfl
 have x0 : Ext w w := Upd.refl _ w
 unfold hermitagelaw10_Heavy.f at H
 refine calls_start Tryz.func7 rfl 34 rfl [.agg #[.slice A1 p0.P.Devices.length c_1, .slice A2 p0.P.Tables.length c_2, iv p0.P.Job.Dev, iv p0.P.Job.At, iv p0.P.Job.Table.Dev, iv p0.P.Job.Table.Size, .slice A3 p0.P.Job.Table.List_.length c_3, iv p0.P.Next, .slice A4 p0.A.length c_4]] rfl ?_
 refine CW.seq (CW.lex [.X, .W] rfl (RW.box (cs := [.slice A1 p0.P.Devices.length c_1, .slice A2 p0.P.Tables.length c_2, iv p0.P.Job.Dev, iv p0.P.Job.At, iv p0.P.Job.Table.Dev, iv p0.P.Job.Table.Size, .slice A3 p0.P.Job.Table.List_.length c_3, iv p0.P.Next, .slice A4 p0.A.length c_4]) (.inl rfl) ⟨rfl, rfl, rfl, rfl⟩ rfl rfl rfl ?_))
 intro b1 w1 x1 l1 h5
 have sx1 := x1.size
 have ltb1 := h5.lt
 refine pu 1 rfl (RW.done (NW.next (CW.seq (CW.ord [0, 1, 3, 0, 8, 24, 63, 127] (ofL [(0, .W), (3, .W), (1, .L), (4, .L), (5, .W), (2, .X), (6, .W), (7, .W)] .nil) mixed (by kernel_rfl) ?_))))
 intro w2 x2
 have sx2 := x2.size
 refine pu 2 rfl ?_
 have h6 := h5.ext x2
 refine RW.lb tk [.slice A1 p0.P.Devices.length c_1, .slice A2 p0.P.Tables.length c_2, iv p0.P.Job.Dev, iv p0.P.Job.At, iv p0.P.Job.Table.Dev, iv p0.P.Job.Table.Size, .slice A3 p0.P.Job.Table.List_.length c_3, iv p0.P.Next] h6 0 ?_
 refine RW.ld tk [.slice A4 p0.A.length c_4] (h6.at 8) ?_
 refine pu 1 rfl ?_
 have h7 := (h1.ext x1).ext x2
 have h8 := (h2.ext x1).ext x2
 have h9 := (h3.ext x1).ext x2
 obtain ⟨y1, h10, H⟩ := bind_some H
 refine RW.cl ent19 (hermitagelaw0_PoolWeight.calls k p0.P A1 c_1 A2 c_2 A3 c_3 _ _ h7.all hl1 h8.all hl2 h9.all hl3 h10) ?_
 rintro _ w3 ⟨rfl, x3⟩
 refine ⟨_, rfl, x3, ?_⟩
 have sx3 := x3.size
 refine pu 2 rfl (RW.done (NW.next (CW.seq (CW.seq ?_))))
 refine CW.lw 1 rfl (pu 1 rfl (RW.done (NW.next (CW.block ?_))))
 refine CW.loop (fun n1 a w4 => ∃ (it3_0 : Int) (it4_0 : Int), Sat 34 [(1, .pointer (some ⟨b1, 0, none⟩)), (3, iv it3_0), (4, iv it4_0)] a ∧ w3.heap.size ≤ w4.heap.size ∧ Ext w w4 ∧ Box w4.heap b1 33 [.slice A1 p0.P.Devices.length c_1, .slice A2 p0.P.Tables.length c_2, iv p0.P.Job.Dev, iv p0.P.Job.At, iv p0.P.Job.Table.Dev, iv p0.P.Job.Table.Size, .slice A3 p0.P.Job.Table.List_.length c_3, iv p0.P.Next, .slice A4 p0.A.length c_4] ∧ hermitagelaw10_Heavy.l0 p0 n1 it3_0 it4_0 = some r) k ?_ ?_
 have h11 := ((x0.tr x1).tr x2).tr x3
 have h12 := h6.ext x3
 ·exact fun a ha => ⟨(w64 (y1 + (p0.A.length : Int))), 0, ha.sb, by omega, h11, h12, H⟩
 intro n1 a w4 hI hp
 obtain ⟨it3_0, it4_0, hS, hle, x0_0, gb1_0, H⟩ := hI
 cases n1 with
 | zero => cases H
 | succ n1 =>
  rw [hermitagelaw10_Heavy.l0] at H
  refine CW.go hp hS ?_
  have xt1 : Ext w4 w4 := Upd.refl _ _
  refine CW.seq ?_
  refine CW.seqJ (fun a w5 => ∃ (bt20_1 : Bool), Sat 34 [(1, .pointer (some ⟨b1, 0, none⟩)), (3, iv it3_0), (4, iv it4_0), (20, .bool bt20_1)] a ∧ w4.heap.size ≤ w5.heap.size ∧ Ext w w5 ∧ Ext w4 w5 ∧ hermitagelaw10_Heavy.j0 p0 it3_0 it4_0 (hermitagelaw10_Heavy.l0 p0 n1) bt20_1 = some r) ?_ ?_
  ·refine CW.lex [.W, .W, .L, .W, .W, .W, .W, .W, .W] rfl (pu 2 rfl (RW.ld tk [.slice A4 p0.A.length c_4] (gb1_0.at 8) ?_))
   refine pu 3 rfl ?_
   by_cases c1 : it4_0 < (p0.A.length : Int)
   ·rw [if_pos c1] at H
    refine RW.bool 17 (b' := true) (decide_eq_true c1) rfl (pu 3 rfl (RW.done ?_))
    exact NW.J fun a ha => ⟨(decide (it3_0 < 1048576)), ha.sb, by omega, x0_0, xt1, H⟩
   rw [if_neg c1] at H
   refine RW.bool 17 (b' := false) (decide_eq_false c1) rfl (pu 3 rfl (RW.done ?_))
   exact NW.J fun a ha => ⟨false, ha.sb, by omega, x0_0, xt1, H⟩
  intro a w5 hJ hp
  obtain ⟨bt20_1, hS, hle, x0_1, x_xt1_1, H⟩ := hJ
  unfold hermitagelaw10_Heavy.j0 at H
  refine CW.go hp hS ?_
  by_cases c2 : bt20_1 = true
  ·rw [if_pos c2] at H
   refine CW.cond_t rfl (c2) (CW.skip (NW.next (CW.seq (CW.block ?_))))
   refine CW.lex [.W, .W, .L, .W, .W, .W, .L, .W, .W, .W] rfl (pu 2 rfl (RW.ld tk [.slice A4 p0.A.length c_4] ((gb1_0.ext x_xt1_1).at 8) ?_))
   refine pu 1 rfl ?_
   obtain ⟨g1, H⟩ := guard_some H
   obtain ⟨ad1, A5, c_5, e1, a1, l2, h13⟩ := kActR_at (h4.ext x0_1) g1.1 g1.2
   refine RW.ix tk g1 e1 ?_
   refine pu 1 rfl (RW.ld tk [.slice A5 ((rd p0.A it4_0).Q).length c_5] (a1.fld 2) ?_)
   refine pu 3 rfl (RW.done ?_)
   refine NW.norm_block (NW.next ?_)
   refine CW.lw 3 rfl (pu 3 rfl (RW.done ?_))
   exact NW.J fun a ha => ⟨n1, Nat.lt_succ_self n1, (w64 (it3_0 + (((rd p0.A it4_0).Q).length : Int))), (w64 (it4_0 + 1)), ha.sb, by omega, x0_1, (gb1_0.ext x_xt1_1), H⟩
  rw [if_neg c2] at H
  refine CW.cond_f rfl (bool_f c2) (CW.exit ?_)
  refine NW.exit_then (NW.exit_then (NW.exit_hit ?_))
  refine NW.next (CW.seq (CW.lw 3 rfl (pu 3 rfl (RW.done ?_))))
  refine NW.next (CW.ret ?_)
  obtain rfl := Option.some.inj H
  exact NW.ret1 rfl (by rfl) ⟨rfl, x0_1⟩
theorem hermitageref0_Between.calls (p0 : Int) (p1 : Int) (p2 : Int) (r : Bool) (w : World) (H : hermitageref0_Between.f p0 p1 p2 = some r) :
    Calls Tryz.prog 21 #[iv p0, iv p1, iv p2] w fun e w' => e = .returned (.bool r) ∧ Ext w w' := by
 have x0 : Ext w w := Upd.refl _ w
 unfold hermitageref0_Between.f at H
 refine calls_start Tryz.func21 rfl 15 rfl [iv p0, iv p1, iv p2] rfl ?_
 refine CW.seq (CW.lw 1 rfl (pu 1 rfl (RW.done (NW.next ?_))))
 refine CW.seq (CW.lw 9 rfl (pu 4 rfl ?_))
 by_cases c1 : p1 ≤ p0
 ·rw [if_pos c1] at H
  refine RW.bool 10 (b' := true) (decide_eq_true c1) rfl (pu 5 rfl (RW.done (NW.next (CW.ret ?_))))
  obtain rfl := Option.some.inj H
  exact NW.ret1 rfl (by rfl) ⟨rfl, x0⟩
 rw [if_neg c1] at H
 refine RW.bool 10 (b' := false) (decide_eq_false c1) rfl (pu 5 rfl (RW.done (NW.next (CW.ret ?_))))
 obtain rfl := Option.some.inj H
 exact NW.ret1 rfl (by rfl) ⟨rfl, x0⟩
theorem hermitageref1_Set.calls (k : Nat) (A1 : Option Addr) (c_1 : Nat) (p0 : List Seg) (r : (Nat → Bool)) (w : World) (hs1 : Sl kSeg w.heap okAll A1 p0) (hl1 : p0.length ≤ c_1) (H : hermitageref1_Set.f k p0 = some r) :
    Calls Tryz.prog 28 #[.slice A1 p0.length c_1] w fun e w' => e = .returned (.agg (arrB 64 r).toArray) ∧ Ext w w' := by
 have h1 : Sl kSeg w.heap (okL [(0, some w.heap.size, none)]) A1 p0 := hs1.old _ rfl
 have x0 : Ext w w := Upd.refl _ w
 unfold hermitageref1_Set.f at H
 refine calls_start Tryz.func28 rfl 35 rfl [.slice A1 p0.length c_1] rfl ?_
 refine CW.seq (CW.lex [.X] rfl (RW.alloc tk (.inl rfl) ⟨rfl, rfl, rfl, rfl⟩ rfl rfl ?_))
 intro b1 w1 x1 l1 h2
 have sx1 := x1.size
 have ltb1 := h2.lt
 refine RW.done (NW.next (CW.seq (CW.lex [.X] rfl (RW.alloc tk (.inl rfl) ⟨rfl, rfl, rfl, rfl⟩ rfl rfl ?_))))
 intro b2 w2 x2 l2 h3
 have sx2 := x2.size
 have ltb2 := h3.lt
 refine RW.done (NW.next (CW.seq (CW.seq (CW.lw 1 rfl ?_))))
 refine pu 1 rfl (RW.done (NW.next (CW.block ?_)))
 refine CW.loop (fun n1 a w3 => ∃ (it4_0 : Int) (ab2_0_0 : Nat → Bool), Sat 35 [(0, .slice A1 p0.length c_1), (2, .pointer (some ⟨b1, 0, none⟩)), (3, .pointer (some ⟨b2, 0, none⟩)), (4, iv it4_0)] a ∧ w2.heap.size ≤ w3.heap.size ∧ Ext w w3 ∧ Box w3.heap b1 69 (arrB 64 (fun _ => false)) ∧ Box w3.heap b2 69 (arrB 64 ab2_0_0) ∧ hermitageref1_Set.l0 p0 k n1 it4_0 ab2_0_0 = some r) k ?_ ?_
 have h4 := (x0.tr x1).tr x2
 have h5 := h2.ext x2
 ·exact fun a ha => ⟨0, (fun _ => false), ha.sb, by omega, h4, h5, h3, H⟩
 intro n1 a w3 hI hp
 obtain ⟨it4_0, ab2_0_0, hS, hle, x0_0, gb1_0, gb2_0, H⟩ := hI
 cases n1 with
 | zero => cases H
 | succ n1 =>
  rw [hermitageref1_Set.l0] at H
  refine CW.go hp hS ?_
  have xt1 : Ext w3 w3 := Upd.refl _ _
  refine CW.seq (CW.seq (CW.lw 4 rfl (pu 4 rfl (RW.done ?_))))
  refine NW.next ?_
  by_cases c1 : it4_0 < (p0.length : Int)
  ·rw [if_pos c1] at H
   refine CW.cond_t rfl (decide_eq_true c1) (CW.skip (NW.next (CW.seq (CW.block ?_))))
   refine CW.seq (CW.lex [.W, .W, .W, .W, .L, .W] rfl (pu 2 rfl ?_))
   obtain ⟨g1, H⟩ := guard_some H
   obtain ⟨ad1, e1, a1⟩ := kSeg_at (h1.ext x0_0) g1.1 g1.2
   refine RW.ix tk g1 e1 ?_
   refine pu 1 rfl (RW.ld tk [iv ((rd p0 it4_0).At)] ((a1.fld 0).take 1 rfl) ?_)
   refine pu 1 rfl (RW.done (NW.next (CW.block ?_)))
   refine CW.loop (fun n2 a w4 => ∃ (it5_1 : Int) (ab2_0_1 : Nat → Bool), Sat 35 [(0, .slice A1 p0.length c_1), (2, .pointer (some ⟨b1, 0, none⟩)), (3, .pointer (some ⟨b2, 0, none⟩)), (4, iv it4_0), (5, iv it5_1)] a ∧ w3.heap.size ≤ w4.heap.size ∧ Ext w w4 ∧ Box w4.heap b1 69 (arrB 64 (fun _ => false)) ∧ Box w4.heap b2 69 (arrB 64 ab2_0_1) ∧ hermitageref1_Set.l1 p0 it4_0 (hermitageref1_Set.l0 p0 k n1) n2 it5_1 ab2_0_1 = some r) k ?_ ?_
   ·exact fun a ha => ⟨((rd p0 it4_0).At), ab2_0_0, ha.sb, by omega, x0_0, gb1_0, gb2_0, H⟩
   intro n2 a w4 hI hp
   obtain ⟨it5_1, ab2_0_1, hS, hle, x0_1, gb1_1, gb2_1, H⟩ := hI
   cases n2 with
   | zero => cases H
   | succ n2 =>
    rw [hermitageref1_Set.l1] at H
    refine CW.go hp hS ?_
    have xt2 : Ext w4 w4 := Upd.refl _ _
    refine CW.seq (CW.seq (CW.ord [0, 0, 0, 6, 14, 30, 0, 0, 192, 448, 960, 2046, 4095] (ofL [(0, .W), (1, .W), (2, .W), (3, .W), (4, .W), (6, .W), (7, .W), (8, .W), (9, .W), (5, .L), (10, .L), (11, .W), (12, .W)] .nil) mixed (by kernel_rfl) ?_))
    intro w5 x3
    have sx3 := x3.size
    refine pu 3 rfl ?_
    obtain ⟨g2, H⟩ := guard_some H
    have h6 := (h1.ext x0_1).ext x3
    obtain ⟨ad2, e2, a2⟩ := kSeg_at h6 g2.1 g2.2
    refine RW.ix tk g2 e2 ?_
    refine pu 3 rfl ?_
    obtain ⟨g3, H⟩ := guard_some H
    obtain ⟨ad3, e3, a3⟩ := kSeg_at h6 g3.1 g3.2
    refine RW.ix tk g3 e3 ?_
    refine pu 1 rfl (RW.ld tk [iv ((rd p0 it4_0).At)] ((a2.fld 0).take 1 rfl) ?_)
    refine RW.ld tk [iv ((rd p0 it4_0).Len)] (a3.fld 1) ?_
    refine pu 2 rfl (RW.done (NW.next ?_))
    have j1 := gb2_1.ext x3
    have j2 := x0_1.tr x3
    have j3 := gb1_1.ext x3
    by_cases c2 : it5_1 < (w64 (((rd p0 it4_0).At) + ((rd p0 it4_0).Len)))
    ·rw [if_pos c2] at H
     refine CW.cond_t rfl (decide_eq_true c2) (CW.skip (NW.next (CW.seq (CW.block ?_))))
     refine CW.lex [.W, .W, .M] rfl (pu 1 rfl ?_)
     obtain ⟨g4, H⟩ := guard_some H
     refine RW.indexBox tk g4.1 g4.2 ⟨rfl, rfl, rfl, rfl⟩ rfl rfl rfl rfl rfl rfl rfl (RW.storeBox tk j1 [.bool true] ⟨rfl, rfl, rfl⟩ rfl rfl rfl rfl rfl rfl rfl (arrF_fit (by have := g4; omega)) ?_)
     intro w6 x4 h8
     have h9 : Box w6.heap b2 69 (arrB 64 (updF ab2_0_1 it5_1.toNat true)) := by rw [lay_arrF] at h8; exact h8
     have sx4 := x4.size
     refine RW.done ?_
     refine NW.norm_block (NW.next ?_)
     refine CW.lw 3 rfl (pu 3 rfl (RW.done ?_))
     have h10 := j2.tB x4
     have h11 := j3.tB x4
     exact NW.J fun a ha => ⟨n2, Nat.lt_succ_self n2, (w64 (it5_1 + 1)), (updF ab2_0_1 it5_1.toNat true), ha.sb, by omega, h10, h11, h9, H⟩
    rw [if_neg c2] at H
    refine CW.cond_f rfl (decide_eq_false c2) (CW.exit ?_)
    refine NW.exit_then (NW.exit_then (NW.exit_hit ?_))
    refine NW.norm_block (NW.next ?_)
    refine CW.lw 3 rfl (pu 3 rfl (RW.done ?_))
    exact NW.J fun a ha => ⟨n1, Nat.lt_succ_self n1, (w64 (it4_0 + 1)), ab2_0_1, ha.sb, by omega, j2, j3, j1, H⟩
  rw [if_neg c1] at H
  refine CW.cond_f rfl (decide_eq_false c1) (CW.exit ?_)
  refine NW.exit_then (NW.exit_then (NW.exit_hit ?_))
  refine NW.next (CW.seq (CW.lex [.L, .M] rfl (RW.load tk (arrB 64 ab2_0_0) (gb2_0.at 0) ⟨rfl, rfl, rfl, rfl⟩ rfl rfl rfl arrF_len ?_)))
  refine RW.storeBox tk gb1_0 (arrB 64 ab2_0_0) ⟨rfl, rfl, rfl⟩ rfl rfl rfl rfl rfl arrF_len (arrF_all fun _ => rfl) (arrF_fitAll arrF_len) ?_
  intro w7 x5 h15
  have h16 : Box w7.heap b1 69 (arrB 64 ab2_0_0) := by rw [lay_arrFull] at h15; exact h15
  have sx5 := x5.size
  refine RW.done (NW.next (CW.ret ?_))
  obtain rfl := Option.some.inj H
  have h17 := x0_0.tB x5
  exact NW.ret1 rfl (resOne_cell tk (h16.at 0) rfl rfl arrF_len) ⟨rfl, h17⟩
theorem hermitageref1_Of.calls (k : Nat) (p0 : Nat → Bool) (r : (List Seg)) (w : World) (H : hermitageref1_Of.f k p0 = some r) :
    Calls Tryz.prog 94 #[.agg (arrB 64 p0).toArray] w fun e w' => ∃ (B1 : Option Addr) (d1 : Nat), e = .returned (.slice B1 r.length d1) ∧ Ext w w' ∧ Ow kSeg 105 w'.heap (okL [(w.heap.size, none, some 105)]) (okL []) B1 d1 r := by
 have x0 : Ext w w := Upd.refl _ w
 unfold hermitageref1_Of.f at H
 refine calls_start Tryz.func94 rfl 51 rfl [.agg (arrB 64 p0).toArray] rfl ?_
 refine CW.seq (CW.lex [.X, .W] rfl (RW.box (cs := (arrB 64 p0)) (.inl rfl) ⟨rfl, rfl, rfl, rfl⟩ rfl rfl rfl ?_))
 intro b1 w1 x1 l1 h1
 have sx1 := x1.size
 have ltb1 := h1.lt
 refine pu 1 rfl (RW.done (NW.next (CW.seq (CW.lw 1 rfl ?_))))
 refine pu 1 rfl (RW.done (NW.next (CW.seq (CW.seq ?_))))
 refine CW.lw 1 rfl (pu 1 rfl (RW.done (NW.next (CW.block ?_))))
 refine CW.loop (fun n1 a w2 => ∃ (lt3_0 : List Seg) (At3_0 : Option Addr) (ct3_0 : Nat) (it4_0 : Int), Sat 51 [(1, .pointer (some ⟨b1, 0, none⟩)), (3, .slice At3_0 lt3_0.length ct3_0), (4, iv it4_0)] a ∧ w1.heap.size ≤ w2.heap.size ∧ Ow kSeg 105 w2.heap (okL [(w1.heap.size, none, some 105)]) (okL []) At3_0 ct3_0 lt3_0 ∧ Ext w w2 ∧ Box w2.heap b1 69 (arrB 64 p0) ∧ hermitageref1_Of.l0 p0 n1 lt3_0 it4_0 = some r) k ?_ ?_
 have h2 := x0.tr x1
 ·exact fun a ha => ⟨([] : List Seg), none, 0, 0, ha.sb, by omega, Ow.nil, h2, h1, H⟩
 intro n1 a w2 hI hp
 obtain ⟨lt3_0, At3_0, ct3_0, it4_0, hS, hle, ft3_0, x0_0, gb1_0, H⟩ := hI
 cases n1 with
 | zero => cases H
 | succ n1 =>
  rw [hermitageref1_Of.l0] at H
  refine CW.go hp hS ?_
  have h3 : Ow kSeg 105 w2.heap (okL [(w1.heap.size, some w2.heap.size, some 105)]) (okL []) At3_0 ct3_0 lt3_0 := ft3_0.close
  have xt1 : Ext w2 w2 := Upd.refl _ _
  refine CW.seq (CW.seq (CW.lw 2 rfl (pu 2 rfl (RW.done ?_))))
  refine NW.next ?_
  by_cases c1 : it4_0 < 64
  ·rw [if_pos c1] at H
   refine CW.cond_t rfl (decide_eq_true c1) (CW.skip (NW.next ?_))
   refine CW.seqJ (fun a w3 => ∃ (lt3_1 : List Seg) (At3_1 : Option Addr) (ct3_1 : Nat), Sat 51 [(1, .pointer (some ⟨b1, 0, none⟩)), (3, .slice At3_1 lt3_1.length ct3_1), (4, iv it4_0)] a ∧ w2.heap.size ≤ w3.heap.size ∧ Ow kSeg 105 w3.heap (okL [(w1.heap.size, none, some 105)]) (okL []) At3_1 ct3_1 lt3_1 ∧ Ext w w3 ∧ Box w3.heap b1 69 (arrB 64 p0) ∧ hermitageref1_Of.j0 it4_0 (hermitageref1_Of.l0 p0 n1) lt3_1 = some r) ?_ ?_
   ·refine CW.block (CW.seq (CW.seq (CW.lex [.W, .W, .L, .W] rfl (pu 1 rfl ?_))))
    obtain ⟨g1, H⟩ := guard_some H
    refine RW.indexBox tk g1.1 g1.2 ⟨rfl, rfl, rfl, rfl⟩ rfl rfl rfl rfl rfl rfl rfl (RW.ld tk [.bool (p0 it4_0.toNat)] (gb1_0.elF (by have := g1; omega)) ?_)
    refine pu 1 rfl (RW.done (NW.next ?_))
    by_cases c2 : (p0 it4_0.toNat) = true
    ·rw [if_pos c2] at H
     refine CW.cond_f rfl (not_f (c2)) (CW.skip (NW.next ?_))
     refine CW.seqJ (fun a w4 => ∃ (bt34_2 : Bool), Sat 51 [(1, .pointer (some ⟨b1, 0, none⟩)), (3, .slice At3_0 lt3_0.length ct3_0), (4, iv it4_0), (34, .bool bt34_2)] a ∧ w2.heap.size ≤ w4.heap.size ∧ Ext w w4 ∧ Ext w2 w4 ∧ hermitageref1_Of.j1 lt3_0 it4_0 (hermitageref1_Of.l0 p0 n1) bt34_2 = some r) ?_ ?_
     ·refine CW.ord [0, 1, 3, 7, 15, 15, 47, 111, 255, 511, 1023, 15, 15, 4111, 12303, 30735, 63503, 129039, 262143, 15, 1048575, 2097151] (ofL [(0, .W), (1, .W), (2, .W), (3, .W), (4, .W), (5, .W), (6, .W), (7, .W), (8, .W), (9, .W), (11, .W), (12, .W), (13, .W), (14, .W), (15, .W), (16, .W), (19, .W), (10, .L), (17, .L), (18, .W), (20, .W), (21, .W)] .nil) mixed (by kernel_rfl) ?_
      intro w5 x2
      have sx2 := x2.size
      refine pu 4 rfl ?_
      have j1 := x0_0.tr x2
      have j2 := xt1.tr x2
      by_cases c3 : 0 < (lt3_0.length : Int)
      ·rw [if_pos c3] at H
       refine RW.bool 16 (b' := true) (decide_eq_true c3) rfl (pu 4 rfl ?_)
       obtain ⟨g2, H⟩ := guard_some H
       have h4 := h3.ext x2
       obtain ⟨ad1, e1, a1⟩ := kSeg_at h4.slL g2.1 g2.2
       refine RW.ix tk g2 e1 ?_
       refine pu 5 rfl ?_
       obtain ⟨g3, H⟩ := guard_some H
       obtain ⟨ad2, e2, a2⟩ := kSeg_at h4.slL g3.1 g3.2
       refine RW.ix tk g3 e2 ?_
       refine pu 2 rfl (RW.ld tk [iv ((rd lt3_0 (w64 ((lt3_0.length : Int) - 1))).At)] ((a1.fld 0).take 1 rfl) ?_)
       refine RW.ld tk [iv ((rd lt3_0 (w64 ((lt3_0.length : Int) - 1))).Len)] (a2.fld 1) ?_
       refine pu 3 rfl (RW.done ?_)
       exact NW.J fun a ha => ⟨((w64 (((rd lt3_0 (w64 ((lt3_0.length : Int) - 1))).At) + ((rd lt3_0 (w64 ((lt3_0.length : Int) - 1))).Len))) == it4_0), ha.sb, by omega, j1, j2, H⟩
      rw [if_neg c3] at H
      refine RW.bool 16 (b' := false) (decide_eq_false c3) rfl (pu 18 rfl (RW.done ?_))
      exact NW.J fun a ha => ⟨false, ha.sb, by omega, j1, j2, H⟩
     intro a w4 hJ hp
     obtain ⟨bt34_2, hS, hle, x0_2, x_xt1_2, H⟩ := hJ
     unfold hermitageref1_Of.j1 at H
     refine CW.go hp hS ?_
     by_cases c4 : bt34_2 = true
     ·rw [if_pos c4] at H
      refine CW.cond_t rfl (c4) (CW.lex [.W, .W, .W, .W, .W, .W, .L, .W, .W, .W, .M] rfl (pu 4 rfl ?_))
      obtain ⟨g4, H⟩ := guard_some H
      obtain ⟨ad3, e3, a3⟩ := kSeg_at ((h3.ext x_xt1_2).slL) g4.1 g4.2
      refine RW.ix tk g4 e3 ?_
      refine pu 1 rfl (RW.ld tk [iv ((rd lt3_0 (w64 ((lt3_0.length : Int) - 1))).Len)] (a3.fld 1) ?_)
      refine pu 1 rfl ?_
      obtain ⟨g5, H⟩ := guard_some H
      obtain ⟨ad4, e4, a4⟩ := kSeg_at ((h3.ext x_xt1_2).slL) g5.1 g5.2
      refine RW.ix tk g5 e4 ?_
      refine pu 1 rfl ?_
      refine RW.storeElL (y := (⟨(rd lt3_0 (w64 ((lt3_0.length : Int) - 1))).At, w64 (((rd lt3_0 (w64 ((lt3_0.length : Int) - 1))).Len) + 1)⟩ : Seg)) (lv := []) (k := 1) tk (h3.ext x_xt1_2) (j := (w64 ((lt3_0.length : Int) - 1)).toNat) (by have := g5; omega) default [iv (w64 (((rd lt3_0 (w64 ((lt3_0.length : Int) - 1))).Len) + 1))] (fun cs ok' hr => by obtain rfl := kSeg_open hr; exact ⟨by simp, kSeg_mk (⟨(rd lt3_0 (w64 ((lt3_0.length : Int) - 1))).At, w64 (((rd lt3_0 (w64 ((lt3_0.length : Int) - 1))).Len) + 1)⟩ : Seg)⟩) trivial ⟨rfl, rfl, rfl⟩ rfl rfl e4 rfl rfl rfl rfl rfl ?_
      intro w6 x3 h9
      have sx3 := x3.size
      have h10 := h9.sub (l' := [(w1.heap.size, some w2.heap.size, some 105)]) (li' := []) ⟨(.inl ⟨by omega, by omega, rfl⟩), trivial⟩ trivial
      refine RW.tell 3 (v' := .slice At3_0 (lt3_0.set (w64 ((lt3_0.length : Int) - 1)).toNat (⟨(rd lt3_0 (w64 ((lt3_0.length : Int) - 1))).At, w64 (((rd lt3_0 (w64 ((lt3_0.length : Int) - 1))).Len) + 1)⟩ : Seg)).length ct3_0) (by simp only [List.length_set]) rfl (RW.done (NW.norm_block ?_))
      have h11 := Ext.turn x0_2 x3 ⟨by omega, trivial⟩
      have h12 := (gb1_0.ext x_xt1_2).tL x3
      exact NW.J fun a ha => ⟨(lt3_0.set (w64 ((lt3_0.length : Int) - 1)).toNat (⟨(rd lt3_0 (w64 ((lt3_0.length : Int) - 1))).At, w64 (((rd lt3_0 (w64 ((lt3_0.length : Int) - 1))).Len) + 1)⟩ : Seg)), At3_0, ct3_0, ha.sb, by omega, (h10.sb), h11, h12, H⟩
     rw [if_neg c4] at H
     refine CW.cond_f rfl (bool_f c4) (CW.lex [.W, .W, .W, .X, .M, .W] rfl (pu 3 rfl (RW.buildSlice (cs := [iv it4_0, iv 1]) tk (.inl rfl) ⟨rfl, rfl, rfl, rfl⟩ rfl rfl rfl rfl rfl rfl rfl ?_)))
     intro b2 w7 x4 l2 h13
     have sx4 := x4.size
     have ltb2 := h13.lt
     have h14 := (h3.ext x_xt1_2).ext x4
     obtain ⟨g6, H⟩ := guard_some H
     refine RW.append1L (d := kSeg) (v := (⟨it4_0, 1⟩ : Seg)) (l := [(w1.heap.size, some w2.heap.size, some 105)]) (li := []) (ly := []) (xs := lt3_0) tk h14 h13 (kSeg_mk (⟨it4_0, 1⟩ : Seg)) trivial (by simp only [maxLen]; omega) g6 ⟨rfl, rfl, rfl, rfl⟩ rfl rfl rfl rfl rfl rfl rfl ?_
     intro A1 c_1 w8 x5 h15
     have sx5 := x5.size
     have h16 := h15.close.sub (l' := [(w1.heap.size, some w8.heap.size, some 105)]) (li' := []) ⟨(.inl ⟨by omega, by omega, rfl⟩), ⟨(.inl ⟨by omega, by omega, rfl⟩), trivial⟩⟩ trivial
     refine pu 1 rfl (RW.done (NW.norm_block ?_))
     have h17 := Ext.turn (x0_2.tr x4) x5 ⟨by omega, trivial⟩
     have h18 := ((gb1_0.ext x_xt1_2).ext x4).tL x5
     exact NW.J fun a ha => ⟨(lt3_0 ++ [(⟨it4_0, 1⟩ : Seg)]), A1, c_1, ha.sb, by omega, (h16.sb), h17, h18, H⟩
    rw [if_neg c2] at H
    refine CW.cond_t rfl (not_t (bool_f c2)) (CW.exit ?_)
    refine NW.exit_then (NW.exit_hit ?_)
    exact NW.J fun a ha => ⟨lt3_0, At3_0, ct3_0, ha.sb, by omega, (h3.sb), x0_0, gb1_0, H⟩
   intro a w3 hJ hp
   obtain ⟨lt3_1, At3_1, ct3_1, hS, hle, ft3_1, x0_1, gb1_1, H⟩ := hJ
   unfold hermitageref1_Of.j0 at H
   refine CW.go hp hS ?_
   have h19 : Ow kSeg 105 w3.heap (okL [(w1.heap.size, some w3.heap.size, some 105)]) (okL []) At3_1 ct3_1 lt3_1 := ft3_1.close
   have xt2 : Ext w3 w3 := Upd.refl _ _
   refine CW.lw 3 rfl (pu 3 rfl (RW.done ?_))
   exact NW.J fun a ha => ⟨n1, Nat.lt_succ_self n1, lt3_1, At3_1, ct3_1, (w64 (it4_0 + 1)), ha.sb, by omega, (h19.sb), x0_1, gb1_1, H⟩
  rw [if_neg c1] at H
  refine CW.cond_f rfl (decide_eq_false c1) (CW.exit ?_)
  refine NW.exit_then (NW.exit_then (NW.exit_hit ?_))
  refine NW.next (CW.seq (CW.lw 2 rfl (pu 2 rfl (RW.done ?_))))
  refine NW.next (CW.ret ?_)
  obtain rfl := Option.some.inj H
  exact NW.ret1 rfl (by rfl) ⟨At3_0, ct3_0, rfl, x0_0, (h3.sub (l' := [(w.heap.size, none, some 105)]) (li' := []) ⟨(.inl ⟨by omega, trivial, rfl⟩), trivial⟩ trivial)⟩
theorem hermitageref1_Two.calls (k : Nat) (A1 : Option Addr) (c_1 : Nat) (p0 : List Seg) (A2 : Option Addr) (c_2 : Nat) (p1 : List Seg) (p2 : Int) (r : (List Seg)) (w : World) (hs1 : Sl kSeg w.heap okAll A1 p0) (hl1 : p0.length ≤ c_1) (hs2 : Sl kSeg w.heap okAll A2 p1) (hl2 : p1.length ≤ c_2) (H : hermitageref1_Two.f k p0 p1 p2 = some r) :
    Calls Tryz.prog 70 #[.slice A1 p0.length c_1, .slice A2 p1.length c_2, iv p2] w fun e w' => ∃ (B1 : Option Addr) (d1 : Nat), e = .returned (.slice B1 r.length d1) ∧ Ext w w' ∧ Ow kSeg 105 w'.heap (okL [(w.heap.size, none, some 105)]) (okL []) B1 d1 r := by
 have h1 : Sl kSeg w.heap (okL [(0, some w.heap.size, none)]) A1 p0 := hs1.old _ rfl
 have h2 : Sl kSeg w.heap (okL [(0, some w.heap.size, none)]) A2 p1 := hs2.old _ rfl
 have x0 : Ext w w := Upd.refl _ w
 unfold hermitageref1_Two.f at H
 refine calls_start Tryz.func70 rfl 57 rfl [.slice A1 p0.length c_1, .slice A2 p1.length c_2, iv p2] rfl ?_
 refine CW.seq (CW.lw 1 rfl (pu 1 rfl (RW.done (NW.next ?_))))
 refine CW.seq (CW.lex [.W, .X, .W, .X, .X, .X, .M, .M] rfl (pu 1 rfl ?_))
 obtain ⟨y1, h3, H⟩ := bind_some H
 refine RW.cl ent28 (hermitageref1_Set.calls k A1 c_1 p0 _ _ h1.all hl1 h3) ?_
 rintro _ w1 ⟨rfl, x1⟩
 refine ⟨_, rfl, x1, ?_⟩
 have sx1 := x1.size
 refine pu 1 rfl ?_
 have h4 := h2.ext x1
 obtain ⟨y2, h5, H⟩ := bind_some H
 refine RW.cl ent28 (hermitageref1_Set.calls k A2 c_2 p1 _ _ h4.all hl2 h5) ?_
 rintro _ w2 ⟨rfl, x2⟩
 refine ⟨_, rfl, x2, ?_⟩
 have sx2 := x2.size
 refine RW.alloc tk (.inl rfl) ⟨rfl, rfl, rfl, rfl⟩ rfl rfl ?_
 intro b1 w3 x3 l1 h6
 have sx3 := x3.size
 have ltb1 := h6.lt
 refine RW.alloc tk (.inl rfl) ⟨rfl, rfl, rfl, rfl⟩ rfl rfl ?_
 intro b2 w4 x4 l2 h7
 have sx4 := x4.size
 have ltb2 := h7.lt
 have h8 := h6.ext x4
 refine RW.storeBox tk h8 (arrB 64 y1) ⟨rfl, rfl, rfl⟩ rfl rfl rfl rfl rfl arrF_len (arrF_all fun _ => rfl) (arrF_fitAll arrF_len) ?_
 intro w5 x5 h9
 have h10 : Box w5.heap b1 69 (arrB 64 y1) := by rw [lay_arrFull] at h9; exact h9
 have sx5 := x5.size
 have h11 := h7.tB x5
 refine RW.storeBox tk h11 (arrB 64 y2) ⟨rfl, rfl, rfl⟩ rfl rfl rfl rfl rfl arrF_len (arrF_all fun _ => rfl) (arrF_fitAll arrF_len) ?_
 intro w6 x6 h12
 have h13 : Box w6.heap b2 69 (arrB 64 y2) := by rw [lay_arrFull] at h12; exact h12
 have sx6 := x6.size
 refine RW.done (NW.next (CW.seq (CW.lex [.X] rfl (RW.alloc tk (.inl rfl) ⟨rfl, rfl, rfl, rfl⟩ rfl rfl ?_))))
 intro b3 w7 x7 l3 h14
 have sx7 := x7.size
 have ltb3 := h14.lt
 refine RW.done (NW.next (CW.seq (CW.seq (CW.lw 1 rfl ?_))))
 refine pu 1 rfl (RW.done (NW.next (CW.block ?_)))
 refine CW.loop (fun n1 a w8 => ∃ (it10_0 : Int) (ab3_0_0 : Nat → Bool), Sat 57 [(2, iv p2), (7, .pointer (some ⟨b1, 0, none⟩)), (8, .pointer (some ⟨b2, 0, none⟩)), (9, .pointer (some ⟨b3, 0, none⟩)), (10, iv it10_0)] a ∧ w7.heap.size ≤ w8.heap.size ∧ Ext w w8 ∧ Box w8.heap b1 69 (arrB 64 y1) ∧ Box w8.heap b2 69 (arrB 64 y2) ∧ Box w8.heap b3 69 (arrB 64 ab3_0_0) ∧ hermitageref1_Two.l0 p2 k y1 y2 n1 it10_0 ab3_0_0 = some r) k ?_ ?_
 have h15 := ((((((x0.tr x1).tr x2).tr x3).tr x4).tB x5).tB x6).tr x7
 have h16 := (h10.tB x6).ext x7
 have h17 := h13.ext x7
 ·exact fun a ha => ⟨0, (fun _ => false), ha.sb, by omega, h15, h16, h17, h14, H⟩
 intro n1 a w8 hI hp
 obtain ⟨it10_0, ab3_0_0, hS, hle, x0_0, gb1_0, gb2_0, gb3_0, H⟩ := hI
 cases n1 with
 | zero => cases H
 | succ n1 =>
  rw [hermitageref1_Two.l0] at H
  refine CW.go hp hS ?_
  have xt1 : Ext w8 w8 := Upd.refl _ _
  refine CW.seq (CW.seq (CW.lw 2 rfl (pu 2 rfl (RW.done ?_))))
  refine NW.next ?_
  by_cases c1 : it10_0 < 64
  ·rw [if_pos c1] at H
   refine CW.cond_t rfl (decide_eq_true c1) (CW.skip (NW.next ?_))
   refine CW.seqJ (fun a w9 => ∃ (ab3_0_1 : Nat → Bool), Sat 57 [(2, iv p2), (7, .pointer (some ⟨b1, 0, none⟩)), (8, .pointer (some ⟨b2, 0, none⟩)), (9, .pointer (some ⟨b3, 0, none⟩)), (10, iv it10_0)] a ∧ w8.heap.size ≤ w9.heap.size ∧ Ext w w9 ∧ Box w9.heap b1 69 (arrB 64 y1) ∧ Box w9.heap b2 69 (arrB 64 y2) ∧ Box w9.heap b3 69 (arrB 64 ab3_0_1) ∧ hermitageref1_Two.j0 it10_0 (hermitageref1_Two.l0 p2 k y1 y2 n1) ab3_0_1 = some r) ?_ ?_
   ·refine CW.block (CW.seq (CW.lw 1 rfl (pu 1 rfl (RW.done ?_))))
    refine NW.next (CW.block (CW.seq (CW.lw 2 rfl (pu 2 rfl ?_))))
    refine RW.done (NW.next ?_)
    by_cases c2 : p2 = 0
    ·rw [if_pos c2] at H
     refine CW.cond_t rfl (beq_t c2) (CW.lex [.W, .W, .W, .L, .W, .W, .W, .L, .W, .W, .M] rfl (pu 2 rfl ?_))
     obtain ⟨g1, H⟩ := guard_some H
     refine RW.indexBox tk g1.1 g1.2 ⟨rfl, rfl, rfl, rfl⟩ rfl rfl rfl rfl rfl rfl rfl (RW.ld tk [.bool (y1 it10_0.toNat)] (gb1_0.elF (by have := g1; omega)) ?_)
     refine pu 1 rfl ?_
     by_cases c3 : (y1 it10_0.toNat) = true
     ·rw [if_pos c3] at H
      refine RW.bool 36 (b' := true) (c3) rfl (pu 4 rfl ?_)
      obtain ⟨g2, H⟩ := guard_some H
      refine RW.indexBox tk g2.1 g2.2 ⟨rfl, rfl, rfl, rfl⟩ rfl rfl rfl rfl rfl rfl rfl (RW.storeBox tk gb3_0 [.bool true] ⟨rfl, rfl, rfl⟩ rfl rfl rfl rfl rfl rfl rfl (arrF_fit (by have := g2; omega)) ?_)
      intro w10 x8 h18
      have h19 : Box w10.heap b3 69 (arrB 64 (updF ab3_0_0 it10_0.toNat true)) := by rw [lay_arrF] at h18; exact h18
      have sx8 := x8.size
      refine RW.done ?_
      refine NW.norm_block (NW.norm_block ?_)
      have h20 := x0_0.tB x8
      have h21 := gb1_0.tB x8
      have h22 := gb2_0.tB x8
      exact NW.J fun a ha => ⟨(updF ab3_0_0 it10_0.toNat true), ha.sb, by omega, h20, h21, h22, h19, H⟩
     rw [if_neg c3] at H
     refine RW.bool 36 (b' := false) (bool_f c3) rfl (pu 1 rfl ?_)
     obtain ⟨g3, H⟩ := guard_some H
     refine RW.indexBox tk g3.1 g3.2 ⟨rfl, rfl, rfl, rfl⟩ rfl rfl rfl rfl rfl rfl rfl (RW.ld tk [.bool (y2 it10_0.toNat)] (gb2_0.elF (by have := g3; omega)) ?_)
     refine pu 1 rfl ?_
     obtain ⟨g4, H⟩ := guard_some H
     refine RW.indexBox tk g4.1 g4.2 ⟨rfl, rfl, rfl, rfl⟩ rfl rfl rfl rfl rfl rfl rfl (RW.storeBox tk gb3_0 [.bool (y2 it10_0.toNat)] ⟨rfl, rfl, rfl⟩ rfl rfl rfl rfl rfl rfl rfl (arrF_fit (by have := g4; omega)) ?_)
     intro w11 x9 h23
     have h24 : Box w11.heap b3 69 (arrB 64 (updF ab3_0_0 it10_0.toNat (y2 it10_0.toNat))) := by rw [lay_arrF] at h23; exact h23
     have sx9 := x9.size
     refine RW.done ?_
     refine NW.norm_block (NW.norm_block ?_)
     have h25 := x0_0.tB x9
     have h26 := gb1_0.tB x9
     have h27 := gb2_0.tB x9
     exact NW.J fun a ha => ⟨(updF ab3_0_0 it10_0.toNat (y2 it10_0.toNat)), ha.sb, by omega, h25, h26, h27, h24, H⟩
    rw [if_neg c2] at H
    refine CW.cond_f rfl (beq_f c2) (CW.seq (CW.lw 2 rfl (pu 2 rfl (RW.done ?_))))
    refine NW.next ?_
    by_cases c4 : p2 = 1
    ·rw [if_pos c4] at H
     refine CW.cond_t rfl (beq_t c4) (CW.lex [.W, .W, .W, .L, .W, .W, .W, .L, .W, .W, .W, .M] rfl (pu 2 rfl ?_))
     obtain ⟨g5, H⟩ := guard_some H
     refine RW.indexBox tk g5.1 g5.2 ⟨rfl, rfl, rfl, rfl⟩ rfl rfl rfl rfl rfl rfl rfl (RW.ld tk [.bool (y1 it10_0.toNat)] (gb1_0.elF (by have := g5; omega)) ?_)
     refine pu 1 rfl ?_
     by_cases c5 : (y1 it10_0.toNat) = true
     ·rw [if_pos c5] at H
      refine RW.bool 48 (b' := true) (c5) rfl (pu 1 rfl ?_)
      obtain ⟨g6, H⟩ := guard_some H
      refine RW.indexBox tk g6.1 g6.2 ⟨rfl, rfl, rfl, rfl⟩ rfl rfl rfl rfl rfl rfl rfl (RW.ld tk [.bool (y2 it10_0.toNat)] (gb2_0.elF (by have := g6; omega)) ?_)
      refine pu 2 rfl ?_
      obtain ⟨g7, H⟩ := guard_some H
      refine RW.indexBox tk g7.1 g7.2 ⟨rfl, rfl, rfl, rfl⟩ rfl rfl rfl rfl rfl rfl rfl (RW.storeBox tk gb3_0 [.bool (!(y2 it10_0.toNat))] ⟨rfl, rfl, rfl⟩ rfl rfl rfl rfl rfl rfl rfl (arrF_fit (by have := g7; omega)) ?_)
      intro w12 x10 h28
      have h29 : Box w12.heap b3 69 (arrB 64 (updF ab3_0_0 it10_0.toNat (!(y2 it10_0.toNat)))) := by rw [lay_arrF] at h28; exact h28
      have sx10 := x10.size
      refine RW.done ?_
      refine NW.norm_block (NW.norm_block ?_)
      have h30 := x0_0.tB x10
      have h31 := gb1_0.tB x10
      have h32 := gb2_0.tB x10
      exact NW.J fun a ha => ⟨(updF ab3_0_0 it10_0.toNat (!(y2 it10_0.toNat))), ha.sb, by omega, h30, h31, h32, h29, H⟩
     rw [if_neg c5] at H
     refine RW.bool 48 (b' := false) (bool_f c5) rfl (pu 5 rfl ?_)
     obtain ⟨g8, H⟩ := guard_some H
     refine RW.indexBox tk g8.1 g8.2 ⟨rfl, rfl, rfl, rfl⟩ rfl rfl rfl rfl rfl rfl rfl (RW.storeBox tk gb3_0 [.bool false] ⟨rfl, rfl, rfl⟩ rfl rfl rfl rfl rfl rfl rfl (arrF_fit (by have := g8; omega)) ?_)
     intro w13 x11 h33
     have h34 : Box w13.heap b3 69 (arrB 64 (updF ab3_0_0 it10_0.toNat false)) := by rw [lay_arrF] at h33; exact h33
     have sx11 := x11.size
     refine RW.done ?_
     refine NW.norm_block (NW.norm_block ?_)
     have h35 := x0_0.tB x11
     have h36 := gb1_0.tB x11
     have h37 := gb2_0.tB x11
     exact NW.J fun a ha => ⟨(updF ab3_0_0 it10_0.toNat false), ha.sb, by omega, h35, h36, h37, h34, H⟩
    rw [if_neg c4] at H
    refine CW.cond_f rfl (beq_f c4) (CW.lex [.W, .W, .W, .L, .W, .W, .W, .L, .W, .W, .M] rfl (pu 2 rfl ?_))
    obtain ⟨g9, H⟩ := guard_some H
    refine RW.indexBox tk g9.1 g9.2 ⟨rfl, rfl, rfl, rfl⟩ rfl rfl rfl rfl rfl rfl rfl (RW.ld tk [.bool (y1 it10_0.toNat)] (gb1_0.elF (by have := g9; omega)) ?_)
    refine pu 1 rfl ?_
    by_cases c6 : (y1 it10_0.toNat) = true
    ·rw [if_pos c6] at H
     refine RW.bool 24 (b' := true) (c6) rfl (pu 1 rfl ?_)
     obtain ⟨g10, H⟩ := guard_some H
     refine RW.indexBox tk g10.1 g10.2 ⟨rfl, rfl, rfl, rfl⟩ rfl rfl rfl rfl rfl rfl rfl (RW.ld tk [.bool (y2 it10_0.toNat)] (gb2_0.elF (by have := g10; omega)) ?_)
     refine pu 1 rfl ?_
     obtain ⟨g11, H⟩ := guard_some H
     refine RW.indexBox tk g11.1 g11.2 ⟨rfl, rfl, rfl, rfl⟩ rfl rfl rfl rfl rfl rfl rfl (RW.storeBox tk gb3_0 [.bool (y2 it10_0.toNat)] ⟨rfl, rfl, rfl⟩ rfl rfl rfl rfl rfl rfl rfl (arrF_fit (by have := g11; omega)) ?_)
     intro w14 x12 h38
     have h39 : Box w14.heap b3 69 (arrB 64 (updF ab3_0_0 it10_0.toNat (y2 it10_0.toNat))) := by rw [lay_arrF] at h38; exact h38
     have sx12 := x12.size
     refine RW.done ?_
     refine NW.norm_block (NW.norm_block ?_)
     have h40 := x0_0.tB x12
     have h41 := gb1_0.tB x12
     have h42 := gb2_0.tB x12
     exact NW.J fun a ha => ⟨(updF ab3_0_0 it10_0.toNat (y2 it10_0.toNat)), ha.sb, by omega, h40, h41, h42, h39, H⟩
    rw [if_neg c6] at H
    refine RW.bool 24 (b' := false) (bool_f c6) rfl (pu 4 rfl ?_)
    obtain ⟨g12, H⟩ := guard_some H
    refine RW.indexBox tk g12.1 g12.2 ⟨rfl, rfl, rfl, rfl⟩ rfl rfl rfl rfl rfl rfl rfl (RW.storeBox tk gb3_0 [.bool false] ⟨rfl, rfl, rfl⟩ rfl rfl rfl rfl rfl rfl rfl (arrF_fit (by have := g12; omega)) ?_)
    intro w15 x13 h43
    have h44 : Box w15.heap b3 69 (arrB 64 (updF ab3_0_0 it10_0.toNat false)) := by rw [lay_arrF] at h43; exact h43
    have sx13 := x13.size
    refine RW.done ?_
    refine NW.norm_block (NW.norm_block ?_)
    have h45 := x0_0.tB x13
    have h46 := gb1_0.tB x13
    have h47 := gb2_0.tB x13
    exact NW.J fun a ha => ⟨(updF ab3_0_0 it10_0.toNat false), ha.sb, by omega, h45, h46, h47, h44, H⟩
   intro a w9 hJ hp
   obtain ⟨ab3_0_1, hS, hle, x0_1, gb1_1, gb2_1, gb3_1, H⟩ := hJ
   unfold hermitageref1_Two.j0 at H
   refine CW.go hp hS ?_
   have xt2 : Ext w9 w9 := Upd.refl _ _
   refine CW.lw 3 rfl (pu 3 rfl (RW.done ?_))
   exact NW.J fun a ha => ⟨n1, Nat.lt_succ_self n1, (w64 (it10_0 + 1)), ab3_0_1, ha.sb, by omega, x0_1, gb1_1, gb2_1, gb3_1, H⟩
  rw [if_neg c1] at H
  refine CW.cond_f rfl (decide_eq_false c1) (CW.exit ?_)
  refine NW.exit_then (NW.exit_then (NW.exit_hit ?_))
  refine NW.next (CW.seq (CW.lex [.L, .X, .W] rfl (RW.load tk (arrB 64 ab3_0_0) (gb3_0.at 0) ⟨rfl, rfl, rfl, rfl⟩ rfl rfl rfl arrF_len ?_)))
  obtain ⟨y3, h48, H⟩ := bind_some H
  refine RW.cl ent94 (hermitageref1_Of.calls k ab3_0_0 _ _ h48) ?_
  rintro _ w16 ⟨A3, c_3, rfl, x14, h49⟩
  refine ⟨_, rfl, x14, ?_⟩
  have sx14 := x14.size
  have h50 : Ow kSeg 105 w16.heap (okL [(w8.heap.size, some w16.heap.size, some 105)]) (okL []) A3 c_3 y3 := h49.close
  refine pu 1 rfl (RW.done (NW.next (CW.ret ?_)))
  obtain rfl := Option.some.inj H
  have h51 := x0_0.tr x14
  exact NW.ret1 rfl (by rfl) ⟨A3, c_3, rfl, h51, (h50.sub (l' := [(w.heap.size, none, some 105)]) (li' := []) ⟨(.inl ⟨by omega, trivial, rfl⟩), trivial⟩ trivial)⟩
theorem hermitageref1_Segs.calls (k : Nat) (A1 : Option Addr) (c_1 : Nat) (p0 : List Seg) (r : Bool) (w : World) (hs1 : Sl kSeg w.heap okAll A1 p0) (hl1 : p0.length ≤ c_1) (H : hermitageref1_Segs.f k p0 = some r) :
    Calls Tryz.prog 76 #[.slice A1 p0.length c_1] w fun e w' => e = .returned (.bool r) ∧ Ext w w' := by
 have h1 : Sl kSeg w.heap (okL [(0, some w.heap.size, none)]) A1 p0 := hs1.old _ rfl
 have x0 : Ext w w := Upd.refl _ w
 unfold hermitageref1_Segs.f at H
 refine calls_start Tryz.func76 rfl 71 rfl [.slice A1 p0.length c_1] rfl ?_
 refine CW.seq (CW.lw 1 rfl (pu 1 rfl (RW.done (NW.next ?_))))
 refine CW.seq (CW.seq (CW.lw 1 rfl (pu 1 rfl (RW.done ?_))))
 refine NW.next (CW.block ?_)
 refine CW.loop (fun n1 a w1 => ∃ (it3_0 : Int), Sat 71 [(0, .slice A1 p0.length c_1), (3, iv it3_0)] a ∧ w.heap.size ≤ w1.heap.size ∧ Ext w w1 ∧ hermitageref1_Segs.l0 p0 n1 it3_0 = some r) k ?_ ?_
 ·exact fun a ha => ⟨0, ha.sb, by omega, x0, H⟩
 intro n1 a w1 hI hp
 obtain ⟨it3_0, hS, hle, x0_0, H⟩ := hI
 cases n1 with
 | zero => cases H
 | succ n1 =>
  rw [hermitageref1_Segs.l0] at H
  refine CW.go hp hS (CW.seq (CW.seq (CW.lw 4 rfl (pu 4 rfl ?_))))
  refine RW.done (NW.next ?_)
  by_cases c1 : it3_0 < (p0.length : Int)
  ·rw [if_pos c1] at H
   refine CW.cond_t rfl (decide_eq_true c1) (CW.skip (NW.next (CW.seq (CW.block ?_))))
   refine CW.seqJ (fun a w2 => ∃ (bt70_1 : Bool), Sat 71 [(0, .slice A1 p0.length c_1), (3, iv it3_0), (70, .bool bt70_1)] a ∧ w1.heap.size ≤ w2.heap.size ∧ Ext w w2 ∧ hermitageref1_Segs.j0 it3_0 (hermitageref1_Segs.l0 p0 n1) bt70_1 = some r) ?_ ?_
   ·refine CW.ord [0, 0, 3, 7, 15, 31, 63, 127, 127, 511, 1023, 2047, 4095, 8191, 16383, 32767, 32767, 131071, 262143, 524287, 1048575, 2097151, 4194303, 8388607, 8388607, 33554431, 67108863, 134217727, 8388607, 8388607, 813694975, 1887436799, 4034920447, 8329887743, 17179869183, 34359738367, 68719476735, 137438953471, 274877906943, 549755813887, 1099511627775, 1099511627775, 3298534883327, 8796093022207, 17592186044415, 35184372088831, 1099511627775, 1099511627775, 141836999983103, 493680720871423, 1056630674292735, 2182530581135359, 4503599627370495, 1099511627775, 1099511627775, 27022697275850751, 63051494294814719, 135109088332742655, 288230376151711743, 576460752303423487, 1152921504606846975] (ofL [(0, .W), (1, .W), (2, .W), (3, .W), (4, .L), (5, .W), (6, .W), (7, .W), (8, .W), (9, .W), (10, .W), (11, .L), (12, .W), (13, .W), (14, .W), (15, .W), (16, .W), (17, .W), (18, .W), (19, .L), (20, .W), (21, .W), (22, .W), (23, .W), (24, .W), (25, .W), (26, .W), (28, .W), (29, .W), (30, .W), (31, .W), (27, .L), (32, .L), (33, .W), (34, .W), (35, .W), (36, .W), (37, .W), (38, .W), (39, .W), (40, .W), (41, .W), (42, .W), (43, .W), (44, .W), (46, .W), (47, .W), (48, .W), (49, .W), (50, .W), (53, .W), (54, .W), (55, .W), (56, .W), (45, .L), (51, .L), (52, .W), (57, .L), (58, .W), (59, .W), (60, .W)] .nil) mixed (by kernel_rfl) ?_
    intro w3 x1
    have sx1 := x1.size
    refine pu 2 rfl ?_
    obtain ⟨g1, H⟩ := guard_some H
    have h2 := (h1.ext x0_0).ext x1
    obtain ⟨ad1, e1, a1⟩ := kSeg_at h2 g1.1 g1.2
    refine RW.ix tk g1 e1 ?_
    refine pu 1 rfl (RW.ld tk [iv ((rd p0 it3_0).At)] ((a1.fld 0).take 1 rfl) ?_)
    refine pu 2 rfl ?_
    have j1 := x0_0.tr x1
    by_cases c2 : ((rd p0 it3_0).At) < 0
    ·rw [if_pos c2] at H
     refine RW.bool 16 (b' := true) (decide_eq_true c2) rfl (pu 54 rfl (RW.done ?_))
     exact NW.J fun a ha => ⟨true, ha.sb, by omega, j1, H⟩
    rw [if_neg c2] at H
    refine RW.bool 16 (b' := false) (decide_eq_false c2) rfl (pu 2 rfl ?_)
    obtain ⟨g2, H⟩ := guard_some H
    obtain ⟨ad2, e2, a2⟩ := kSeg_at h2 g2.1 g2.2
    refine RW.ix tk g2 e2 ?_
    refine pu 1 rfl (RW.ld tk [iv ((rd p0 it3_0).Len)] (a2.fld 1) ?_)
    refine pu 3 rfl ?_
    by_cases c3 : ((rd p0 it3_0).Len) < 1
    ·rw [if_pos c3] at H
     refine RW.bool 24 (b' := true) (decide_eq_true c3) rfl (pu 46 rfl (RW.done ?_))
     exact NW.J fun a ha => ⟨true, ha.sb, by omega, j1, H⟩
    rw [if_neg c3] at H
    refine RW.bool 24 (b' := false) (decide_eq_false c3) rfl (pu 2 rfl ?_)
    obtain ⟨g3, H⟩ := guard_some H
    obtain ⟨ad3, e3, a3⟩ := kSeg_at h2 g3.1 g3.2
    refine RW.ix tk g3 e3 ?_
    refine pu 1 rfl (RW.ld tk [iv ((rd p0 it3_0).At)] ((a3.fld 0).take 1 rfl) ?_)
    refine pu 3 rfl ?_
    by_cases c4 : 64 < ((rd p0 it3_0).At)
    ·rw [if_pos c4] at H
     refine RW.bool 32 (b' := true) (decide_eq_true c4) rfl (pu 38 rfl (RW.done ?_))
     exact NW.J fun a ha => ⟨true, ha.sb, by omega, j1, H⟩
    rw [if_neg c4] at H
    refine RW.bool 32 (b' := false) (decide_eq_false c4) rfl (pu 2 rfl ?_)
    obtain ⟨g4, H⟩ := guard_some H
    obtain ⟨ad4, e4, a4⟩ := kSeg_at h2 g4.1 g4.2
    refine RW.ix tk g4 e4 ?_
    refine pu 3 rfl ?_
    obtain ⟨g5, H⟩ := guard_some H
    obtain ⟨ad5, e5, a5⟩ := kSeg_at h2 g5.1 g5.2
    refine RW.ix tk g5 e5 ?_
    refine pu 1 rfl (RW.ld tk [iv ((rd p0 it3_0).Len)] (a4.fld 1) ?_)
    refine RW.ld tk [iv ((rd p0 it3_0).At)] ((a5.fld 0).take 1 rfl) ?_
    refine pu 4 rfl ?_
    by_cases c5 : (w64 (64 - ((rd p0 it3_0).At))) < ((rd p0 it3_0).Len)
    ·rw [if_pos c5] at H
     refine RW.bool 46 (b' := true) (decide_eq_true c5) rfl (pu 24 rfl (RW.done ?_))
     exact NW.J fun a ha => ⟨true, ha.sb, by omega, j1, H⟩
    rw [if_neg c5] at H
    refine RW.bool 46 (b' := false) (decide_eq_false c5) rfl (pu 3 rfl ?_)
    by_cases c6 : 0 < it3_0
    ·rw [if_pos c6] at H
     refine RW.bool 49 (b' := true) (decide_eq_true c6) rfl (pu 3 rfl ?_)
     obtain ⟨g6, H⟩ := guard_some H
     obtain ⟨ad6, e6, a6⟩ := kSeg_at h2 g6.1 g6.2
     refine RW.ix tk g6 e6 ?_
     refine pu 4 rfl ?_
     obtain ⟨g7, H⟩ := guard_some H
     obtain ⟨ad7, e7, a7⟩ := kSeg_at h2 g7.1 g7.2
     refine RW.ix tk g7 e7 ?_
     refine pu 3 rfl ?_
     obtain ⟨g8, H⟩ := guard_some H
     obtain ⟨ad8, e8, a8⟩ := kSeg_at h2 g8.1 g8.2
     refine RW.ix tk g8 e8 ?_
     refine pu 1 rfl (RW.ld tk [iv ((rd p0 (w64 (it3_0 - 1))).At)] ((a6.fld 0).take 1 rfl) ?_)
     refine RW.ld tk [iv ((rd p0 (w64 (it3_0 - 1))).Len)] (a7.fld 1) ?_
     refine pu 1 rfl (RW.ld tk [iv ((rd p0 it3_0).At)] ((a8.fld 0).take 1 rfl) ?_)
     refine pu 3 rfl (RW.done ?_)
     exact NW.J fun a ha => ⟨(decide (((rd p0 it3_0).At) ≤ (w64 (((rd p0 (w64 (it3_0 - 1))).At) + ((rd p0 (w64 (it3_0 - 1))).Len))))), ha.sb, by omega, j1, H⟩
    rw [if_neg c6] at H
    refine RW.bool 49 (b' := false) (decide_eq_false c6) rfl (pu 21 rfl (RW.done ?_))
    exact NW.J fun a ha => ⟨false, ha.sb, by omega, j1, H⟩
   intro a w2 hJ hp
   obtain ⟨bt70_1, hS, hle, x0_1, H⟩ := hJ
   unfold hermitageref1_Segs.j0 at H
   refine CW.go hp hS ?_
   by_cases c7 : bt70_1 = true
   ·rw [if_pos c7] at H
    refine CW.cond_t rfl (c7) (CW.seq (CW.lw 1 rfl (pu 1 rfl (RW.done ?_))))
    refine NW.next (CW.ret ?_)
    refine NW.ret_block (NW.ret_then (NW.ret_then (NW.ret_block (NW.ret_then ?_))))
    obtain rfl := Option.some.inj H
    exact NW.ret1 rfl (by rfl) ⟨rfl, x0_1⟩
   rw [if_neg c7] at H
   refine CW.cond_f rfl (bool_f c7) (CW.skip ?_)
   refine NW.norm_block (NW.next ?_)
   refine CW.lw 3 rfl (pu 3 rfl (RW.done ?_))
   exact NW.J fun a ha => ⟨n1, Nat.lt_succ_self n1, (w64 (it3_0 + 1)), ha.sb, by omega, x0_1, H⟩
  rw [if_neg c1] at H
  refine CW.cond_f rfl (decide_eq_false c1) (CW.exit ?_)
  refine NW.exit_then (NW.exit_then (NW.exit_hit ?_))
  refine NW.next (CW.seq (CW.lw 1 rfl (pu 1 rfl (RW.done ?_))))
  refine NW.next (CW.ret ?_)
  obtain rfl := Option.some.inj H
  exact NW.ret1 rfl (by rfl) ⟨rfl, x0_0⟩
theorem hermitageref1_Ends.calls (A1 : Option Addr) (c_1 : Nat) (p0 : List Seg) (r : Int) (w : World) (hs1 : Sl kSeg w.heap okAll A1 p0) (hl1 : p0.length ≤ c_1) (H : hermitageref1_Ends.f p0 = some r) :
    Calls Tryz.prog 77 #[.slice A1 p0.length c_1] w fun e w' => e = .returned (iv r) ∧ Ext w w' := by
 have h1 : Sl kSeg w.heap (okL [(0, some w.heap.size, none)]) A1 p0 := hs1.old _ rfl
 have x0 : Ext w w := Upd.refl _ w
 unfold hermitageref1_Ends.f at H
 refine calls_start Tryz.func77 rfl 21 rfl [.slice A1 p0.length c_1] rfl ?_
 refine CW.seq (CW.lw 1 rfl (pu 1 rfl (RW.done (NW.next ?_))))
 refine CW.seq (CW.seq (CW.lw 3 rfl (pu 3 rfl (RW.done ?_))))
 refine NW.next ?_
 by_cases c1 : (p0.length : Int) = 0
 ·rw [if_pos c1] at H
  refine CW.cond_t rfl (beq_t c1) (CW.seq (CW.lw 1 rfl (pu 1 rfl (RW.done ?_))))
  refine NW.next (CW.ret (NW.ret_then ?_))
  obtain rfl := Option.some.inj H
  exact NW.ret1 rfl (by rfl) ⟨rfl, x0⟩
 rw [if_neg c1] at H
 refine CW.cond_f rfl (beq_f c1) (CW.skip (NW.next (CW.seq (CW.ord [0, 0, 2, 6, 15, 31, 63, 0, 0, 256, 768, 1920, 3968, 8064, 16383, 32767] (ofL [(0, .W), (1, .W), (2, .W), (3, .W), (4, .W), (5, .W), (7, .W), (8, .W), (9, .W), (10, .W), (11, .W), (12, .W), (6, .L), (13, .L), (14, .W), (15, .W)] .nil) mixed (by kernel_rfl) ?_))))
 intro w1 x1
 have sx1 := x1.size
 refine pu 4 rfl ?_
 obtain ⟨g1, H⟩ := guard_some H
 have h2 := h1.ext x1
 obtain ⟨ad1, e1, a1⟩ := kSeg_at h2 g1.1 g1.2
 refine RW.ix tk g1 e1 ?_
 refine pu 5 rfl ?_
 obtain ⟨g2, H⟩ := guard_some H
 obtain ⟨ad2, e2, a2⟩ := kSeg_at h2 g2.1 g2.2
 refine RW.ix tk g2 e2 ?_
 refine pu 1 rfl (RW.ld tk [iv ((rd p0 (w64 ((p0.length : Int) - 1))).At)] ((a1.fld 0).take 1 rfl) ?_)
 refine RW.ld tk [iv ((rd p0 (w64 ((p0.length : Int) - 1))).Len)] (a2.fld 1) ?_
 refine pu 2 rfl (RW.done (NW.next (CW.ret ?_)))
 obtain rfl := Option.some.inj H
 have h3 := x0.tr x1
 exact NW.ret1 rfl (by rfl) ⟨rfl, h3⟩
theorem hermitageref7_Device.calls (k : Nat) (p0 : Device) (A1 : Option Addr) (c_1 : Nat) (A2 : Option Addr) (c_2 : Nat) (r : Bool) (w : World) (hs1 : Sl kSeg w.heap okAll A1 p0.Free) (hl1 : p0.Free.length ≤ c_1) (hs2 : Sl kSeg w.heap okAll A2 p0.Late) (hl2 : p0.Late.length ≤ c_2) (H : hermitageref7_Device.f k p0 = some r) :
    Calls Tryz.prog 50 #[.agg #[iv p0.ID, iv p0.Size, .slice A1 p0.Free.length c_1, .slice A2 p0.Late.length c_2]] w fun e w' => e = .returned (.bool r) ∧ Ext w w' := by
 have h1 : Sl kSeg w.heap (okL [(0, some w.heap.size, none)]) A1 p0.Free := hs1.old _ rfl
 have h2 : Sl kSeg w.heap (okL [(0, some w.heap.size, none)]) A2 p0.Late := hs2.old _ rfl
 have x0 : Ext w w := Upd.refl _ w
 unfold hermitageref7_Device.f at H
 refine calls_start Tryz.func50 rfl 46 rfl [.agg #[iv p0.ID, iv p0.Size, .slice A1 p0.Free.length c_1, .slice A2 p0.Late.length c_2]] rfl ?_
 refine CW.seq (CW.lex [.X, .W] rfl (RW.box (cs := [iv p0.ID, iv p0.Size, .slice A1 p0.Free.length c_1, .slice A2 p0.Late.length c_2]) (.inl rfl) ⟨rfl, rfl, rfl, rfl⟩ rfl rfl rfl ?_))
 intro b1 w1 x1 l1 h3
 have sx1 := x1.size
 have ltb1 := h3.lt
 refine pu 1 rfl (RW.done (NW.next (CW.seq (CW.ord [0, 1, 3, 7, 15, 31, 63, 127, 255, 511, 1023, 2047, 4095, 8191, 16383, 32767, 65535, 131071, 262143, 524287, 1048575, 2097151, 524287, 4718591, 16777215, 33554431, 67108863, 134217727, 268435455, 536870911, 134217727, 1207959551, 4294967295, 8589934591, 17179869183, 34359738367, 68719476735, 34359738367, 171798691839, 549755813887, 1099511627775, 2199023255551, 4398046511103, 8796093022207] (ofL [(0, .W), (1, .L), (2, .X), (3, .W), (4, .W), (5, .L), (6, .X), (7, .W), (8, .W), (9, .W), (10, .L), (11, .X), (12, .W), (13, .W), (14, .W), (15, .L), (16, .X), (17, .W), (18, .W), (19, .W), (22, .W), (20, .L), (23, .L), (21, .X), (24, .W), (25, .W), (26, .W), (27, .W), (30, .W), (28, .L), (31, .L), (29, .X), (32, .W), (33, .W), (34, .W), (35, .W), (37, .W), (36, .L), (38, .L), (39, .X), (40, .W), (41, .W), (42, .W), (43, .W)] .nil) mixed (by kernel_rfl) ?_))))
 intro w2 x2
 have sx2 := x2.size
 refine pu 1 rfl ?_
 have h4 := h3.ext x2
 refine RW.lb tk [iv p0.ID] h4 0 ?_
 obtain ⟨y1, h5, H⟩ := bind_some H
 refine RW.cl ent21 (hermitageref0_Between.calls p0.ID 1 40 _ _ h5) ?_
 rintro _ w3 ⟨rfl, x3⟩
 refine ⟨_, rfl, x3, ?_⟩
 have sx3 := x3.size
 refine pu 1 rfl ?_
 have j1 := ((x0.tr x1).tr x2).tr x3
 by_cases c1 : y1 = true
 ·rw [if_pos c1] at H
  refine RW.bool 6 (b' := true) (c1) rfl (pu 1 rfl ?_)
  have h6 := h4.ext x3
  refine RW.lb tk [iv p0.Size] h6 1 ?_
  obtain ⟨y2, h7, H⟩ := bind_some H
  refine RW.cl ent21 (hermitageref0_Between.calls p0.Size 1 64 _ _ h7) ?_
  rintro _ w4 ⟨rfl, x4⟩
  refine ⟨_, rfl, x4, ?_⟩
  have sx4 := x4.size
  refine pu 2 rfl ?_
  have j2 := j1.tr x4
  by_cases c2 : y2 = true
  ·rw [if_pos c2] at H
   refine RW.bool 11 (b' := true) (c2) rfl (pu 1 rfl ?_)
   have h8 := h6.ext x4
   refine RW.lb tk [.slice A1 p0.Free.length c_1] h8 2 ?_
   have h9 := (((h1.ext x1).ext x2).ext x3).ext x4
   obtain ⟨y3, h10, H⟩ := bind_some H
   refine RW.cl ent76 (hermitageref1_Segs.calls k A1 c_1 p0.Free _ _ h9.all hl1 h10) ?_
   rintro _ w5 ⟨rfl, x5⟩
   refine ⟨_, rfl, x5, ?_⟩
   have sx5 := x5.size
   refine pu 2 rfl ?_
   have j3 := j2.tr x5
   by_cases c3 : y3 = true
   ·rw [if_pos c3] at H
    refine RW.bool 16 (b' := true) (c3) rfl (pu 1 rfl ?_)
    have h11 := h8.ext x5
    refine RW.ld tk [.slice A2 p0.Late.length c_2] (h11.at 3) ?_
    have h12 := ((((h2.ext x1).ext x2).ext x3).ext x4).ext x5
    obtain ⟨y4, h13, H⟩ := bind_some H
    refine RW.cl ent76 (hermitageref1_Segs.calls k A2 c_2 p0.Late _ _ h12.all hl2 h13) ?_
    rintro _ w6 ⟨rfl, x6⟩
    refine ⟨_, rfl, x6, ?_⟩
    have sx6 := x6.size
    refine pu 2 rfl ?_
    have j4 := j3.tr x6
    by_cases c4 : y4 = true
    ·rw [if_pos c4] at H
     refine RW.bool 21 (b' := true) (c4) rfl (pu 2 rfl ?_)
     have h14 := h11.ext x6
     refine RW.lb tk [.slice A1 p0.Free.length c_1] h14 2 ?_
     refine RW.lb tk [iv p0.Size] h14 1 ?_
     have h15 := (h9.ext x5).ext x6
     obtain ⟨y5, h16, H⟩ := bind_some H
     refine RW.cl ent77 (hermitageref1_Ends.calls A1 c_1 p0.Free _ _ h15.all hl1 h16) ?_
     rintro _ w7 ⟨rfl, x7⟩
     refine ⟨_, rfl, x7, ?_⟩
     have sx7 := x7.size
     refine pu 3 rfl ?_
     have j5 := j4.tr x7
     by_cases c5 : y5 ≤ p0.Size
     ·rw [if_pos c5] at H
      refine RW.bool 29 (b' := true) (decide_eq_true c5) rfl (pu 2 rfl ?_)
      have h17 := h14.ext x7
      refine RW.ld tk [.slice A2 p0.Late.length c_2] (h17.at 3) ?_
      refine RW.lb tk [iv p0.Size] h17 1 ?_
      have h18 := (h12.ext x6).ext x7
      obtain ⟨y6, h19, H⟩ := bind_some H
      refine RW.cl ent77 (hermitageref1_Ends.calls A2 c_2 p0.Late _ _ h18.all hl2 h19) ?_
      rintro _ w8 ⟨rfl, x8⟩
      refine ⟨_, rfl, x8, ?_⟩
      have sx8 := x8.size
      refine pu 3 rfl ?_
      have j6 := j5.tr x8
      by_cases c6 : y6 ≤ p0.Size
      ·rw [if_pos c6] at H
       refine RW.bool 37 (b' := true) (decide_eq_true c6) rfl (pu 2 rfl ?_)
       have h20 := h17.ext x8
       refine RW.lb tk [.slice A1 p0.Free.length c_1] h20 2 ?_
       refine RW.ld tk [.slice A2 p0.Late.length c_2] (h20.at 3) ?_
       have h21 := (h15.ext x7).ext x8
       have h22 := h18.ext x8
       obtain ⟨y7, h23, H⟩ := bind_some H
       refine RW.cl ent70 (hermitageref1_Two.calls k A1 c_1 p0.Free A2 c_2 p0.Late 2 _ _ h21.all hl1 h22.all hl2 h23) ?_
       rintro _ w9 ⟨A3, c_3, rfl, x9, h24⟩
       refine ⟨_, rfl, x9, ?_⟩
       have sx9 := x9.size
       have h25 : Ow kSeg 105 w9.heap (okL [(w8.heap.size, some w9.heap.size, some 105)]) (okL []) A3 c_3 y7 := h24.close
       refine pu 4 rfl (RW.done (NW.next (CW.ret ?_)))
       obtain rfl := Option.some.inj H
       have h26 := j6.tr x9
       exact NW.ret1 rfl (by rfl) ⟨rfl, h26⟩
      rw [if_neg c6] at H
      refine RW.bool 37 (b' := false) (decide_eq_false c6) rfl (pu 9 rfl (RW.done (NW.next (CW.ret ?_))))
      obtain rfl := Option.some.inj H
      exact NW.ret1 rfl (by rfl) ⟨rfl, j6⟩
     rw [if_neg c5] at H
     refine RW.bool 29 (b' := false) (decide_eq_false c5) rfl (pu 17 rfl (RW.done (NW.next (CW.ret ?_))))
     obtain rfl := Option.some.inj H
     exact NW.ret1 rfl (by rfl) ⟨rfl, j5⟩
    rw [if_neg c4] at H
    refine RW.bool 21 (b' := false) (bool_f c4) rfl (pu 25 rfl (RW.done (NW.next (CW.ret ?_))))
    obtain rfl := Option.some.inj H
    exact NW.ret1 rfl (by rfl) ⟨rfl, j4⟩
   rw [if_neg c3] at H
   refine RW.bool 16 (b' := false) (bool_f c3) rfl (pu 30 rfl (RW.done (NW.next (CW.ret ?_))))
   obtain rfl := Option.some.inj H
   exact NW.ret1 rfl (by rfl) ⟨rfl, j3⟩
  rw [if_neg c2] at H
  refine RW.bool 11 (b' := false) (bool_f c2) rfl (pu 35 rfl (RW.done (NW.next (CW.ret ?_))))
  obtain rfl := Option.some.inj H
  exact NW.ret1 rfl (by rfl) ⟨rfl, j2⟩
 rw [if_neg c1] at H
 refine RW.bool 6 (b' := false) (bool_f c1) rfl (pu 40 rfl (RW.done (NW.next (CW.ret ?_))))
 obtain rfl := Option.some.inj H
 exact NW.ret1 rfl (by rfl) ⟨rfl, j1⟩
theorem hermitageref7_Devices.calls (k : Nat) (A1 : Option Addr) (c_1 : Nat) (p0 : List Device) (r : Bool) (w : World) (hs1 : Sl kDeviceR w.heap okAll A1 p0) (hl1 : p0.length ≤ c_1) (H : hermitageref7_Devices.f k p0 = some r) :
    Calls Tryz.prog 20 #[.slice A1 p0.length c_1] w fun e w' => e = .returned (.bool r) ∧ Ext w w' := by
 have h1 : Sl kDeviceR w.heap (okL [(0, some w.heap.size, none)]) A1 p0 := hs1.old _ rfl
 have x0 : Ext w w := Upd.refl _ w
 unfold hermitageref7_Devices.f at H
 refine calls_start Tryz.func20 rfl 37 rfl [.slice A1 p0.length c_1] rfl ?_
 refine CW.seq (CW.lw 1 rfl (pu 1 rfl (RW.done (NW.next ?_))))
 refine CW.seq (CW.seq (CW.lw 3 rfl (pu 3 rfl (RW.done ?_))))
 refine NW.next ?_
 by_cases c1 : 6 < (p0.length : Int)
 ·rw [if_pos c1] at H
  refine CW.cond_t rfl (decide_eq_true c1) (CW.seq (CW.lw 1 rfl (pu 1 rfl (RW.done ?_))))
  refine NW.next (CW.ret (NW.ret_then ?_))
  obtain rfl := Option.some.inj H
  exact NW.ret1 rfl (by rfl) ⟨rfl, x0⟩
 rw [if_neg c1] at H
 refine CW.cond_f rfl (decide_eq_false c1) (CW.skip (NW.next (CW.seq (CW.seq ?_))))
 refine CW.lw 1 rfl (pu 1 rfl (RW.done (NW.next (CW.block ?_))))
 refine CW.loop (fun n1 a w1 => ∃ (it3_0 : Int), Sat 37 [(0, .slice A1 p0.length c_1), (3, iv it3_0)] a ∧ w.heap.size ≤ w1.heap.size ∧ Ext w w1 ∧ hermitageref7_Devices.l0 p0 k n1 it3_0 = some r) k ?_ ?_
 ·exact fun a ha => ⟨0, ha.sb, by omega, x0, H⟩
 intro n1 a w1 hI hp
 obtain ⟨it3_0, hS, hle, x0_0, H⟩ := hI
 cases n1 with
 | zero => cases H
 | succ n1 =>
  rw [hermitageref7_Devices.l0] at H
  refine CW.go hp hS (CW.seq (CW.seq (CW.lw 4 rfl (pu 4 rfl ?_))))
  refine RW.done (NW.next ?_)
  by_cases c2 : it3_0 < (p0.length : Int)
  ·rw [if_pos c2] at H
   refine CW.cond_t rfl (decide_eq_true c2) (CW.skip (NW.next (CW.seq (CW.block ?_))))
   refine CW.seqJ (fun a w2 => ∃ (bt36_1 : Bool), Sat 37 [(0, .slice A1 p0.length c_1), (3, iv it3_0), (36, .bool bt36_1)] a ∧ w1.heap.size ≤ w2.heap.size ∧ Ext w w2 ∧ hermitageref7_Devices.j0 it3_0 (hermitageref7_Devices.l0 p0 k n1) bt36_1 = some r) ?_ ?_
   ·refine CW.ord [0, 0, 3, 7, 15, 31, 63, 127, 255, 511, 1023, 1023, 3071, 8191, 16383, 32767, 1023, 1023, 197631, 459775, 984063, 2097151, 4194303, 8388607] (ofL [(0, .W), (1, .W), (2, .W), (3, .L), (4, .X), (5, .W), (6, .W), (7, .W), (8, .W), (9, .W), (10, .W), (11, .W), (12, .W), (13, .W), (14, .W), (16, .W), (17, .W), (18, .W), (19, .W), (15, .L), (20, .L), (21, .W), (22, .W), (23, .W)] .nil) mixed (by kernel_rfl) ?_
    intro w3 x1
    have sx1 := x1.size
    refine pu 2 rfl ?_
    obtain ⟨g1, H⟩ := guard_some H
    have h2 := (h1.ext x0_0).ext x1
    obtain ⟨ad1, A2, c_2, A3, c_3, e1, a1, l1, h3, l2, h4⟩ := kDeviceR_at h2 g1.1 g1.2
    refine RW.ix tk g1 e1 ?_
    refine RW.ld tk [iv ((rd p0 it3_0).ID), iv ((rd p0 it3_0).Size), .slice A2 ((rd p0 it3_0).Free).length c_2, .slice A3 ((rd p0 it3_0).Late).length c_3] a1 ?_
    obtain ⟨y1, h5, H⟩ := bind_some H
    refine RW.cl ent50 (hermitageref7_Device.calls k (rd p0 it3_0) A2 c_2 A3 c_3 _ _ h3.all l1 h4.all l2 h5) ?_
    rintro _ w4 ⟨rfl, x2⟩
    refine ⟨_, rfl, x2, ?_⟩
    have sx2 := x2.size
    refine pu 2 rfl ?_
    have j1 := (x0_0.tr x1).tr x2
    by_cases c3 : y1 = true
    ·rw [if_pos c3] at H
     refine RW.bool 19 (b' := false) (not_f (c3)) rfl (pu 3 rfl ?_)
     by_cases c4 : 0 < it3_0
     ·rw [if_pos c4] at H
      refine RW.bool 22 (b' := true) (decide_eq_true c4) rfl (pu 3 rfl ?_)
      obtain ⟨g2, H⟩ := guard_some H
      have h6 := h2.ext x2
      obtain ⟨ad2, A4, c_4, A5, c_5, e2, a2, l3, h7, l4, h8⟩ := kDeviceR_at h6 g2.1 g2.2
      refine RW.ix tk g2 e2 ?_
      refine pu 3 rfl ?_
      obtain ⟨g3, H⟩ := guard_some H
      obtain ⟨ad3, A6, c_6, A7, c_7, e3, a3, l5, h9, l6, h10⟩ := kDeviceR_at h6 g3.1 g3.2
      refine RW.ix tk g3 e3 ?_
      refine pu 1 rfl (RW.ld tk [iv ((rd p0 (w64 (it3_0 - 1))).ID)] ((a2.fld 0).take 1 rfl) ?_)
      refine RW.ld tk [iv ((rd p0 it3_0).ID)] ((a3.fld 0).take 1 rfl) ?_
      refine pu 3 rfl (RW.done ?_)
      exact NW.J fun a ha => ⟨(decide (((rd p0 it3_0).ID) ≤ ((rd p0 (w64 (it3_0 - 1))).ID))), ha.sb, by omega, j1, H⟩
     rw [if_neg c4] at H
     refine RW.bool 22 (b' := false) (decide_eq_false c4) rfl (pu 14 rfl (RW.done ?_))
     exact NW.J fun a ha => ⟨false, ha.sb, by omega, j1, H⟩
    rw [if_neg c3] at H
    refine RW.bool 19 (b' := true) (not_t (bool_f c3)) rfl (pu 17 rfl (RW.done ?_))
    exact NW.J fun a ha => ⟨true, ha.sb, by omega, j1, H⟩
   intro a w2 hJ hp
   obtain ⟨bt36_1, hS, hle, x0_1, H⟩ := hJ
   unfold hermitageref7_Devices.j0 at H
   refine CW.go hp hS ?_
   by_cases c5 : bt36_1 = true
   ·rw [if_pos c5] at H
    refine CW.cond_t rfl (c5) (CW.seq (CW.lw 1 rfl (pu 1 rfl (RW.done ?_))))
    refine NW.next (CW.ret ?_)
    refine NW.ret_block (NW.ret_then (NW.ret_then (NW.ret_block (NW.ret_then ?_))))
    obtain rfl := Option.some.inj H
    exact NW.ret1 rfl (by rfl) ⟨rfl, x0_1⟩
   rw [if_neg c5] at H
   refine CW.cond_f rfl (bool_f c5) (CW.skip ?_)
   refine NW.norm_block (NW.next ?_)
   refine CW.lw 3 rfl (pu 3 rfl (RW.done ?_))
   exact NW.J fun a ha => ⟨n1, Nat.lt_succ_self n1, (w64 (it3_0 + 1)), ha.sb, by omega, x0_1, H⟩
  rw [if_neg c2] at H
  refine CW.cond_f rfl (decide_eq_false c2) (CW.exit ?_)
  refine NW.exit_then (NW.exit_then (NW.exit_hit ?_))
  refine NW.next (CW.seq (CW.lw 1 rfl (pu 1 rfl (RW.done ?_))))
  refine NW.next (CW.ret ?_)
  obtain rfl := Option.some.inj H
  exact NW.ret1 rfl (by rfl) ⟨rfl, x0_0⟩
theorem hermitageref0_Num.calls (p0 : Int) (p1 : Int) (r : Bool) (w : World) (H : hermitageref0_Num.f p0 p1 = some r) :
    Calls Tryz.prog 29 #[iv p0, iv p1] w fun e w' => e = .returned (.bool r) ∧ Ext w w' := by
 have x0 : Ext w w := Upd.refl _ w
 unfold hermitageref0_Num.f at H
 refine calls_start Tryz.func29 rfl 12 rfl [iv p0, iv p1] rfl ?_
 refine CW.seq (CW.lw 1 rfl (pu 1 rfl (RW.done (NW.next ?_))))
 refine CW.seq (CW.lw 8 rfl (pu 3 rfl ?_))
 by_cases c1 : 0 ≤ p0
 ·rw [if_pos c1] at H
  refine RW.bool 7 (b' := true) (decide_eq_true c1) rfl (pu 5 rfl (RW.done (NW.next (CW.ret ?_))))
  obtain rfl := Option.some.inj H
  exact NW.ret1 rfl (by rfl) ⟨rfl, x0⟩
 rw [if_neg c1] at H
 refine RW.bool 7 (b' := false) (decide_eq_false c1) rfl (pu 5 rfl (RW.done (NW.next (CW.ret ?_))))
 obtain rfl := Option.some.inj H
 exact NW.ret1 rfl (by rfl) ⟨rfl, x0⟩
theorem hermitageref7_Place.calls (p0 : Int) (p1 : Ptr) (p2 : Int) (r : Bool) (w : World) (H : hermitageref7_Place.f p0 p1 p2 = some r) :
    Calls Tryz.prog 51 #[iv p0, .agg #[iv p1.Dev, iv p1.At], iv p2] w fun e w' => e = .returned (.bool r) ∧ Ext w w' := by
 have x0 : Ext w w := Upd.refl _ w
 unfold hermitageref7_Place.f at H
 refine calls_start Tryz.func51 rfl 36 rfl [iv p0, .agg #[iv p1.Dev, iv p1.At], iv p2] rfl ?_
 refine CW.seq (CW.lex [.X, .W] rfl (RW.box (cs := [iv p1.Dev, iv p1.At]) (.inl rfl) ⟨rfl, rfl, rfl, rfl⟩ rfl rfl rfl ?_))
 intro b1 w1 x1 l1 h1
 have sx1 := x1.size
 have ltb1 := h1.lt
 refine pu 1 rfl (RW.done (NW.next (CW.seq (CW.lex [.W, .L, .X, .W, .W, .L, .W, .W, .W, .W, .W, .L, .W, .W, .W, .W, .W, .W, .W, .W, .W, .W, .W, .W, .L, .W, .W, .W, .W, .W] rfl ?_))))
 refine pu 1 rfl (RW.lb tk [iv p1.Dev] h1 0 ?_)
 obtain ⟨y1, h2, H⟩ := bind_some H
 refine RW.cl ent21 (hermitageref0_Between.calls p1.Dev 1 40 _ _ h2) ?_
 rintro _ w2 ⟨rfl, x2⟩
 refine ⟨_, rfl, x2, ?_⟩
 have sx2 := x2.size
 refine pu 1 rfl ?_
 have j1 := (x0.tr x1).tr x2
 by_cases c1 : y1 = true
 ·rw [if_pos c1] at H
  refine RW.bool 10 (b' := true) (c1) rfl (pu 1 rfl ?_)
  have h3 := h1.ext x2
  refine RW.lb tk [iv p1.Dev] h3 0 ?_
  refine pu 4 rfl ?_
  by_cases c2 : p1.Dev = p0
  ·rw [if_pos c2] at H
   refine RW.bool 16 (b' := false) (bne_f c2) rfl (pu 20 rfl (RW.done (NW.next (CW.ret ?_))))
   obtain rfl := Option.some.inj H
   exact NW.ret1 rfl (by rfl) ⟨rfl, j1⟩
  rw [if_neg c2] at H
  refine RW.bool 16 (b' := true) (bne_t c2) rfl (pu 1 rfl (RW.ld tk [iv p1.At] (h3.at 1) ?_))
  refine pu 3 rfl ?_
  by_cases c3 : 0 ≤ p1.At
  ·rw [if_pos c3] at H
   refine RW.bool 21 (b' := true) (decide_eq_true c3) rfl (pu 4 rfl ?_)
   by_cases c4 : 1 ≤ p2
   ·rw [if_pos c4] at H
    refine RW.bool 25 (b' := true) (decide_eq_true c4) rfl (pu 4 rfl ?_)
    by_cases c5 : p2 ≤ 64
    ·rw [if_pos c5] at H
     refine RW.bool 29 (b' := true) (decide_eq_true c5) rfl (pu 1 rfl (RW.ld tk [iv p1.At] (h3.at 1) ?_))
     refine pu 5 rfl (RW.done (NW.next (CW.ret ?_)))
     obtain rfl := Option.some.inj H
     exact NW.ret1 rfl (by rfl) ⟨rfl, j1⟩
    rw [if_neg c5] at H
    refine RW.bool 29 (b' := false) (decide_eq_false c5) rfl (pu 7 rfl (RW.done (NW.next (CW.ret ?_))))
    obtain rfl := Option.some.inj H
    exact NW.ret1 rfl (by rfl) ⟨rfl, j1⟩
   rw [if_neg c4] at H
   refine RW.bool 25 (b' := false) (decide_eq_false c4) rfl (pu 11 rfl (RW.done (NW.next (CW.ret ?_))))
   obtain rfl := Option.some.inj H
   exact NW.ret1 rfl (by rfl) ⟨rfl, j1⟩
  rw [if_neg c3] at H
  refine RW.bool 21 (b' := false) (decide_eq_false c3) rfl (pu 15 rfl (RW.done (NW.next (CW.ret ?_))))
  obtain rfl := Option.some.inj H
  exact NW.ret1 rfl (by rfl) ⟨rfl, j1⟩
 rw [if_neg c1] at H
 refine RW.bool 10 (b' := false) (bool_f c1) rfl (pu 26 rfl (RW.done (NW.next (CW.ret ?_))))
 obtain rfl := Option.some.inj H
 exact NW.ret1 rfl (by rfl) ⟨rfl, j1⟩
theorem hermitageref7_Table.calls (k : Nat) (p0 : Table) (A1 : Option Addr) (c_1 : Nat) (r : Bool) (w : World) (hs1 : Sl kEntry w.heap okAll A1 p0.List_) (hl1 : p0.List_.length ≤ c_1) (H : hermitageref7_Table.f k p0 = some r) :
    Calls Tryz.prog 22 #[.agg #[iv p0.Dev, iv p0.Size, .slice A1 p0.List_.length c_1]] w fun e w' => e = .returned (.bool r) ∧ Ext w w' := by
 have h1 : Sl kEntry w.heap (okL [(0, some w.heap.size, none)]) A1 p0.List_ := hs1.old _ rfl
 have x0 : Ext w w := Upd.refl _ w
 unfold hermitageref7_Table.f at H
 refine calls_start Tryz.func22 rfl 80 rfl [.agg #[iv p0.Dev, iv p0.Size, .slice A1 p0.List_.length c_1]] rfl ?_
 refine CW.seq (CW.lex [.X, .W] rfl (RW.box (cs := [iv p0.Dev, iv p0.Size, .slice A1 p0.List_.length c_1]) (.inl rfl) ⟨rfl, rfl, rfl, rfl⟩ rfl rfl rfl ?_))
 intro b1 w1 x1 l1 h2
 have sx1 := x1.size
 have ltb1 := h2.lt
 refine pu 1 rfl (RW.done (NW.next (CW.seq ?_)))
 refine CW.seqJ (fun a w2 => ∃ (bt15_0 : Bool), Sat 80 [(1, .pointer (some ⟨b1, 0, none⟩)), (15, .bool bt15_0)] a ∧ w1.heap.size ≤ w2.heap.size ∧ Ext w w2 ∧ Box w2.heap b1 26 [iv p0.Dev, iv p0.Size, .slice A1 p0.List_.length c_1] ∧ hermitageref7_Table.j0 p0 k bt15_0 = some r) ?_ ?_
 ·refine CW.lex [.W, .L, .X, .W, .W, .W, .L, .X, .W, .W] rfl (pu 1 rfl (RW.lb tk [iv p0.Dev] h2 0 ?_))
  obtain ⟨y1, h3, H⟩ := bind_some H
  refine RW.cl ent21 (hermitageref0_Between.calls p0.Dev 1 40 _ _ h3) ?_
  rintro _ w3 ⟨rfl, x2⟩
  refine ⟨_, rfl, x2, ?_⟩
  have sx2 := x2.size
  refine pu 2 rfl ?_
  have j1 := h2.ext x2
  have j2 := (x0.tr x1).tr x2
  by_cases c1 : y1 = true
  ·rw [if_pos c1] at H
   refine RW.bool 10 (b' := false) (not_f (c1)) rfl (pu 1 rfl (RW.lb tk [iv p0.Size] j1 1 ?_))
   obtain ⟨y2, h5, H⟩ := bind_some H
   refine RW.cl ent21 (hermitageref0_Between.calls p0.Size 1 64 _ _ h5) ?_
   rintro _ w4 ⟨rfl, x3⟩
   refine ⟨_, rfl, x3, ?_⟩
   have sx3 := x3.size
   refine pu 2 rfl (RW.done ?_)
   have h6 := j2.tr x3
   have h7 := j1.ext x3
   exact NW.J fun a ha => ⟨(!y2), ha.sb, by omega, h6, h7, H⟩
  rw [if_neg c1] at H
  refine RW.bool 10 (b' := true) (not_t (bool_f c1)) rfl (pu 5 rfl (RW.done ?_))
  exact NW.J fun a ha => ⟨true, ha.sb, by omega, j2, j1, H⟩
 intro a w2 hJ hp
 obtain ⟨bt15_0, hS, hle, x0_0, gb1_0, H⟩ := hJ
 unfold hermitageref7_Table.j0 at H
 refine CW.go hp hS ?_
 have xt1 : Ext w2 w2 := Upd.refl _ _
 by_cases c2 : bt15_0 = true
 ·rw [if_pos c2] at H
  refine CW.cond_t rfl (c2) (CW.seq (CW.lw 1 rfl (pu 1 rfl (RW.done ?_))))
  refine NW.next (CW.ret (NW.ret_then ?_))
  obtain rfl := Option.some.inj H
  exact NW.ret1 rfl (by rfl) ⟨rfl, x0_0⟩
 rw [if_neg c2] at H
 refine CW.cond_f rfl (bool_f c2) (CW.skip (NW.next (CW.seq (CW.lw 1 rfl ?_))))
 refine pu 1 rfl (RW.done (NW.next (CW.seq (CW.seq ?_))))
 refine CW.lw 1 rfl (pu 1 rfl (RW.done (NW.next (CW.block ?_))))
 refine CW.loop (fun n1 a w5 => ∃ (it3_1 : Int) (it4_1 : Int), Sat 80 [(1, .pointer (some ⟨b1, 0, none⟩)), (3, iv it3_1), (4, iv it4_1)] a ∧ w2.heap.size ≤ w5.heap.size ∧ Ext w w5 ∧ Ext w2 w5 ∧ hermitageref7_Table.l0 p0 n1 it3_1 it4_1 = some r) k ?_ ?_
 ·exact fun a ha => ⟨0, 0, ha.sb, by omega, x0_0, xt1, H⟩
 intro n1 a w5 hI hp
 obtain ⟨it3_1, it4_1, hS, hle, x0_1, x_xt1_1, H⟩ := hI
 cases n1 with
 | zero => cases H
 | succ n1 =>
  rw [hermitageref7_Table.l0] at H
  refine CW.go hp hS (CW.seq (CW.seq (CW.lex [.W, .W, .L, .W, .W] rfl (pu 2 rfl ?_))))
  refine RW.ld tk [.slice A1 p0.List_.length c_1] ((gb1_0.ext x_xt1_1).at 2) ?_
  refine pu 2 rfl (RW.done (NW.next ?_))
  by_cases c3 : it4_1 < (p0.List_.length : Int)
  ·rw [if_pos c3] at H
   refine CW.cond_t rfl (decide_eq_true c3) (CW.skip (NW.next (CW.seq (CW.block ?_))))
   refine CW.seq (CW.lex [.W, .L, .W, .W, .L, .X, .M] rfl (pu 1 rfl (RW.ld tk [.slice A1 p0.List_.length c_1] ((gb1_0.ext x_xt1_1).at 2) ?_)))
   refine pu 1 rfl ?_
   obtain ⟨g1, H⟩ := guard_some H
   obtain ⟨ad1, e1, a1⟩ := kEntry_at (h1.ext x0_1) g1.1 g1.2
   refine RW.ix tk g1 e1 ?_
   refine RW.ld tk [iv ((rd p0.List_ it4_1).From), iv ((rd p0.List_ it4_1).Len), iv ((rd p0.List_ it4_1).Dev), iv ((rd p0.List_ it4_1).To), iv ((rd p0.List_ it4_1).Stale)] a1 ?_
   refine RW.alloc tk (.inl rfl) ⟨rfl, rfl, rfl, rfl⟩ rfl rfl ?_
   intro b2 w6 x4 l2 h10
   have sx4 := x4.size
   have ltb2 := h10.lt
   refine RW.sb tk h10 [iv ((rd p0.List_ it4_1).From), iv ((rd p0.List_ it4_1).Len), iv ((rd p0.List_ it4_1).Dev), iv ((rd p0.List_ it4_1).To), iv ((rd p0.List_ it4_1).Stale)] ?_
   intro w7 x5 h11
   have h12 : Box w7.heap b2 66 [iv ((rd p0.List_ it4_1).From), iv ((rd p0.List_ it4_1).Len), iv ((rd p0.List_ it4_1).Dev), iv ((rd p0.List_ it4_1).To), iv ((rd p0.List_ it4_1).Stale)] := h11
   have sx5 := x5.size
   refine RW.done (NW.next (CW.seq ?_))
   refine CW.seqJ (fun a w8 => ∃ (bt74_2 : Bool), Sat 80 [(1, .pointer (some ⟨b1, 0, none⟩)), (4, iv it4_1), (5, .pointer (some ⟨b2, 0, none⟩)), (74, .bool bt74_2)] a ∧ w7.heap.size ≤ w8.heap.size ∧ Ext w w8 ∧ Ext w2 w8 ∧ Box w8.heap b2 66 [iv ((rd p0.List_ it4_1).From), iv ((rd p0.List_ it4_1).Len), iv ((rd p0.List_ it4_1).Dev), iv ((rd p0.List_ it4_1).To), iv ((rd p0.List_ it4_1).Stale)] ∧ hermitageref7_Table.j1 p0 it4_1 (hermitageref7_Table.l0 p0 n1) bt74_2 = some r) ?_ ?_
   ·refine CW.lex [.W, .L, .W, .W, .W, .W, .L, .W, .W, .W, .W, .L, .W, .L, .W, .W, .W, .W, .L, .W, .L, .W, .L, .W, .W, .W, .W, .W, .L, .W, .L, .W, .L, .W, .W, .L, .X, .W, .W, .W, .W, .L, .W, .L, .X, .W, .W] rfl (pu 1 rfl (RW.lb tk [iv ((rd p0.List_ it4_1).From)] h12 0 ?_))
    refine pu 3 rfl ?_
    have j3 := (x0_1.tr x4).tB x5
    have j4 := (x_xt1_1.tr x4).tB x5
    by_cases c4 : ((rd p0.List_ it4_1).From) < it3_1
    ·rw [if_pos c4] at H
     refine RW.bool 32 (b' := true) (decide_eq_true c4) rfl (pu 42 rfl (RW.done ?_))
     exact NW.J fun a ha => ⟨true, ha.sb, by omega, j3, j4, h12, H⟩
    rw [if_neg c4] at H
    refine RW.bool 32 (b' := false) (decide_eq_false c4) rfl (pu 1 rfl (RW.lb tk [iv ((rd p0.List_ it4_1).Len)] h12 1 ?_))
    refine pu 3 rfl ?_
    by_cases c5 : ((rd p0.List_ it4_1).Len) < 1
    ·rw [if_pos c5] at H
     refine RW.bool 37 (b' := true) (decide_eq_true c5) rfl (pu 37 rfl (RW.done ?_))
     exact NW.J fun a ha => ⟨true, ha.sb, by omega, j3, j4, h12, H⟩
    rw [if_neg c5] at H
    refine RW.bool 37 (b' := false) (decide_eq_false c5) rfl (pu 1 rfl (RW.lb tk [iv ((rd p0.List_ it4_1).Len)] h12 1 ?_))
    refine pu 1 rfl ?_
    have h17 := ((gb1_0.ext x_xt1_1).ext x4).tB x5
    refine RW.lb tk [iv p0.Size] h17 1 ?_
    refine pu 3 rfl ?_
    by_cases c6 : p0.Size < ((rd p0.List_ it4_1).Len)
    ·rw [if_pos c6] at H
     refine RW.bool 44 (b' := true) (decide_eq_true c6) rfl (pu 30 rfl (RW.done ?_))
     exact NW.J fun a ha => ⟨true, ha.sb, by omega, j3, j4, h12, H⟩
    rw [if_neg c6] at H
    refine RW.bool 44 (b' := false) (decide_eq_false c6) rfl (pu 1 rfl (RW.lb tk [iv ((rd p0.List_ it4_1).From)] h12 0 ?_))
    refine pu 1 rfl (RW.lb tk [iv p0.Size] h17 1 ?_)
    refine pu 1 rfl (RW.lb tk [iv ((rd p0.List_ it4_1).Len)] h12 1 ?_)
    refine pu 4 rfl ?_
    by_cases c7 : (w64 (p0.Size - ((rd p0.List_ it4_1).Len))) < ((rd p0.List_ it4_1).From)
    ·rw [if_pos c7] at H
     refine RW.bool 54 (b' := true) (decide_eq_true c7) rfl (pu 20 rfl (RW.done ?_))
     exact NW.J fun a ha => ⟨true, ha.sb, by omega, j3, j4, h12, H⟩
    rw [if_neg c7] at H
    refine RW.bool 54 (b' := false) (decide_eq_false c7) rfl (pu 1 rfl (RW.lb tk [iv p0.Dev] h17 0 ?_))
    refine pu 1 rfl (RW.lb tk [iv ((rd p0.List_ it4_1).Dev)] h12 2 ?_)
    refine pu 1 rfl (RW.lb tk [iv ((rd p0.List_ it4_1).To)] h12 3 ?_)
    refine pu 2 rfl (RW.lb tk [iv ((rd p0.List_ it4_1).Len)] h12 1 ?_)
    obtain ⟨y3, h22, H⟩ := bind_some H
    refine RW.cl ent51 (hermitageref7_Place.calls p0.Dev (⟨(rd p0.List_ it4_1).Dev, (rd p0.List_ it4_1).To⟩ : Ptr) ((rd p0.List_ it4_1).Len) _ _ h22) ?_
    rintro _ w9 ⟨rfl, x6⟩
    refine ⟨_, rfl, x6, ?_⟩
    have sx6 := x6.size
    refine pu 3 rfl ?_
    have j5 := h12.ext x6
    have j6 := j3.tr x6
    have j7 := j4.tr x6
    by_cases c8 : y3 = true
    ·rw [if_pos c8] at H
     refine RW.bool 67 (b' := false) (not_f (c8)) rfl (pu 1 rfl (RW.ld tk [iv ((rd p0.List_ it4_1).Stale)] (j5.at 4) ?_))
     refine pu 1 rfl (RW.lb tk [iv ((rd p0.List_ it4_1).Len)] j5 1 ?_)
     obtain ⟨y4, h24, H⟩ := bind_some H
     refine RW.cl ent29 (hermitageref0_Num.calls ((rd p0.List_ it4_1).Stale) ((rd p0.List_ it4_1).Len) _ _ h24) ?_
     rintro _ w10 ⟨rfl, x7⟩
     refine ⟨_, rfl, x7, ?_⟩
     have sx7 := x7.size
     refine pu 2 rfl (RW.done ?_)
     have h25 := j6.tr x7
     have h26 := j7.tr x7
     have h27 := j5.ext x7
     exact NW.J fun a ha => ⟨(!y4), ha.sb, by omega, h25, h26, h27, H⟩
    rw [if_neg c8] at H
    refine RW.bool 67 (b' := true) (not_t (bool_f c8)) rfl (pu 7 rfl (RW.done ?_))
    exact NW.J fun a ha => ⟨true, ha.sb, by omega, j6, j7, j5, H⟩
   intro a w8 hJ hp
   obtain ⟨bt74_2, hS, hle, x0_2, x_xt1_2, gb2_2, H⟩ := hJ
   unfold hermitageref7_Table.j1 at H
   refine CW.go hp hS ?_
   have xt2 : Ext w8 w8 := Upd.refl _ _
   by_cases c9 : bt74_2 = true
   ·rw [if_pos c9] at H
    refine CW.cond_t rfl (c9) (CW.seq (CW.lw 1 rfl (pu 1 rfl (RW.done ?_))))
    refine NW.next (CW.ret ?_)
    refine NW.ret_then (NW.ret_block (NW.ret_then (NW.ret_then (NW.ret_block (NW.ret_then ?_)))))
    obtain rfl := Option.some.inj H
    exact NW.ret1 rfl (by rfl) ⟨rfl, x0_2⟩
   rw [if_neg c9] at H
   refine CW.cond_f rfl (bool_f c9) (CW.skip (NW.next (CW.lex [.W, .L, .W, .L, .W, .W] rfl (pu 1 rfl ?_))))
   refine RW.lb tk [iv ((rd p0.List_ it4_1).From)] gb2_2 0 ?_
   refine pu 1 rfl (RW.lb tk [iv ((rd p0.List_ it4_1).Len)] gb2_2 1 ?_)
   refine pu 2 rfl (RW.done ?_)
   refine NW.norm_block (NW.next ?_)
   refine CW.lw 3 rfl (pu 3 rfl (RW.done ?_))
   exact NW.J fun a ha => ⟨n1, Nat.lt_succ_self n1, (w64 (((rd p0.List_ it4_1).From) + ((rd p0.List_ it4_1).Len))), (w64 (it4_1 + 1)), ha.sb, by omega, x0_2, x_xt1_2, H⟩
  rw [if_neg c3] at H
  refine CW.cond_f rfl (decide_eq_false c3) (CW.exit ?_)
  refine NW.exit_then (NW.exit_then (NW.exit_hit ?_))
  refine NW.next (CW.seq (CW.lw 1 rfl (pu 1 rfl (RW.done ?_))))
  refine NW.next (CW.ret ?_)
  obtain rfl := Option.some.inj H
  exact NW.ret1 rfl (by rfl) ⟨rfl, x0_1⟩
theorem hermitageref7_At.calls (k : Nat) (A1 : Option Addr) (c_1 : Nat) (p0 : List Device) (p1 : Int) (r : Int) (w : World) (hs1 : Sl kDeviceR w.heap okAll A1 p0) (hl1 : p0.length ≤ c_1) (H : hermitageref7_At.f k p0 p1 = some r) :
    Calls Tryz.prog 23 #[.slice A1 p0.length c_1, iv p1] w fun e w' => e = .returned (iv r) ∧ Ext w w' := by
 have h1 : Sl kDeviceR w.heap (okL [(0, some w.heap.size, none)]) A1 p0 := hs1.old _ rfl
 have x0 : Ext w w := Upd.refl _ w
 unfold hermitageref7_At.f at H
 refine calls_start Tryz.func23 rfl 20 rfl [.slice A1 p0.length c_1, iv p1] rfl ?_
 refine CW.seq (CW.lw 1 rfl (pu 1 rfl (RW.done (NW.next ?_))))
 refine CW.seq (CW.seq (CW.lw 1 rfl (pu 1 rfl (RW.done ?_))))
 refine NW.next (CW.block ?_)
 refine CW.loop (fun n1 a w1 => ∃ (it5_0 : Int), Sat 20 [(0, .slice A1 p0.length c_1), (1, iv p1), (5, iv it5_0)] a ∧ w.heap.size ≤ w1.heap.size ∧ Ext w w1 ∧ hermitageref7_At.l0 p0 p1 n1 it5_0 = some r) k ?_ ?_
 ·exact fun a ha => ⟨0, ha.sb, by omega, x0, H⟩
 intro n1 a w1 hI hp
 obtain ⟨it5_0, hS, hle, x0_0, H⟩ := hI
 cases n1 with
 | zero => cases H
 | succ n1 =>
  rw [hermitageref7_At.l0] at H
  refine CW.go hp hS (CW.seq (CW.seq (CW.lw 4 rfl (pu 4 rfl ?_))))
  refine RW.done (NW.next ?_)
  by_cases c1 : it5_0 < (p0.length : Int)
  ·rw [if_pos c1] at H
   refine CW.cond_t rfl (decide_eq_true c1) (CW.skip (NW.next (CW.seq (CW.block ?_))))
   refine CW.seq (CW.lex [.W, .W, .W, .W, .L, .W, .W] rfl (pu 2 rfl ?_))
   obtain ⟨g1, H⟩ := guard_some H
   obtain ⟨ad1, A2, c_2, A3, c_3, e1, a1, l1, h2, l2, h3⟩ := kDeviceR_at (h1.ext x0_0) g1.1 g1.2
   refine RW.ix tk g1 e1 ?_
   refine pu 1 rfl (RW.ld tk [iv ((rd p0 it5_0).ID)] ((a1.fld 0).take 1 rfl) ?_)
   refine pu 2 rfl (RW.done (NW.next ?_))
   by_cases c2 : (rd p0 it5_0).ID = p1
   ·rw [if_pos c2] at H
    refine CW.cond_t rfl (beq_t c2) (CW.seq (CW.lw 2 rfl (pu 2 rfl (RW.done ?_))))
    refine NW.next (CW.ret ?_)
    refine NW.ret_block (NW.ret_then (NW.ret_then (NW.ret_block (NW.ret_then ?_))))
    obtain rfl := Option.some.inj H
    exact NW.ret1 rfl (by rfl) ⟨rfl, x0_0⟩
   rw [if_neg c2] at H
   refine CW.cond_f rfl (beq_f c2) (CW.skip ?_)
   refine NW.norm_block (NW.next ?_)
   refine CW.lw 3 rfl (pu 3 rfl (RW.done ?_))
   exact NW.J fun a ha => ⟨n1, Nat.lt_succ_self n1, (w64 (it5_0 + 1)), ha.sb, by omega, x0_0, H⟩
  rw [if_neg c1] at H
  refine CW.cond_f rfl (decide_eq_false c1) (CW.exit ?_)
  refine NW.exit_then (NW.exit_then (NW.exit_hit ?_))
  refine NW.next (CW.seq (CW.lw 1 rfl (pu 1 rfl (RW.done ?_))))
  refine NW.next (CW.ret ?_)
  obtain rfl := Option.some.inj H
  exact NW.ret1 rfl (by rfl) ⟨rfl, x0_0⟩
theorem hermitageref9_Table.calls (k : Nat) (p0 : Pool) (A1 : Option Addr) (c_1 : Nat) (A2 : Option Addr) (c_2 : Nat) (A3 : Option Addr) (c_3 : Nat) (p1 : Int) (r : Int) (w : World) (hs1 : Sl kDeviceR w.heap okAll A1 p0.Devices) (hl1 : p0.Devices.length ≤ c_1) (hs2 : Sl kTableR w.heap okAll A2 p0.Tables) (hl2 : p0.Tables.length ≤ c_2) (hs3 : Sl kEntry w.heap okAll A3 p0.Job.Table.List_) (hl3 : p0.Job.Table.List_.length ≤ c_3) (H : hermitageref9_Table.f k p0 p1 = some r) :
    Calls Tryz.prog 24 #[.agg #[.slice A1 p0.Devices.length c_1, .slice A2 p0.Tables.length c_2, iv p0.Job.Dev, iv p0.Job.At, iv p0.Job.Table.Dev, iv p0.Job.Table.Size, .slice A3 p0.Job.Table.List_.length c_3, iv p0.Next], iv p1] w fun e w' => e = .returned (iv r) ∧ Ext w w' := by
 have h1 : Sl kDeviceR w.heap (okL [(0, some w.heap.size, none)]) A1 p0.Devices := hs1.old _ rfl
 have h2 : Sl kTableR w.heap (okL [(0, some w.heap.size, none)]) A2 p0.Tables := hs2.old _ rfl
 have h3 : Sl kEntry w.heap (okL [(0, some w.heap.size, none)]) A3 p0.Job.Table.List_ := hs3.old _ rfl
 have x0 : Ext w w := Upd.refl _ w
 unfold hermitageref9_Table.f at H
 refine calls_start Tryz.func24 rfl 22 rfl [.agg #[.slice A1 p0.Devices.length c_1, .slice A2 p0.Tables.length c_2, iv p0.Job.Dev, iv p0.Job.At, iv p0.Job.Table.Dev, iv p0.Job.Table.Size, .slice A3 p0.Job.Table.List_.length c_3, iv p0.Next], iv p1] rfl ?_
 refine CW.seq (CW.lex [.X, .W] rfl (RW.box (cs := [.slice A1 p0.Devices.length c_1, .slice A2 p0.Tables.length c_2, iv p0.Job.Dev, iv p0.Job.At, iv p0.Job.Table.Dev, iv p0.Job.Table.Size, .slice A3 p0.Job.Table.List_.length c_3, iv p0.Next]) (.inl rfl) ⟨rfl, rfl, rfl, rfl⟩ rfl rfl rfl ?_))
 intro b1 w1 x1 l1 h4
 have sx1 := x1.size
 have ltb1 := h4.lt
 refine pu 1 rfl (RW.done (NW.next (CW.seq (CW.seq ?_))))
 refine CW.lw 1 rfl (pu 1 rfl (RW.done (NW.next (CW.block ?_))))
 refine CW.loop (fun n1 a w2 => ∃ (it5_0 : Int), Sat 22 [(1, iv p1), (2, .pointer (some ⟨b1, 0, none⟩)), (5, iv it5_0)] a ∧ w1.heap.size ≤ w2.heap.size ∧ Ext w w2 ∧ Box w2.heap b1 30 [.slice A1 p0.Devices.length c_1, .slice A2 p0.Tables.length c_2, iv p0.Job.Dev, iv p0.Job.At, iv p0.Job.Table.Dev, iv p0.Job.Table.Size, .slice A3 p0.Job.Table.List_.length c_3, iv p0.Next] ∧ hermitageref9_Table.l0 p0 p1 n1 it5_0 = some r) k ?_ ?_
 have h5 := x0.tr x1
 ·exact fun a ha => ⟨0, ha.sb, by omega, h5, h4, H⟩
 intro n1 a w2 hI hp
 obtain ⟨it5_0, hS, hle, x0_0, gb1_0, H⟩ := hI
 cases n1 with
 | zero => cases H
 | succ n1 =>
  rw [hermitageref9_Table.l0] at H
  refine CW.go hp hS ?_
  have xt1 : Ext w2 w2 := Upd.refl _ _
  refine CW.seq (CW.seq (CW.lex [.W, .W, .L, .W, .W] rfl (pu 2 rfl (RW.lb tk [.slice A2 p0.Tables.length c_2] gb1_0 1 ?_))))
  refine pu 2 rfl (RW.done (NW.next ?_))
  by_cases c1 : it5_0 < (p0.Tables.length : Int)
  ·rw [if_pos c1] at H
   refine CW.cond_t rfl (decide_eq_true c1) (CW.skip (NW.next (CW.seq (CW.block ?_))))
   refine CW.seq (CW.lex [.W, .L, .W, .W, .W, .L, .W, .W] rfl (pu 1 rfl (RW.lb tk [.slice A2 p0.Tables.length c_2] gb1_0 1 ?_)))
   refine pu 1 rfl ?_
   obtain ⟨g1, H⟩ := guard_some H
   obtain ⟨ad1, A4, c_4, e1, a1, l2, h6⟩ := kTableR_at (h2.ext x0_0) g1.1 g1.2
   refine RW.ix tk g1 e1 ?_
   refine pu 1 rfl (RW.ld tk [iv ((rd p0.Tables it5_0).Dev)] ((a1.fld 0).take 1 rfl) ?_)
   refine pu 2 rfl (RW.done (NW.next ?_))
   by_cases c2 : (rd p0.Tables it5_0).Dev = p1
   ·rw [if_pos c2] at H
    refine CW.cond_t rfl (beq_t c2) (CW.seq (CW.lw 2 rfl (pu 2 rfl (RW.done ?_))))
    refine NW.next (CW.ret ?_)
    refine NW.ret_block (NW.ret_then (NW.ret_then (NW.ret_block (NW.ret_then ?_))))
    obtain rfl := Option.some.inj H
    exact NW.ret1 rfl (by rfl) ⟨rfl, x0_0⟩
   rw [if_neg c2] at H
   refine CW.cond_f rfl (beq_f c2) (CW.skip ?_)
   refine NW.norm_block (NW.next ?_)
   refine CW.lw 3 rfl (pu 3 rfl (RW.done ?_))
   exact NW.J fun a ha => ⟨n1, Nat.lt_succ_self n1, (w64 (it5_0 + 1)), ha.sb, by omega, x0_0, gb1_0, H⟩
  rw [if_neg c1] at H
  refine CW.cond_f rfl (decide_eq_false c1) (CW.exit ?_)
  refine NW.exit_then (NW.exit_then (NW.exit_hit ?_))
  refine NW.next (CW.seq (CW.lw 1 rfl (pu 1 rfl (RW.done ?_))))
  refine NW.next (CW.ret ?_)
  obtain rfl := Option.some.inj H
  exact NW.ret1 rfl (by rfl) ⟨rfl, x0_0⟩
theorem hermitageref9_round.calls (k : Nat) (p0 : Pool) (A1 : Option Addr) (c_1 : Nat) (A2 : Option Addr) (c_2 : Nat) (A3 : Option Addr) (c_3 : Nat) (r : Bool) (w : World) (hs1 : Sl kDeviceR w.heap okAll A1 p0.Devices) (hl1 : p0.Devices.length ≤ c_1) (hs2 : Sl kTableR w.heap okAll A2 p0.Tables) (hl2 : p0.Tables.length ≤ c_2) (hs3 : Sl kEntry w.heap okAll A3 p0.Job.Table.List_) (hl3 : p0.Job.Table.List_.length ≤ c_3) (H : hermitageref9_round.f k p0 = some r) :
    Calls Tryz.prog 25 #[.agg #[.slice A1 p0.Devices.length c_1, .slice A2 p0.Tables.length c_2, iv p0.Job.Dev, iv p0.Job.At, iv p0.Job.Table.Dev, iv p0.Job.Table.Size, .slice A3 p0.Job.Table.List_.length c_3, iv p0.Next]] w fun e w' => e = .returned (.bool r) ∧ Ext w w' := by
 have h1 : Sl kDeviceR w.heap (okL [(0, some w.heap.size, none)]) A1 p0.Devices := hs1.old _ rfl
 have h2 : Sl kTableR w.heap (okL [(0, some w.heap.size, none)]) A2 p0.Tables := hs2.old _ rfl
 have h3 : Sl kEntry w.heap (okL [(0, some w.heap.size, none)]) A3 p0.Job.Table.List_ := hs3.old _ rfl
 have x0 : Ext w w := Upd.refl _ w
 unfold hermitageref9_round.f at H
 refine calls_start Tryz.func25 rfl 75 rfl [.agg #[.slice A1 p0.Devices.length c_1, .slice A2 p0.Tables.length c_2, iv p0.Job.Dev, iv p0.Job.At, iv p0.Job.Table.Dev, iv p0.Job.Table.Size, .slice A3 p0.Job.Table.List_.length c_3, iv p0.Next]] rfl ?_
 refine CW.seq (CW.lex [.X, .W] rfl (RW.box (cs := [.slice A1 p0.Devices.length c_1, .slice A2 p0.Tables.length c_2, iv p0.Job.Dev, iv p0.Job.At, iv p0.Job.Table.Dev, iv p0.Job.Table.Size, .slice A3 p0.Job.Table.List_.length c_3, iv p0.Next]) (.inl rfl) ⟨rfl, rfl, rfl, rfl⟩ rfl rfl rfl ?_))
 intro b1 w1 x1 l1 h4
 have sx1 := x1.size
 have ltb1 := h4.lt
 refine pu 1 rfl (RW.done (NW.next (CW.seq (CW.lex [.W, .L, .W, .X, .W] rfl ?_))))
 refine pu 1 rfl (RW.lb tk [.slice A2 p0.Tables.length c_2] h4 1 ?_)
 refine pu 1 rfl ?_
 obtain ⟨g1, H⟩ := guard_some H
 refine RW.makeSlice (d := Kd.bool) (z0 := false) tk g1.1 g1.2 (.inl rfl) ⟨rfl, rfl, rfl, rfl⟩ rfl rfl rfl rfl rfl rfl (fun _ => rfl) rfl rfl ?_
 intro b2 w2 x2 l2 h5
 have sx2 := x2.size
 refine pu 1 rfl (RW.done (NW.next (CW.seq (CW.seq ?_))))
 refine CW.lw 1 rfl (pu 1 rfl (RW.done (NW.next (CW.block ?_))))
 refine CW.loop (fun n1 a w3 => ∃ (lt3_0 : List Bool) (bt4_0 : Bool), Sat 75 [(1, .pointer (some ⟨b1, 0, none⟩)), (3, .slice (some ⟨b2, 0, none⟩) lt3_0.length ((p0.Tables.length : Int).toNat)), (4, .bool bt4_0)] a ∧ w2.heap.size ≤ w3.heap.size ∧ Ow Kd.bool 4 w3.heap (okL [(w1.heap.size, some w2.heap.size, some 4)]) (okL []) (some ⟨b2, 0, none⟩) ((p0.Tables.length : Int).toNat) lt3_0 ∧ Ext w w3 ∧ lt3_0.length = (List.replicate (p0.Tables.length : Int).toNat false).length ∧ Box w3.heap b1 30 [.slice A1 p0.Devices.length c_1, .slice A2 p0.Tables.length c_2, iv p0.Job.Dev, iv p0.Job.At, iv p0.Job.Table.Dev, iv p0.Job.Table.Size, .slice A3 p0.Job.Table.List_.length c_3, iv p0.Next] ∧ hermitageref9_round.l0 p0 k n1 lt3_0 bt4_0 = some r) k ?_ ?_
 have h6 := (x0.tr x1).tr x2
 have h7 := h4.ext x2
 ·exact fun a ha => ⟨(List.replicate (p0.Tables.length : Int).toNat false), true, ha.sb, by omega, (h5.sb), h6, (by (try simp only [List.length_set]) <;> omega), h7, H⟩
 intro n1 a w3 hI hp
 obtain ⟨lt3_0, bt4_0, hS, hle, ft3_0, x0_0, ln_lt3_0, gb1_0, H⟩ := hI
 cases n1 with
 | zero => cases H
 | succ n1 =>
  rw [hermitageref9_round.l0] at H
  refine CW.go hp hS ?_
  have xt1 : Ext w3 w3 := Upd.refl _ _
  refine CW.seq (CW.seq (CW.lw 1 rfl (pu 1 rfl (RW.done ?_))))
  refine NW.next ?_
  by_cases c1 : bt4_0 = true
  ·rw [if_pos c1] at H
   refine CW.cond_t rfl (c1) (CW.skip (NW.next (CW.block (CW.seq ?_))))
   refine CW.lw 1 rfl (pu 1 rfl (RW.done (NW.next (CW.seq ?_))))
   refine CW.lw 1 rfl (pu 1 rfl (RW.done (NW.next (CW.block ?_))))
   refine CW.loop (fun n2 a w4 => ∃ (lt3_1 : List Bool) (bt4_1 : Bool) (it5_1 : Int), Sat 75 [(1, .pointer (some ⟨b1, 0, none⟩)), (3, .slice (some ⟨b2, 0, none⟩) lt3_1.length ((p0.Tables.length : Int).toNat)), (4, .bool bt4_1), (5, iv it5_1)] a ∧ w3.heap.size ≤ w4.heap.size ∧ Ow Kd.bool 4 w4.heap (okL [(w1.heap.size, some w2.heap.size, some 4)]) (okL []) (some ⟨b2, 0, none⟩) ((p0.Tables.length : Int).toNat) lt3_1 ∧ Ext w w4 ∧ lt3_1.length = lt3_0.length ∧ Box w4.heap b1 30 [.slice A1 p0.Devices.length c_1, .slice A2 p0.Tables.length c_2, iv p0.Job.Dev, iv p0.Job.At, iv p0.Job.Table.Dev, iv p0.Job.Table.Size, .slice A3 p0.Job.Table.List_.length c_3, iv p0.Next] ∧ hermitageref9_round.l1 p0 k (hermitageref9_round.l0 p0 k n1) n2 lt3_1 bt4_1 it5_1 = some r) k ?_ ?_
   ·exact fun a ha => ⟨lt3_0, false, 0, ha.sb, by omega, (ft3_0.sb), x0_0, (by (try simp only [List.length_set]) <;> omega), gb1_0, H⟩
   intro n2 a w4 hI hp
   obtain ⟨lt3_1, bt4_1, it5_1, hS, hle, ft3_1, x0_1, ln_lt3_1, gb1_1, H⟩ := hI
   cases n2 with
   | zero => cases H
   | succ n2 =>
    rw [hermitageref9_round.l1] at H
    refine CW.go hp hS ?_
    have xt2 : Ext w4 w4 := Upd.refl _ _
    refine CW.seq (CW.seq (CW.lex [.W, .W, .L, .W, .W] rfl (pu 2 rfl (RW.lb tk [.slice A2 p0.Tables.length c_2] gb1_1 1 ?_))))
    refine pu 2 rfl (RW.done (NW.next ?_))
    by_cases c2 : it5_1 < (p0.Tables.length : Int)
    ·rw [if_pos c2] at H
     refine CW.cond_t rfl (decide_eq_true c2) (CW.skip (NW.next ?_))
     refine CW.seqJ (fun a w5 => ∃ (lt3_2 : List Bool) (bt4_2 : Bool), Sat 75 [(1, .pointer (some ⟨b1, 0, none⟩)), (3, .slice (some ⟨b2, 0, none⟩) lt3_2.length ((p0.Tables.length : Int).toNat)), (4, .bool bt4_2), (5, iv it5_1)] a ∧ w4.heap.size ≤ w5.heap.size ∧ Ow Kd.bool 4 w5.heap (okL [(w1.heap.size, some w2.heap.size, some 4)]) (okL []) (some ⟨b2, 0, none⟩) ((p0.Tables.length : Int).toNat) lt3_2 ∧ Ext w w5 ∧ lt3_2.length = lt3_1.length ∧ Box w5.heap b1 30 [.slice A1 p0.Devices.length c_1, .slice A2 p0.Tables.length c_2, iv p0.Job.Dev, iv p0.Job.At, iv p0.Job.Table.Dev, iv p0.Job.Table.Size, .slice A3 p0.Job.Table.List_.length c_3, iv p0.Next] ∧ hermitageref9_round.j0 it5_1 (hermitageref9_round.l1 p0 k (hermitageref9_round.l0 p0 k n1) n2) lt3_2 bt4_2 = some r) ?_ ?_
     ·refine CW.block (CW.seq (CW.seq (CW.lex [.W, .W, .W, .L] rfl (pu 2 rfl ?_))))
      obtain ⟨g2, H⟩ := guard_some H
      obtain ⟨ad1, e1, a1⟩ := at_bool ft3_1.slL g2.1 g2.2
      refine RW.ix tk g2 e1 ?_
      refine RW.ld tk [.bool (rd lt3_1 it5_1)] a1 ?_
      refine RW.done (NW.next ?_)
      by_cases c3 : (rd lt3_1 it5_1) = true
      ·rw [if_pos c3] at H
       refine CW.cond_t rfl (c3) (CW.exit ?_)
       refine NW.exit_then (NW.exit_hit ?_)
       exact NW.J fun a ha => ⟨lt3_1, bt4_1, ha.sb, by omega, (ft3_1.sb), x0_1, (by (try simp only [List.length_set]) <;> omega), gb1_1, H⟩
      rw [if_neg c3] at H
      refine CW.cond_f rfl (bool_f c3) (CW.skip (NW.next (CW.seq (CW.lw 1 rfl ?_))))
      refine pu 1 rfl (RW.done (NW.next (CW.seq (CW.seq ?_))))
      refine CW.lw 1 rfl (pu 1 rfl (RW.done (NW.next (CW.block ?_))))
      refine CW.loop (fun n3 a w6 => ∃ (bt6_3 : Bool) (it7_3 : Int), Sat 75 [(1, .pointer (some ⟨b1, 0, none⟩)), (3, .slice (some ⟨b2, 0, none⟩) lt3_1.length ((p0.Tables.length : Int).toNat)), (4, .bool bt4_1), (5, iv it5_1), (6, .bool bt6_3), (7, iv it7_3)] a ∧ w4.heap.size ≤ w6.heap.size ∧ Ext w w6 ∧ Ext w4 w6 ∧ hermitageref9_round.l2 p0 k bt4_1 it5_1 lt3_1 (hermitageref9_round.l1 p0 k (hermitageref9_round.l0 p0 k n1) n2) n3 bt6_3 it7_3 = some r) k ?_ ?_
      ·exact fun a ha => ⟨true, 0, ha.sb, by omega, x0_1, xt2, H⟩
      intro n3 a w6 hI hp
      obtain ⟨bt6_3, it7_3, hS, hle, x0_3, x_xt2_3, H⟩ := hI
      cases n3 with
      | zero => cases H
      | succ n3 =>
       rw [hermitageref9_round.l2] at H
       refine CW.go hp hS (CW.seq (CW.seq (CW.lex [.W, .W, .L, .W, .W, .W, .L, .W, .W] rfl (pu 2 rfl ?_))))
       refine RW.lb tk [.slice A2 p0.Tables.length c_2] (gb1_1.ext x_xt2_3) 1 ?_
       refine pu 1 rfl ?_
       obtain ⟨g3, H⟩ := guard_some H
       obtain ⟨ad2, A4, c_4, e2, a2, l3, h8⟩ := kTableR_at (h2.ext x0_3) g3.1 g3.2
       refine RW.ix tk g3 e2 ?_
       refine pu 1 rfl (RW.ld tk [.slice A4 ((rd p0.Tables it5_1).List_).length c_4] (a2.fld 2) ?_)
       refine pu 2 rfl (RW.done (NW.next ?_))
       by_cases c4 : it7_3 < (((rd p0.Tables it5_1).List_).length : Int)
       ·rw [if_pos c4] at H
        refine CW.cond_t rfl (decide_eq_true c4) (CW.skip (NW.next ?_))
        refine CW.seqJ (fun a w7 => ∃ (bt6_4 : Bool), Sat 75 [(1, .pointer (some ⟨b1, 0, none⟩)), (3, .slice (some ⟨b2, 0, none⟩) lt3_1.length ((p0.Tables.length : Int).toNat)), (4, .bool bt4_1), (5, iv it5_1), (6, .bool bt6_4), (7, iv it7_3)] a ∧ w6.heap.size ≤ w7.heap.size ∧ Ext w w7 ∧ Ext w4 w7 ∧ hermitageref9_round.j1 it7_3 (hermitageref9_round.l2 p0 k bt4_1 it5_1 lt3_1 (hermitageref9_round.l1 p0 k (hermitageref9_round.l0 p0 k n1) n2) n3) bt6_4 = some r) ?_ ?_
        ·refine CW.block (CW.seq (CW.ord [0, 0, 2, 0, 14, 30, 62, 0, 254, 510, 1022, 2047, 4095] (ofL [(1, .W), (3, .W), (7, .W), (0, .L), (2, .L), (4, .W), (5, .W), (6, .L), (8, .W), (9, .W), (10, .L), (11, .X), (12, .W)] .nil) mixed (by kernel_rfl) ?_))
         intro w8 x3
         have sx3 := x3.size
         refine pu 3 rfl ?_
         have h9 := (gb1_1.ext x_xt2_3).ext x3
         refine RW.ld tk [.slice A1 p0.Devices.length c_1, .slice A2 p0.Tables.length c_2, iv p0.Job.Dev, iv p0.Job.At, iv p0.Job.Table.Dev, iv p0.Job.Table.Size, .slice A3 p0.Job.Table.List_.length c_3, iv p0.Next] (h9.at 0) ?_
         refine RW.lb tk [.slice A2 p0.Tables.length c_2] h9 1 ?_
         obtain ⟨g4, H⟩ := guard_some H
         have h10 := (h2.ext x0_3).ext x3
         obtain ⟨ad3, A5, c_5, e3, a3, l4, h11⟩ := kTableR_at h10 g4.1 g4.2
         refine RW.ix tk g4 e3 ?_
         refine pu 1 rfl (RW.ld tk [.slice A5 ((rd p0.Tables it5_1).List_).length c_5] (a3.fld 2) ?_)
         obtain ⟨g5, H⟩ := guard_some H
         obtain ⟨ad4, e4, a4⟩ := kEntry_at h11 g5.1 g5.2
         refine RW.ix tk g5 e4 ?_
         refine pu 1 rfl (RW.ld tk [iv ((rd ((rd p0.Tables it5_1).List_) it7_3).Dev)] ((a4.fld 2).take 1 rfl) ?_)
         have h12 := (h1.ext x0_3).ext x3
         have h13 := (h3.ext x0_3).ext x3
         obtain ⟨y1, h14, H⟩ := bind_some H
         refine RW.cl ent24 (hermitageref9_Table.calls k p0 A1 c_1 A2 c_2 A3 c_3 ((rd ((rd p0.Tables it5_1).List_) it7_3).Dev) _ _ h12.all hl1 h10.all hl2 h13.all hl3 h14) ?_
         rintro _ w9 ⟨rfl, x4⟩
         refine ⟨_, rfl, x4, ?_⟩
         have sx4 := x4.size
         refine pu 1 rfl (RW.done (NW.next (CW.lex [.W, .W, .W, .W, .W, .W, .W, .W, .L, .W, .W, .W] rfl (pu 2 rfl ?_))))
         have j1 := (x0_3.tr x3).tr x4
         have j2 := (x_xt2_3.tr x3).tr x4
         by_cases c5 : bt6_3 = true
         ·rw [if_pos c5] at H
          refine RW.bool 50 (b' := true) (c5) rfl (pu 3 rfl ?_)
          by_cases c6 : y1 < 0
          ·rw [if_pos c6] at H
           refine RW.bool 53 (b' := true) (decide_eq_true c6) rfl (pu 7 rfl (RW.done (NW.norm_block ?_)))
           exact NW.J fun a ha => ⟨true, ha.sb, by omega, j1, j2, H⟩
          rw [if_neg c6] at H
          refine RW.bool 53 (b' := false) (decide_eq_false c6) rfl (pu 2 rfl ?_)
          obtain ⟨g6, H⟩ := guard_some H
          have h17 := ((ft3_1.ext x_xt2_3).ext x3).ext x4
          obtain ⟨ad5, e5, a5⟩ := at_bool h17.slL g6.1 g6.2
          refine RW.ix tk g6 e5 ?_
          refine RW.ld tk [.bool (rd lt3_1 y1)] a5 ?_
          refine pu 3 rfl (RW.done (NW.norm_block ?_))
          exact NW.J fun a ha => ⟨(rd lt3_1 y1), ha.sb, by omega, j1, j2, H⟩
         rw [if_neg c5] at H
         refine RW.bool 50 (b' := false) (bool_f c5) rfl (pu 10 rfl (RW.done (NW.norm_block ?_)))
         exact NW.J fun a ha => ⟨false, ha.sb, by omega, j1, j2, H⟩
        intro a w7 hJ hp
        obtain ⟨bt6_4, hS, hle, x0_4, x_xt2_4, H⟩ := hJ
        unfold hermitageref9_round.j1 at H
        refine CW.go hp hS (CW.lw 3 rfl (pu 3 rfl (RW.done ?_)))
        exact NW.J fun a ha => ⟨n3, Nat.lt_succ_self n3, bt6_4, (w64 (it7_3 + 1)), ha.sb, by omega, x0_4, x_xt2_4, H⟩
       rw [if_neg c4] at H
       refine CW.cond_f rfl (decide_eq_false c4) (CW.exit ?_)
       refine NW.exit_then (NW.exit_then (NW.exit_hit ?_))
       refine NW.next (CW.seq (CW.lw 1 rfl (pu 1 rfl (RW.done ?_))))
       refine NW.next ?_
       by_cases c7 : bt6_3 = true
       ·rw [if_pos c7] at H
        refine CW.cond_t rfl (c7) (CW.lex [.W, .W, .W, .M, .W] rfl (pu 2 rfl ?_))
        obtain ⟨g7, H⟩ := guard_some H
        obtain ⟨ad6, e6, a6⟩ := at_bool ((ft3_1.ext x_xt2_3).slL) g7.1 g7.2
        refine RW.ix tk g7 e6 ?_
        refine RW.storeElL0 (y := true) (lv := []) tk (ft3_1.ext x_xt2_3) (j := it5_1.toNat) (by have := g7; omega) default [.bool true] (fun cs ok' hr => by cases hr; exact ⟨by simp, rfl⟩) trivial ⟨rfl, rfl, rfl⟩ rfl rfl e6 rfl rfl rfl rfl rfl ?_
        intro w10 x5 h22
        have sx5 := x5.size
        have h23 := h22.sub (l' := [(w1.heap.size, some w2.heap.size, some 4)]) (li' := []) ⟨(.inl ⟨by omega, by omega, rfl⟩), trivial⟩ trivial
        refine RW.tell 3 (v' := .slice (some ⟨b2, 0, none⟩) (lt3_1.set it5_1.toNat true).length ((p0.Tables.length : Int).toNat)) (by simp only [List.length_set]) rfl (pu 1 rfl (RW.done (NW.norm_block ?_)))
        have h24 := Ext.turn x0_3 x5 ⟨by omega, trivial⟩
        have h25 := (gb1_1.ext x_xt2_3).tL x5
        exact NW.J fun a ha => ⟨(lt3_1.set it5_1.toNat true), true, ha.sb, by omega, (h23.sb), h24, (by (try simp only [List.length_set]) <;> omega), h25, H⟩
       rw [if_neg c7] at H
       refine CW.cond_f rfl (bool_f c7) (CW.skip (NW.norm_block ?_))
       exact NW.J fun a ha => ⟨lt3_1, bt4_1, ha.sb, by omega, ((ft3_1.ext x_xt2_3).sb), x0_3, (by (try simp only [List.length_set]) <;> omega), (gb1_1.ext x_xt2_3), H⟩
     intro a w5 hJ hp
     obtain ⟨lt3_2, bt4_2, hS, hle, ft3_2, x0_2, ln_lt3_2, gb1_2, H⟩ := hJ
     unfold hermitageref9_round.j0 at H
     refine CW.go hp hS ?_
     have xt3 : Ext w5 w5 := Upd.refl _ _
     refine CW.lw 3 rfl (pu 3 rfl (RW.done ?_))
     exact NW.J fun a ha => ⟨n2, Nat.lt_succ_self n2, lt3_2, bt4_2, (w64 (it5_1 + 1)), ha.sb, by omega, (ft3_2.sb), x0_2, (by (try simp only [List.length_set]) <;> omega), gb1_2, H⟩
    rw [if_neg c2] at H
    refine CW.cond_f rfl (decide_eq_false c2) (CW.exit ?_)
    refine NW.exit_then (NW.exit_then (NW.exit_hit ?_))
    refine NW.norm_block ?_
    exact NW.J fun a ha => ⟨n1, Nat.lt_succ_self n1, lt3_1, bt4_1, ha.sb, by omega, (ft3_1.sb), x0_1, (by (try simp only [List.length_set]) <;> omega), gb1_1, H⟩
  rw [if_neg c1] at H
  refine CW.cond_f rfl (bool_f c1) (CW.exit ?_)
  refine NW.exit_then (NW.exit_then (NW.exit_hit ?_))
  refine NW.next (CW.seq (CW.seq (CW.lw 1 rfl (pu 1 rfl ?_))))
  refine RW.done (NW.next (CW.block ?_))
  refine CW.loop (fun n4 a w11 => ∃ (it9_5 : Int), Sat 75 [(3, .slice (some ⟨b2, 0, none⟩) lt3_0.length ((p0.Tables.length : Int).toNat)), (9, iv it9_5)] a ∧ w3.heap.size ≤ w11.heap.size ∧ Ext w w11 ∧ Ext w3 w11 ∧ hermitageref9_round.l3 lt3_0 n4 it9_5 = some r) k ?_ ?_
  ·exact fun a ha => ⟨0, ha.sb, by omega, x0_0, xt1, H⟩
  intro n4 a w11 hI hp
  obtain ⟨it9_5, hS, hle, x0_5, x_xt1_5, H⟩ := hI
  cases n4 with
  | zero => cases H
  | succ n4 =>
   rw [hermitageref9_round.l3] at H
   refine CW.go hp hS (CW.seq (CW.seq (CW.lw 4 rfl (pu 4 rfl ?_))))
   refine RW.done (NW.next ?_)
   by_cases c8 : it9_5 < (lt3_0.length : Int)
   ·rw [if_pos c8] at H
    refine CW.cond_t rfl (decide_eq_true c8) (CW.skip (NW.next (CW.seq (CW.block ?_))))
    refine CW.seq (CW.lex [.W, .W, .W, .L, .W] rfl (pu 2 rfl ?_))
    obtain ⟨g8, H⟩ := guard_some H
    obtain ⟨ad7, e7, a7⟩ := at_bool ((ft3_0.ext x_xt1_5).slL) g8.1 g8.2
    refine RW.ix tk g8 e7 ?_
    refine RW.ld tk [.bool (rd lt3_0 it9_5)] a7 ?_
    refine pu 1 rfl (RW.done (NW.next ?_))
    by_cases c9 : (rd lt3_0 it9_5) = true
    ·rw [if_pos c9] at H
     refine CW.cond_f rfl (not_f (c9)) (CW.skip ?_)
     refine NW.norm_block (NW.next ?_)
     refine CW.lw 3 rfl (pu 3 rfl (RW.done ?_))
     exact NW.J fun a ha => ⟨n4, Nat.lt_succ_self n4, (w64 (it9_5 + 1)), ha.sb, by omega, x0_5, x_xt1_5, H⟩
    rw [if_neg c9] at H
    refine CW.cond_t rfl (not_t (bool_f c9)) (CW.seq (CW.lw 1 rfl (pu 1 rfl (RW.done ?_))))
    refine NW.next (CW.ret ?_)
    refine NW.ret_block (NW.ret_then (NW.ret_then (NW.ret_block (NW.ret_then ?_))))
    obtain rfl := Option.some.inj H
    exact NW.ret1 rfl (by rfl) ⟨rfl, x0_5⟩
   rw [if_neg c8] at H
   refine CW.cond_f rfl (decide_eq_false c8) (CW.exit ?_)
   refine NW.exit_then (NW.exit_then (NW.exit_hit ?_))
   refine NW.next (CW.seq (CW.lw 1 rfl (pu 1 rfl (RW.done ?_))))
   refine NW.next (CW.ret ?_)
   obtain rfl := Option.some.inj H
   exact NW.ret1 rfl (by rfl) ⟨rfl, x0_5⟩
theorem hermitageref0_EqEntries.calls (k : Nat) (A1 : Option Addr) (c_1 : Nat) (p0 : List Entry) (A2 : Option Addr) (c_2 : Nat) (p1 : List Entry) (r : Bool) (w : World) (hs1 : Sl kEntry w.heap okAll A1 p0) (hl1 : p0.length ≤ c_1) (hs2 : Sl kEntry w.heap okAll A2 p1) (hl2 : p1.length ≤ c_2) (H : hermitageref0_EqEntries.f k p0 p1 = some r) :
    Calls Tryz.prog 66 #[.slice A1 p0.length c_1, .slice A2 p1.length c_2] w fun e w' => e = .returned (.bool r) ∧ Ext w w' := by
 have h1 : Sl kEntry w.heap (okL [(0, some w.heap.size, none)]) A1 p0 := hs1.old _ rfl
 have h2 : Sl kEntry w.heap (okL [(0, some w.heap.size, none)]) A2 p1 := hs2.old _ rfl
 have x0 : Ext w w := Upd.refl _ w
 unfold hermitageref0_EqEntries.f at H
 refine calls_start Tryz.func66 rfl 26 rfl [.slice A1 p0.length c_1, .slice A2 p1.length c_2] rfl ?_
 refine CW.seq (CW.lw 1 rfl (pu 1 rfl (RW.done (NW.next ?_))))
 refine CW.seq (CW.seq (CW.lw 5 rfl (pu 5 rfl (RW.done ?_))))
 refine NW.next ?_
 by_cases c1 : (p0.length : Int) = (p1.length : Int)
 ·rw [if_pos c1] at H
  refine CW.cond_f rfl (bne_f c1) (CW.skip (NW.next (CW.seq (CW.seq ?_))))
  refine CW.lw 1 rfl (pu 1 rfl (RW.done (NW.next (CW.block ?_))))
  refine CW.loop (fun n1 a w1 => ∃ (it5_0 : Int), Sat 26 [(0, .slice A1 p0.length c_1), (1, .slice A2 p1.length c_2), (5, iv it5_0)] a ∧ w.heap.size ≤ w1.heap.size ∧ Ext w w1 ∧ hermitageref0_EqEntries.l0 p0 p1 n1 it5_0 = some r) k ?_ ?_
  ·exact fun a ha => ⟨0, ha.sb, by omega, x0, H⟩
  intro n1 a w1 hI hp
  obtain ⟨it5_0, hS, hle, x0_0, H⟩ := hI
  cases n1 with
  | zero => cases H
  | succ n1 =>
   rw [hermitageref0_EqEntries.l0] at H
   refine CW.go hp hS (CW.seq (CW.seq (CW.lw 4 rfl (pu 4 rfl ?_))))
   refine RW.done (NW.next ?_)
   by_cases c2 : it5_0 < (p0.length : Int)
   ·rw [if_pos c2] at H
    refine CW.cond_t rfl (decide_eq_true c2) (CW.skip (NW.next (CW.seq (CW.block ?_))))
    refine CW.seq (CW.ord [0, 0, 3, 7, 0, 0, 48, 112, 255] (ofL [(0, .W), (1, .W), (2, .W), (4, .W), (5, .W), (6, .W), (3, .L), (7, .L), (8, .W)] .nil) mixed (by kernel_rfl) ?_)
    intro w2 x1
    have sx1 := x1.size
    refine pu 2 rfl ?_
    obtain ⟨g1, H⟩ := guard_some H
    have h3 := (h1.ext x0_0).ext x1
    obtain ⟨ad1, e1, a1⟩ := kEntry_at h3 g1.1 g1.2
    refine RW.ix tk g1 e1 ?_
    refine pu 2 rfl ?_
    obtain ⟨g2, H⟩ := guard_some H
    have h4 := (h2.ext x0_0).ext x1
    obtain ⟨ad2, e2, a2⟩ := kEntry_at h4 g2.1 g2.2
    refine RW.ix tk g2 e2 ?_
    refine RW.ld tk [iv ((rd p0 it5_0).From), iv ((rd p0 it5_0).Len), iv ((rd p0 it5_0).Dev), iv ((rd p0 it5_0).To), iv ((rd p0 it5_0).Stale)] a1 ?_
    refine RW.ld tk [iv ((rd p1 it5_0).From), iv ((rd p1 it5_0).Len), iv ((rd p1 it5_0).Dev), iv ((rd p1 it5_0).To), iv ((rd p1 it5_0).Stale)] a2 ?_
    refine RW.eqAgg eqgEntry (eqEntry (rd p0 it5_0) (rd p1 it5_0)) ⟨rfl, rfl, rfl, rfl⟩ rfl rfl rfl rfl (RW.done (NW.next ?_))
    have j1 := x0_0.tr x1
    by_cases c3 : (rd p0 it5_0) = (rd p1 it5_0)
    ·rw [if_pos c3] at H
     refine CW.cond_f rfl (not_f (decide_eq_true c3)) (CW.skip ?_)
     refine NW.norm_block (NW.next ?_)
     refine CW.lw 3 rfl (pu 3 rfl (RW.done ?_))
     exact NW.J fun a ha => ⟨n1, Nat.lt_succ_self n1, (w64 (it5_0 + 1)), ha.sb, by omega, j1, H⟩
    rw [if_neg c3] at H
    refine CW.cond_t rfl (not_t (decide_eq_false c3)) (CW.seq (CW.lw 1 rfl (pu 1 rfl (RW.done ?_))))
    refine NW.next (CW.ret ?_)
    refine NW.ret_block (NW.ret_then (NW.ret_then (NW.ret_block (NW.ret_then ?_))))
    obtain rfl := Option.some.inj H
    exact NW.ret1 rfl (by rfl) ⟨rfl, j1⟩
   rw [if_neg c2] at H
   refine CW.cond_f rfl (decide_eq_false c2) (CW.exit ?_)
   refine NW.exit_then (NW.exit_then (NW.exit_hit ?_))
   refine NW.next (CW.seq (CW.lw 1 rfl (pu 1 rfl (RW.done ?_))))
   refine NW.next (CW.ret ?_)
   obtain rfl := Option.some.inj H
   exact NW.ret1 rfl (by rfl) ⟨rfl, x0_0⟩
 rw [if_neg c1] at H
 refine CW.cond_t rfl (bne_t c1) (CW.seq (CW.lw 1 rfl (pu 1 rfl (RW.done ?_))))
 refine NW.next (CW.ret (NW.ret_then ?_))
 obtain rfl := Option.some.inj H
 exact NW.ret1 rfl (by rfl) ⟨rfl, x0⟩
theorem hermitageref0_EqTable.calls (k : Nat) (p0 : Table) (A1 : Option Addr) (c_1 : Nat) (p1 : Table) (A2 : Option Addr) (c_2 : Nat) (r : Bool) (w : World) (hs1 : Sl kEntry w.heap okAll A1 p0.List_) (hl1 : p0.List_.length ≤ c_1) (hs2 : Sl kEntry w.heap okAll A2 p1.List_) (hl2 : p1.List_.length ≤ c_2) (H : hermitageref0_EqTable.f k p0 p1 = some r) :
    Calls Tryz.prog 43 #[.agg #[iv p0.Dev, iv p0.Size, .slice A1 p0.List_.length c_1], .agg #[iv p1.Dev, iv p1.Size, .slice A2 p1.List_.length c_2]] w fun e w' => e = .returned (.bool r) ∧ Ext w w' := by
 have h1 : Sl kEntry w.heap (okL [(0, some w.heap.size, none)]) A1 p0.List_ := hs1.old _ rfl
 have h2 : Sl kEntry w.heap (okL [(0, some w.heap.size, none)]) A2 p1.List_ := hs2.old _ rfl
 have x0 : Ext w w := Upd.refl _ w
 unfold hermitageref0_EqTable.f at H
 refine calls_start Tryz.func43 rfl 24 rfl [.agg #[iv p0.Dev, iv p0.Size, .slice A1 p0.List_.length c_1], .agg #[iv p1.Dev, iv p1.Size, .slice A2 p1.List_.length c_2]] rfl ?_
 refine CW.seq (CW.lex [.X, .X, .W] rfl (RW.box (cs := [iv p0.Dev, iv p0.Size, .slice A1 p0.List_.length c_1]) (.inl rfl) ⟨rfl, rfl, rfl, rfl⟩ rfl rfl rfl ?_))
 intro b1 w1 x1 l1 h3
 have sx1 := x1.size
 have ltb1 := h3.lt
 refine RW.box (cs := [iv p1.Dev, iv p1.Size, .slice A2 p1.List_.length c_2]) (.inl rfl) ⟨rfl, rfl, rfl, rfl⟩ rfl rfl rfl ?_
 intro b2 w2 x2 l2 h4
 have sx2 := x2.size
 have ltb2 := h4.lt
 refine pu 1 rfl (RW.done (NW.next (CW.seq (CW.lex [.W, .L, .W, .L, .W, .W, .W, .L, .W, .L, .W, .W, .W, .W, .L, .W, .L, .X, .W, .W] rfl ?_))))
 refine pu 1 rfl ?_
 have h5 := h3.ext x2
 refine RW.lb tk [iv p0.Dev] h5 0 ?_
 refine pu 1 rfl (RW.lb tk [iv p1.Dev] h4 0 ?_)
 refine pu 2 rfl ?_
 have j1 := (x0.tr x1).tr x2
 by_cases c1 : p0.Dev = p1.Dev
 ·rw [if_pos c1] at H
  refine RW.bool 10 (b' := true) (beq_t c1) rfl (pu 1 rfl (RW.lb tk [iv p0.Size] h5 1 ?_))
  refine pu 1 rfl (RW.lb tk [iv p1.Size] h4 1 ?_)
  refine pu 3 rfl ?_
  by_cases c2 : p0.Size = p1.Size
  ·rw [if_pos c2] at H
   refine RW.bool 17 (b' := true) (beq_t c2) rfl (pu 1 rfl (RW.ld tk [.slice A1 p0.List_.length c_1] (h5.at 2) ?_))
   refine pu 1 rfl (RW.ld tk [.slice A2 p1.List_.length c_2] (h4.at 2) ?_)
   have h6 := (h1.ext x1).ext x2
   have h7 := (h2.ext x1).ext x2
   obtain ⟨y1, h8, H⟩ := bind_some H
   refine RW.cl ent66 (hermitageref0_EqEntries.calls k A1 c_1 p0.List_ A2 c_2 p1.List_ _ _ h6.all hl1 h7.all hl2 h8) ?_
   rintro _ w3 ⟨rfl, x3⟩
   refine ⟨_, rfl, x3, ?_⟩
   have sx3 := x3.size
   refine pu 2 rfl (RW.done (NW.next (CW.ret ?_)))
   obtain rfl := Option.some.inj H
   have h9 := j1.tr x3
   exact NW.ret1 rfl (by rfl) ⟨rfl, h9⟩
  rw [if_neg c2] at H
  refine RW.bool 17 (b' := false) (beq_f c2) rfl (pu 7 rfl (RW.done (NW.next (CW.ret ?_))))
  obtain rfl := Option.some.inj H
  exact NW.ret1 rfl (by rfl) ⟨rfl, j1⟩
 rw [if_neg c1] at H
 refine RW.bool 10 (b' := false) (beq_f c1) rfl (pu 14 rfl (RW.done (NW.next (CW.ret ?_))))
 obtain rfl := Option.some.inj H
 exact NW.ret1 rfl (by rfl) ⟨rfl, j1⟩
theorem hermitageref7_End.calls (p0 : Table) (A1 : Option Addr) (c_1 : Nat) (r : Int) (w : World) (hs1 : Sl kEntry w.heap okAll A1 p0.List_) (hl1 : p0.List_.length ≤ c_1) (H : hermitageref7_End.f p0 = some r) :
    Calls Tryz.prog 52 #[.agg #[iv p0.Dev, iv p0.Size, .slice A1 p0.List_.length c_1]] w fun e w' => e = .returned (iv r) ∧ Ext w w' := by
 have h1 : Sl kEntry w.heap (okL [(0, some w.heap.size, none)]) A1 p0.List_ := hs1.old _ rfl
 have x0 : Ext w w := Upd.refl _ w
 unfold hermitageref7_End.f at H
 refine calls_start Tryz.func52 rfl 21 rfl [.agg #[iv p0.Dev, iv p0.Size, .slice A1 p0.List_.length c_1]] rfl ?_
 refine CW.seq (CW.lex [.X, .W] rfl (RW.box (cs := [iv p0.Dev, iv p0.Size, .slice A1 p0.List_.length c_1]) (.inl rfl) ⟨rfl, rfl, rfl, rfl⟩ rfl rfl rfl ?_))
 intro b1 w1 x1 l1 h2
 have sx1 := x1.size
 have ltb1 := h2.lt
 refine pu 1 rfl (RW.done (NW.next (CW.seq (CW.seq ?_))))
 refine CW.lex [.W, .L, .W, .W] rfl (pu 1 rfl (RW.ld tk [.slice A1 p0.List_.length c_1] (h2.at 2) ?_))
 refine pu 2 rfl (RW.done (NW.next ?_))
 have j1 := x0.tr x1
 by_cases c1 : (p0.List_.length : Int) = 0
 ·rw [if_pos c1] at H
  refine CW.cond_t rfl (beq_t c1) (CW.seq (CW.lw 1 rfl (pu 1 rfl (RW.done ?_))))
  refine NW.next (CW.ret (NW.ret_then ?_))
  obtain rfl := Option.some.inj H
  exact NW.ret1 rfl (by rfl) ⟨rfl, j1⟩
 rw [if_neg c1] at H
 refine CW.cond_f rfl (beq_f c1) (CW.skip (NW.next (CW.seq (CW.lex [.W, .L, .W, .L, .W, .W, .W, .L, .X, .M] rfl ?_))))
 refine pu 1 rfl (RW.ld tk [.slice A1 p0.List_.length c_1] (h2.at 2) ?_)
 refine pu 1 rfl (RW.ld tk [.slice A1 p0.List_.length c_1] (h2.at 2) ?_)
 refine pu 2 rfl ?_
 obtain ⟨g1, H⟩ := guard_some H
 have h4 := h1.ext x1
 obtain ⟨ad1, e1, a1⟩ := kEntry_at h4 g1.1 g1.2
 refine RW.ix tk g1 e1 ?_
 refine RW.ld tk [iv ((rd p0.List_ (w64 ((p0.List_.length : Int) - 1))).From), iv ((rd p0.List_ (w64 ((p0.List_.length : Int) - 1))).Len), iv ((rd p0.List_ (w64 ((p0.List_.length : Int) - 1))).Dev), iv ((rd p0.List_ (w64 ((p0.List_.length : Int) - 1))).To), iv ((rd p0.List_ (w64 ((p0.List_.length : Int) - 1))).Stale)] a1 ?_
 refine RW.alloc tk (.inl rfl) ⟨rfl, rfl, rfl, rfl⟩ rfl rfl ?_
 intro b2 w2 x2 l2 h5
 have sx2 := x2.size
 have ltb2 := h5.lt
 refine RW.sb tk h5 [iv ((rd p0.List_ (w64 ((p0.List_.length : Int) - 1))).From), iv ((rd p0.List_ (w64 ((p0.List_.length : Int) - 1))).Len), iv ((rd p0.List_ (w64 ((p0.List_.length : Int) - 1))).Dev), iv ((rd p0.List_ (w64 ((p0.List_.length : Int) - 1))).To), iv ((rd p0.List_ (w64 ((p0.List_.length : Int) - 1))).Stale)] ?_
 intro w3 x3 h6
 have h7 : Box w3.heap b2 66 [iv ((rd p0.List_ (w64 ((p0.List_.length : Int) - 1))).From), iv ((rd p0.List_ (w64 ((p0.List_.length : Int) - 1))).Len), iv ((rd p0.List_ (w64 ((p0.List_.length : Int) - 1))).Dev), iv ((rd p0.List_ (w64 ((p0.List_.length : Int) - 1))).To), iv ((rd p0.List_ (w64 ((p0.List_.length : Int) - 1))).Stale)] := h6
 have sx3 := x3.size
 refine RW.done (NW.next (CW.seq (CW.lex [.W, .L, .W, .L, .W, .W] rfl (pu 1 rfl ?_))))
 refine RW.lb tk [iv ((rd p0.List_ (w64 ((p0.List_.length : Int) - 1))).From)] h7 0 ?_
 refine pu 1 rfl (RW.lb tk [iv ((rd p0.List_ (w64 ((p0.List_.length : Int) - 1))).Len)] h7 1 ?_)
 refine pu 2 rfl (RW.done (NW.next (CW.ret ?_)))
 obtain rfl := Option.some.inj H
 have h8 := (j1.tr x2).tB x3
 exact NW.ret1 rfl (by rfl) ⟨rfl, h8⟩
theorem hermitageref9_job.calls (k : Nat) (p0 : Pool) (A1 : Option Addr) (c_1 : Nat) (A2 : Option Addr) (c_2 : Nat) (A3 : Option Addr) (c_3 : Nat) (r : Bool) (w : World) (hs1 : Sl kDeviceR w.heap okAll A1 p0.Devices) (hl1 : p0.Devices.length ≤ c_1) (hs2 : Sl kTableR w.heap okAll A2 p0.Tables) (hl2 : p0.Tables.length ≤ c_2) (hs3 : Sl kEntry w.heap okAll A3 p0.Job.Table.List_) (hl3 : p0.Job.Table.List_.length ≤ c_3) (H : hermitageref9_job.f k p0 = some r) :
    Calls Tryz.prog 26 #[.agg #[.slice A1 p0.Devices.length c_1, .slice A2 p0.Tables.length c_2, iv p0.Job.Dev, iv p0.Job.At, iv p0.Job.Table.Dev, iv p0.Job.Table.Size, .slice A3 p0.Job.Table.List_.length c_3, iv p0.Next]] w fun e w' => e = .returned (.bool r) ∧ Ext w w' := by
 have h1 : Sl kDeviceR w.heap (okL [(0, some w.heap.size, none)]) A1 p0.Devices := hs1.old _ rfl
 have h2 : Sl kTableR w.heap (okL [(0, some w.heap.size, none)]) A2 p0.Tables := hs2.old _ rfl
 have h3 : Sl kEntry w.heap (okL [(0, some w.heap.size, none)]) A3 p0.Job.Table.List_ := hs3.old _ rfl
 have x0 : Ext w w := Upd.refl _ w
 unfold hermitageref9_job.f at H
 refine calls_start Tryz.func26 rfl 93 rfl [.agg #[.slice A1 p0.Devices.length c_1, .slice A2 p0.Tables.length c_2, iv p0.Job.Dev, iv p0.Job.At, iv p0.Job.Table.Dev, iv p0.Job.Table.Size, .slice A3 p0.Job.Table.List_.length c_3, iv p0.Next]] rfl ?_
 refine CW.seq (CW.lex [.X, .W] rfl (RW.box (cs := [.slice A1 p0.Devices.length c_1, .slice A2 p0.Tables.length c_2, iv p0.Job.Dev, iv p0.Job.At, iv p0.Job.Table.Dev, iv p0.Job.Table.Size, .slice A3 p0.Job.Table.List_.length c_3, iv p0.Next]) (.inl rfl) ⟨rfl, rfl, rfl, rfl⟩ rfl rfl rfl ?_))
 intro b1 w1 x1 l1 h4
 have sx1 := x1.size
 have ltb1 := h4.lt
 refine pu 1 rfl (RW.done (NW.next (CW.seq (CW.lex [.W, .L, .X, .M] rfl ?_))))
 refine pu 1 rfl (RW.lb tk [iv p0.Job.Dev, iv p0.Job.At, iv p0.Job.Table.Dev, iv p0.Job.Table.Size, .slice A3 p0.Job.Table.List_.length c_3] h4 2 ?_)
 refine RW.alloc tk (.inl rfl) ⟨rfl, rfl, rfl, rfl⟩ rfl rfl ?_
 intro b2 w2 x2 l2 h5
 have sx2 := x2.size
 have ltb2 := h5.lt
 refine RW.sb tk h5 [iv p0.Job.Dev, iv p0.Job.At, iv p0.Job.Table.Dev, iv p0.Job.Table.Size, .slice A3 p0.Job.Table.List_.length c_3] ?_
 intro w3 x3 h6
 have h7 : Box w3.heap b2 28 [iv p0.Job.Dev, iv p0.Job.At, iv p0.Job.Table.Dev, iv p0.Job.Table.Size, .slice A3 p0.Job.Table.List_.length c_3] := h6
 have sx3 := x3.size
 refine RW.done (NW.next (CW.seq (CW.seq (CW.lex [.W, .L, .W] rfl ?_))))
 refine pu 1 rfl (RW.lb tk [iv p0.Job.Dev] h7 0 ?_)
 refine pu 1 rfl (RW.done (NW.next ?_))
 have j1 := (h3.ext x1).ext x2
 have j2 := ((x0.tr x1).tr x2).tB x3
 by_cases c1 : p0.Job.Dev = 0
 ·rw [if_pos c1] at H
  refine CW.cond_t rfl (beq_t c1) (CW.seq (CW.lex [.W, .L, .W, .W, .W, .L, .W, .X, .W, .W] rfl (pu 1 rfl (RW.lb tk [iv p0.Job.At] h7 1 ?_))))
  refine pu 2 rfl ?_
  by_cases c2 : p0.Job.At = 0
  ·rw [if_pos c2] at H
   refine RW.bool 14 (b' := true) (beq_t c2) rfl (pu 1 rfl (RW.ld tk [iv p0.Job.Table.Dev, iv p0.Job.Table.Size, .slice A3 p0.Job.Table.List_.length c_3] (h7.at 2) ?_))
   refine pu 1 rfl ?_
   have h8 := j1.turnB x3 h5 ⟨.inr (by omega), trivial⟩
   obtain ⟨y1, h9, H⟩ := bind_some H
   refine RW.cl ent43 (hermitageref0_EqTable.calls k p0.Job.Table A3 c_3 (⟨0, 0, ([] : List Entry)⟩ : Table) none 0 _ _ h8.all hl3 Sl.nil (Nat.le_refl 0) h9) ?_
   rintro _ w4 ⟨rfl, x4⟩
   refine ⟨_, rfl, x4, ?_⟩
   have sx4 := x4.size
   refine pu 2 rfl (RW.done (NW.next (CW.ret (NW.ret_then ?_))))
   obtain rfl := Option.some.inj H
   have h10 := j2.tr x4
   exact NW.ret1 rfl (by rfl) ⟨rfl, h10⟩
  rw [if_neg c2] at H
  refine RW.bool 14 (b' := false) (beq_f c2) rfl (pu 6 rfl (RW.done (NW.next (CW.ret ?_))))
  refine NW.ret_then ?_
  obtain rfl := Option.some.inj H
  exact NW.ret1 rfl (by rfl) ⟨rfl, j2⟩
 rw [if_neg c1] at H
 refine CW.cond_f rfl (beq_f c1) (CW.skip (NW.next (CW.seq (CW.lex [.W, .L, .W, .L, .X, .W] rfl ?_))))
 refine pu 1 rfl ?_
 have h12 := (h4.ext x2).tB x3
 refine RW.lb tk [.slice A1 p0.Devices.length c_1] h12 0 ?_
 refine pu 1 rfl (RW.lb tk [iv p0.Job.Dev] h7 0 ?_)
 have h13 := ((h1.ext x1).ext x2).turnB x3 h5 ⟨.inr (by omega), trivial⟩
 obtain ⟨y2, h14, H⟩ := bind_some H
 refine RW.cl ent23 (hermitageref7_At.calls k A1 c_1 p0.Devices p0.Job.Dev _ _ h13.all hl1 h14) ?_
 rintro _ w5 ⟨rfl, x5⟩
 refine ⟨_, rfl, x5, ?_⟩
 have sx5 := x5.size
 refine pu 1 rfl (RW.done (NW.next (CW.seq ?_)))
 refine CW.seqJ (fun a w6 => ∃ (bt73_0 : Bool), Sat 93 [(1, .pointer (some ⟨b1, 0, none⟩)), (3, .pointer (some ⟨b2, 0, none⟩)), (73, .bool bt73_0)] a ∧ w5.heap.size ≤ w6.heap.size ∧ Ext w w6 ∧ Box w6.heap b1 30 [.slice A1 p0.Devices.length c_1, .slice A2 p0.Tables.length c_2, iv p0.Job.Dev, iv p0.Job.At, iv p0.Job.Table.Dev, iv p0.Job.Table.Size, .slice A3 p0.Job.Table.List_.length c_3, iv p0.Next] ∧ Box w6.heap b2 28 [iv p0.Job.Dev, iv p0.Job.At, iv p0.Job.Table.Dev, iv p0.Job.Table.Size, .slice A3 p0.Job.Table.List_.length c_3] ∧ hermitageref9_job.j0 p0 k bt73_0 = some r) ?_ ?_
 ·refine CW.ord [0, 1, 3, 7, 15, 7, 39, 7, 231, 487, 999, 2023, 4095, 8191, 16383, 32767, 65535, 131071, 262143, 524287, 1048575, 2097151, 4194303, 8388607, 16777215, 4194303, 37748735, 134217727, 268435455, 536870911, 1073741823, 2147483647, 4294967295, 1073741823, 9663676415, 1073741823, 61203283967, 129922760703, 267361714175, 549755813887, 1099511627775, 2199023255551, 4398046511103, 8796093022207, 17592186044415, 4398046511103, 39582418599935, 140737488355327, 281474976710655] (ofL [(0, .W), (1, .W), (2, .W), (3, .W), (5, .W), (7, .W), (4, .L), (6, .L), (8, .W), (9, .W), (10, .L), (11, .W), (12, .X), (13, .W), (14, .W), (15, .W), (16, .W), (17, .L), (18, .X), (19, .W), (20, .W), (21, .W), (22, .W), (23, .W), (25, .W), (24, .L), (26, .L), (27, .W), (28, .W), (29, .W), (30, .W), (31, .W), (33, .W), (35, .W), (32, .L), (34, .L), (36, .W), (37, .W), (38, .L), (39, .W), (40, .W), (41, .W), (42, .W), (45, .W), (43, .L), (46, .L), (44, .X), (47, .W), (48, .W)] .nil) mixed (by kernel_rfl) ?_
  intro w7 x6
  have sx6 := x6.size
  refine pu 3 rfl ?_
  have j3 := (j2.tr x5).tr x6
  have j4 := (h12.ext x5).ext x6
  have j5 := (h7.ext x5).ext x6
  by_cases c3 : y2 < 0
  ·rw [if_pos c3] at H
   refine RW.bool 27 (b' := true) (decide_eq_true c3) rfl (pu 46 rfl (RW.done ?_))
   exact NW.J fun a ha => ⟨true, ha.sb, by omega, j3, j4, j5, H⟩
  rw [if_neg c3] at H
  refine RW.bool 27 (b' := false) (decide_eq_false c3) rfl (pu 3 rfl (RW.lb tk [iv p0.Job.At] j5 1 ?_))
  refine RW.lb tk [.slice A1 p0.Devices.length c_1] j4 0 ?_
  obtain ⟨g1, H⟩ := guard_some H
  have h20 := (h13.ext x5).ext x6
  obtain ⟨ad1, A4, c_4, A5, c_5, e1, a1, l3, h21, l4, h22⟩ := kDeviceR_at h20 g1.1 g1.2
  refine RW.ix tk g1 e1 ?_
  refine pu 1 rfl (RW.ld tk [iv ((rd p0.Devices y2).Size)] ((a1.fld 1).take 1 rfl) ?_)
  refine pu 1 rfl ?_
  obtain ⟨y3, h23, H⟩ := bind_some H
  refine RW.cl ent29 (hermitageref0_Num.calls p0.Job.At (w64 (((rd p0.Devices y2).Size) - 1)) _ _ h23) ?_
  rintro _ w8 ⟨rfl, x7⟩
  refine ⟨_, rfl, x7, ?_⟩
  have sx7 := x7.size
  refine pu 3 rfl ?_
  have j6 := j5.ext x7
  have j7 := j4.ext x7
  have j8 := j3.tr x7
  by_cases c4 : y3 = true
  ·rw [if_pos c4] at H
   refine RW.bool 40 (b' := false) (not_f (c4)) rfl (pu 1 rfl (RW.ld tk [iv p0.Job.Table.Dev, iv p0.Job.Table.Size, .slice A3 p0.Job.Table.List_.length c_3] (j6.at 2) ?_))
   have h25 := (((j1.turnB x3 h5 ⟨.inr (by omega), trivial⟩).ext x5).ext x6).ext x7
   obtain ⟨y4, h26, H⟩ := bind_some H
   refine RW.cl ent22 (hermitageref7_Table.calls k p0.Job.Table A3 c_3 _ _ h25.all hl3 h26) ?_
   rintro _ w9 ⟨rfl, x8⟩
   refine ⟨_, rfl, x8, ?_⟩
   have sx8 := x8.size
   refine pu 3 rfl ?_
   have j9 := j6.ext x8
   have j10 := j7.ext x8
   have j11 := j8.tr x8
   by_cases c5 : y4 = true
   ·rw [if_pos c5] at H
    refine RW.bool 46 (b' := false) (not_f (c5)) rfl (pu 3 rfl (RW.lb tk [iv p0.Job.Table.Dev] j9 2 ?_))
    refine RW.lb tk [iv p0.Job.Dev] j9 0 ?_
    refine pu 3 rfl ?_
    by_cases c6 : p0.Job.Table.Dev = p0.Job.Dev
    ·rw [if_pos c6] at H
     refine RW.bool 54 (b' := false) (bne_f c6) rfl (pu 4 rfl (RW.lb tk [iv p0.Job.Table.Size] j9 3 ?_))
     refine RW.lb tk [.slice A1 p0.Devices.length c_1] j10 0 ?_
     obtain ⟨g2, H⟩ := guard_some H
     have h29 := (h20.ext x7).ext x8
     obtain ⟨ad2, A6, c_6, A7, c_7, e2, a2, l5, h30, l6, h31⟩ := kDeviceR_at h29 g2.1 g2.2
     refine RW.ix tk g2 e2 ?_
     refine pu 1 rfl (RW.ld tk [iv ((rd p0.Devices y2).Size)] ((a2.fld 1).take 1 rfl) ?_)
     refine pu 3 rfl ?_
     by_cases c7 : p0.Job.Table.Size = (rd p0.Devices y2).Size
     ·rw [if_pos c7] at H
      refine RW.bool 66 (b' := false) (bne_f c7) rfl (pu 2 rfl (RW.ld tk [iv p0.Job.Table.Dev, iv p0.Job.Table.Size, .slice A3 p0.Job.Table.List_.length c_3] (j9.at 2) ?_))
      refine RW.lb tk [iv p0.Job.At] j9 1 ?_
      have h32 := h25.ext x8
      obtain ⟨y5, h33, H⟩ := bind_some H
      refine RW.cl ent52 (hermitageref7_End.calls p0.Job.Table A3 c_3 _ _ h32.all hl3 h33) ?_
      rintro _ w10 ⟨rfl, x9⟩
      refine ⟨_, rfl, x9, ?_⟩
      have sx9 := x9.size
      refine pu 2 rfl (RW.done ?_)
      have h34 := j11.tr x9
      have h35 := j10.ext x9
      have h36 := j9.ext x9
      exact NW.J fun a ha => ⟨(decide (p0.Job.At < y5)), ha.sb, by omega, h34, h35, h36, H⟩
     rw [if_neg c7] at H
     refine RW.bool 66 (b' := true) (bne_t c7) rfl (pu 7 rfl (RW.done ?_))
     exact NW.J fun a ha => ⟨true, ha.sb, by omega, j11, j10, j9, H⟩
    rw [if_neg c6] at H
    refine RW.bool 54 (b' := true) (bne_t c6) rfl (pu 19 rfl (RW.done ?_))
    exact NW.J fun a ha => ⟨true, ha.sb, by omega, j11, j10, j9, H⟩
   rw [if_neg c5] at H
   refine RW.bool 46 (b' := true) (not_t (bool_f c5)) rfl (pu 27 rfl (RW.done ?_))
   exact NW.J fun a ha => ⟨true, ha.sb, by omega, j11, j10, j9, H⟩
  rw [if_neg c4] at H
  refine RW.bool 40 (b' := true) (not_t (bool_f c4)) rfl (pu 33 rfl (RW.done ?_))
  exact NW.J fun a ha => ⟨true, ha.sb, by omega, j8, j7, j6, H⟩
 intro a w6 hJ hp
 obtain ⟨bt73_0, hS, hle, x0_0, gb1_0, gb2_0, H⟩ := hJ
 unfold hermitageref9_job.j0 at H
 refine CW.go hp hS ?_
 have xt1 : Ext w6 w6 := Upd.refl _ _
 by_cases c8 : bt73_0 = true
 ·rw [if_pos c8] at H
  refine CW.cond_t rfl (c8) (CW.seq (CW.lw 1 rfl (pu 1 rfl (RW.done ?_))))
  refine NW.next (CW.ret (NW.ret_then ?_))
  obtain rfl := Option.some.inj H
  exact NW.ret1 rfl (by rfl) ⟨rfl, x0_0⟩
 rw [if_neg c8] at H
 refine CW.cond_f rfl (bool_f c8) (CW.skip (NW.next (CW.seq (CW.seq ?_))))
 refine CW.lw 1 rfl (pu 1 rfl (RW.done (NW.next (CW.block ?_))))
 refine CW.loop (fun n1 a w11 => ∃ (it5_1 : Int), Sat 93 [(1, .pointer (some ⟨b1, 0, none⟩)), (3, .pointer (some ⟨b2, 0, none⟩)), (5, iv it5_1)] a ∧ w6.heap.size ≤ w11.heap.size ∧ Ext w w11 ∧ Ext w6 w11 ∧ hermitageref9_job.l0 p0 k n1 it5_1 = some r) k ?_ ?_
 ·exact fun a ha => ⟨0, ha.sb, by omega, x0_0, xt1, H⟩
 intro n1 a w11 hI hp
 obtain ⟨it5_1, hS, hle, x0_1, x_xt1_1, H⟩ := hI
 cases n1 with
 | zero => cases H
 | succ n1 =>
  rw [hermitageref9_job.l0] at H
  refine CW.go hp hS (CW.seq (CW.seq (CW.lex [.W, .W, .W, .L, .W, .W] rfl (pu 3 rfl ?_))))
  refine RW.ld tk [.slice A3 p0.Job.Table.List_.length c_3] ((gb2_0.ext x_xt1_1).at 4) ?_
  refine pu 2 rfl (RW.done (NW.next ?_))
  by_cases c9 : it5_1 < (p0.Job.Table.List_.length : Int)
  ·rw [if_pos c9] at H
   refine CW.cond_t rfl (decide_eq_true c9) (CW.skip (NW.next (CW.seq (CW.block ?_))))
   refine CW.seq (CW.ord [0, 1, 0, 4, 12, 0, 60, 124, 252, 511, 1023] (ofL [(0, .W), (2, .W), (3, .W), (5, .W), (1, .L), (4, .L), (6, .W), (7, .W), (8, .L), (9, .X), (10, .W)] .nil) mixed (by kernel_rfl) ?_)
   intro w12 x10
   have sx10 := x10.size
   refine pu 4 rfl ?_
   have h46 := (gb1_0.ext x_xt1_1).ext x10
   refine RW.lb tk [.slice A1 p0.Devices.length c_1] h46 0 ?_
   have h47 := (gb2_0.ext x_xt1_1).ext x10
   refine RW.ld tk [.slice A3 p0.Job.Table.List_.length c_3] (h47.at 4) ?_
   obtain ⟨g3, H⟩ := guard_some H
   have h48 := (h3.ext x0_1).ext x10
   obtain ⟨ad3, e3, a3⟩ := kEntry_at h48 g3.1 g3.2
   refine RW.ix tk g3 e3 ?_
   refine pu 1 rfl (RW.ld tk [iv ((rd p0.Job.Table.List_ it5_1).Dev)] ((a3.fld 2).take 1 rfl) ?_)
   have h49 := (h1.ext x0_1).ext x10
   obtain ⟨y6, h50, H⟩ := bind_some H
   refine RW.cl ent23 (hermitageref7_At.calls k A1 c_1 p0.Devices ((rd p0.Job.Table.List_ it5_1).Dev) _ _ h49.all hl1 h50) ?_
   rintro _ w13 ⟨rfl, x11⟩
   refine ⟨_, rfl, x11, ?_⟩
   have sx11 := x11.size
   refine pu 1 rfl (RW.done (NW.next ?_))
   have j12 := (x0_1.tr x10).tr x11
   by_cases c10 : y6 < 0
   ·rw [if_pos c10] at H
    refine CW.cond_t rfl (decide_eq_true c10) (CW.seq (CW.lw 1 rfl (pu 1 rfl (RW.done ?_))))
    refine NW.next (CW.ret ?_)
    refine NW.ret_block (NW.ret_then (NW.ret_then (NW.ret_block (NW.ret_then ?_))))
    obtain rfl := Option.some.inj H
    exact NW.ret1 rfl (by rfl) ⟨rfl, j12⟩
   rw [if_neg c10] at H
   refine CW.cond_f rfl (decide_eq_false c10) (CW.skip ?_)
   refine NW.norm_block (NW.next ?_)
   refine CW.lw 3 rfl (pu 3 rfl (RW.done ?_))
   have h53 := (x_xt1_1.tr x10).tr x11
   exact NW.J fun a ha => ⟨n1, Nat.lt_succ_self n1, (w64 (it5_1 + 1)), ha.sb, by omega, j12, h53, H⟩
  rw [if_neg c9] at H
  refine CW.cond_f rfl (decide_eq_false c9) (CW.exit ?_)
  refine NW.exit_then (NW.exit_then (NW.exit_hit ?_))
  refine NW.next (CW.seq (CW.lw 1 rfl (pu 1 rfl (RW.done ?_))))
  refine NW.next (CW.ret ?_)
  obtain rfl := Option.some.inj H
  exact NW.ret1 rfl (by rfl) ⟨rfl, x0_1⟩
theorem hermitageref9_Pool.calls (k : Nat) (p0 : Pool) (A1 : Option Addr) (c_1 : Nat) (A2 : Option Addr) (c_2 : Nat) (A3 : Option Addr) (c_3 : Nat) (r : Bool) (w : World) (hs1 : Sl kDeviceR w.heap okAll A1 p0.Devices) (hl1 : p0.Devices.length ≤ c_1) (hs2 : Sl kTableR w.heap okAll A2 p0.Tables) (hl2 : p0.Tables.length ≤ c_2) (hs3 : Sl kEntry w.heap okAll A3 p0.Job.Table.List_) (hl3 : p0.Job.Table.List_.length ≤ c_3) (H : hermitageref9_Pool.f k p0 = some r) :
    Calls Tryz.prog 8 #[.agg #[.slice A1 p0.Devices.length c_1, .slice A2 p0.Tables.length c_2, iv p0.Job.Dev, iv p0.Job.At, iv p0.Job.Table.Dev, iv p0.Job.Table.Size, .slice A3 p0.Job.Table.List_.length c_3, iv p0.Next]] w fun e w' => e = .returned (.bool r) ∧ Ext w w' := by
 have h1 : Sl kDeviceR w.heap (okL [(0, some w.heap.size, none)]) A1 p0.Devices := hs1.old _ rfl
 have h2 : Sl kTableR w.heap (okL [(0, some w.heap.size, none)]) A2 p0.Tables := hs2.old _ rfl
 have h3 : Sl kEntry w.heap (okL [(0, some w.heap.size, none)]) A3 p0.Job.Table.List_ := hs3.old _ rfl
 have x0 : Ext w w := Upd.refl _ w
 unfold hermitageref9_Pool.f at H
 refine calls_start Tryz.func8 rfl 162 rfl [.agg #[.slice A1 p0.Devices.length c_1, .slice A2 p0.Tables.length c_2, iv p0.Job.Dev, iv p0.Job.At, iv p0.Job.Table.Dev, iv p0.Job.Table.Size, .slice A3 p0.Job.Table.List_.length c_3, iv p0.Next]] rfl ?_
 refine CW.seq (CW.lex [.X, .W] rfl (RW.box (cs := [.slice A1 p0.Devices.length c_1, .slice A2 p0.Tables.length c_2, iv p0.Job.Dev, iv p0.Job.At, iv p0.Job.Table.Dev, iv p0.Job.Table.Size, .slice A3 p0.Job.Table.List_.length c_3, iv p0.Next]) (.inl rfl) ⟨rfl, rfl, rfl, rfl⟩ rfl rfl rfl ?_))
 intro b1 w1 x1 l1 h4
 have sx1 := x1.size
 have ltb1 := h4.lt
 refine pu 1 rfl (RW.done (NW.next (CW.seq ?_)))
 refine CW.seqJ (fun a w2 => ∃ (bt37_0 : Bool), Sat 162 [(1, .pointer (some ⟨b1, 0, none⟩)), (37, .bool bt37_0)] a ∧ w1.heap.size ≤ w2.heap.size ∧ Ext w w2 ∧ Box w2.heap b1 30 [.slice A1 p0.Devices.length c_1, .slice A2 p0.Tables.length c_2, iv p0.Job.Dev, iv p0.Job.At, iv p0.Job.Table.Dev, iv p0.Job.Table.Size, .slice A3 p0.Job.Table.List_.length c_3, iv p0.Next] ∧ hermitageref9_Pool.j0 p0 k bt37_0 = some r) ?_ ?_
 ·refine CW.lex [.W, .L, .X, .W, .W, .W, .L, .W, .W, .W, .W, .W, .W, .L, .W, .W, .W, .L, .W, .W, .W, .W, .W, .W, .L, .X, .W, .W] rfl (pu 1 rfl (RW.lb tk [.slice A1 p0.Devices.length c_1] h4 0 ?_))
  have h5 := h1.ext x1
  obtain ⟨y1, h6, H⟩ := bind_some H
  refine RW.cl ent20 (hermitageref7_Devices.calls k A1 c_1 p0.Devices _ _ h5.all hl1 h6) ?_
  rintro _ w3 ⟨rfl, x2⟩
  refine ⟨_, rfl, x2, ?_⟩
  have sx2 := x2.size
  refine pu 2 rfl ?_
  have j1 := h4.ext x2
  have j2 := (x0.tr x1).tr x2
  by_cases c1 : y1 = true
  ·rw [if_pos c1] at H
   refine RW.bool 14 (b' := false) (not_f (c1)) rfl (pu 1 rfl (RW.lb tk [.slice A2 p0.Tables.length c_2] j1 1 ?_))
   refine pu 4 rfl ?_
   by_cases c2 : 12 < (p0.Tables.length : Int)
   ·rw [if_pos c2] at H
    refine RW.bool 20 (b' := true) (decide_eq_true c2) rfl (pu 17 rfl (RW.done ?_))
    exact NW.J fun a ha => ⟨true, ha.sb, by omega, j2, j1, H⟩
   rw [if_neg c2] at H
   refine RW.bool 20 (b' := false) (decide_eq_false c2) rfl (pu 2 rfl (RW.lb tk [iv p0.Job.Dev] j1 2 ?_))
   refine pu 2 rfl ?_
   by_cases c3 : p0.Job.Dev = 0
   ·rw [if_pos c3] at H
    refine RW.bool 25 (b' := false) (bne_f c3) rfl (pu 8 rfl (RW.ld tk [iv p0.Next] (j1.at 7) ?_))
    obtain ⟨y2, h9, H⟩ := bind_some H
    refine RW.cl ent21 (hermitageref0_Between.calls p0.Next 1 41 _ _ h9) ?_
    rintro _ w4 ⟨rfl, x3⟩
    refine ⟨_, rfl, x3, ?_⟩
    have sx3 := x3.size
    refine pu 2 rfl (RW.done ?_)
    have h10 := j2.tr x3
    have h11 := j1.ext x3
    exact NW.J fun a ha => ⟨(!y2), ha.sb, by omega, h10, h11, H⟩
   rw [if_neg c3] at H
   refine RW.bool 25 (b' := true) (bne_t c3) rfl (pu 1 rfl (RW.lb tk [.slice A2 p0.Tables.length c_2] j1 1 ?_))
   refine pu 5 rfl ?_
   by_cases c4 : 12 ≤ (p0.Tables.length : Int)
   ·rw [if_pos c4] at H
    refine RW.bool 32 (b' := true) (decide_eq_true c4) rfl (pu 5 rfl (RW.done ?_))
    exact NW.J fun a ha => ⟨true, ha.sb, by omega, j2, j1, H⟩
   rw [if_neg c4] at H
   refine RW.bool 32 (b' := false) (decide_eq_false c4) rfl (pu 1 rfl (RW.ld tk [iv p0.Next] (j1.at 7) ?_))
   obtain ⟨y3, h13, H⟩ := bind_some H
   refine RW.cl ent21 (hermitageref0_Between.calls p0.Next 1 41 _ _ h13) ?_
   rintro _ w5 ⟨rfl, x4⟩
   refine ⟨_, rfl, x4, ?_⟩
   have sx4 := x4.size
   refine pu 2 rfl (RW.done ?_)
   have h14 := j2.tr x4
   have h15 := j1.ext x4
   exact NW.J fun a ha => ⟨(!y3), ha.sb, by omega, h14, h15, H⟩
  rw [if_neg c1] at H
  refine RW.bool 14 (b' := true) (not_t (bool_f c1)) rfl (pu 23 rfl (RW.done ?_))
  exact NW.J fun a ha => ⟨true, ha.sb, by omega, j2, j1, H⟩
 intro a w2 hJ hp
 obtain ⟨bt37_0, hS, hle, x0_0, gb1_0, H⟩ := hJ
 unfold hermitageref9_Pool.j0 at H
 refine CW.go hp hS ?_
 have xt1 : Ext w2 w2 := Upd.refl _ _
 by_cases c5 : bt37_0 = true
 ·rw [if_pos c5] at H
  refine CW.cond_t rfl (c5) (CW.seq (CW.lw 1 rfl (pu 1 rfl (RW.done ?_))))
  refine NW.next (CW.ret (NW.ret_then ?_))
  obtain rfl := Option.some.inj H
  exact NW.ret1 rfl (by rfl) ⟨rfl, x0_0⟩
 rw [if_neg c5] at H
 refine CW.cond_f rfl (bool_f c5) (CW.skip (NW.next (CW.seq (CW.lw 1 rfl ?_))))
 refine pu 1 rfl (RW.done (NW.next (CW.seq (CW.seq ?_))))
 refine CW.lw 1 rfl (pu 1 rfl (RW.done (NW.next (CW.block ?_))))
 refine CW.loop (fun n1 a w6 => ∃ (it3_1 : Int) (it4_1 : Int), Sat 162 [(1, .pointer (some ⟨b1, 0, none⟩)), (3, iv it3_1), (4, iv it4_1)] a ∧ w2.heap.size ≤ w6.heap.size ∧ Ext w w6 ∧ Ext w2 w6 ∧ hermitageref9_Pool.l0 p0 k n1 it3_1 it4_1 = some r) k ?_ ?_
 ·exact fun a ha => ⟨0, 0, ha.sb, by omega, x0_0, xt1, H⟩
 intro n1 a w6 hI hp
 obtain ⟨it3_1, it4_1, hS, hle, x0_1, x_xt1_1, H⟩ := hI
 cases n1 with
 | zero => cases H
 | succ n1 =>
  rw [hermitageref9_Pool.l0] at H
  refine CW.go hp hS (CW.seq (CW.seq (CW.lex [.W, .W, .L, .W, .W] rfl (pu 2 rfl ?_))))
  refine RW.lb tk [.slice A1 p0.Devices.length c_1] (gb1_0.ext x_xt1_1) 0 ?_
  refine pu 2 rfl (RW.done (NW.next ?_))
  by_cases c6 : it4_1 < (p0.Devices.length : Int)
  ·rw [if_pos c6] at H
   refine CW.cond_t rfl (decide_eq_true c6) (CW.skip (NW.next ?_))
   refine CW.seqJ (fun a w7 => ∃ (it3_2 : Int), Sat 162 [(1, .pointer (some ⟨b1, 0, none⟩)), (3, iv it3_2), (4, iv it4_1)] a ∧ w6.heap.size ≤ w7.heap.size ∧ Ext w w7 ∧ Ext w2 w7 ∧ hermitageref9_Pool.j1 it4_1 (hermitageref9_Pool.l0 p0 k n1) it3_2 = some r) ?_ ?_
   ·refine CW.block (CW.seq (CW.seq (CW.ord [0, 1, 0, 7, 15, 31, 0, 64, 255] (ofL [(0, .W), (2, .W), (6, .W), (1, .L), (3, .W), (4, .W), (5, .L), (7, .L), (8, .W)] .nil) mixed (by kernel_rfl) ?_)))
    intro w8 x5
    have sx5 := x5.size
    refine pu 3 rfl ?_
    have h18 := (gb1_0.ext x_xt1_1).ext x5
    refine RW.lb tk [.slice A1 p0.Devices.length c_1] h18 0 ?_
    obtain ⟨g1, H⟩ := guard_some H
    have h19 := (h1.ext x0_1).ext x5
    obtain ⟨ad1, A4, c_4, A5, c_5, e1, a1, l2, h20, l3, h21⟩ := kDeviceR_at h19 g1.1 g1.2
    refine RW.ix tk g1 e1 ?_
    refine pu 1 rfl (RW.ld tk [iv ((rd p0.Devices it4_1).ID)] ((a1.fld 0).take 1 rfl) ?_)
    refine RW.ld tk [iv p0.Next] (h18.at 7) ?_
    refine pu 1 rfl (RW.done (NW.next ?_))
    have j3 := x0_1.tr x5
    by_cases c7 : p0.Next ≤ ((rd p0.Devices it4_1).ID)
    ·rw [if_pos c7] at H
     refine CW.cond_t rfl (decide_eq_true c7) (CW.seq (CW.lw 1 rfl (pu 1 rfl (RW.done ?_))))
     refine NW.next (CW.ret ?_)
     refine NW.ret_then (NW.ret_block (NW.ret_then (NW.ret_then (NW.ret_block (NW.ret_then ?_)))))
     obtain rfl := Option.some.inj H
     exact NW.ret1 rfl (by rfl) ⟨rfl, j3⟩
    rw [if_neg c7] at H
    refine CW.cond_f rfl (decide_eq_false c7) (CW.skip (NW.next (CW.seq (CW.ord [0, 1, 0, 7, 15, 31, 0, 64, 192, 511] (ofL [(0, .W), (2, .W), (6, .W), (7, .W), (1, .L), (3, .W), (4, .W), (5, .L), (8, .L), (9, .W)] .nil) mixed (by kernel_rfl) ?_))))
    intro w9 x6
    have sx6 := x6.size
    refine pu 4 rfl ?_
    have h23 := h18.ext x6
    refine RW.lb tk [.slice A1 p0.Devices.length c_1] h23 0 ?_
    obtain ⟨g2, H⟩ := guard_some H
    have h24 := h19.ext x6
    obtain ⟨ad2, A6, c_6, A7, c_7, e2, a2, l4, h25, l5, h26⟩ := kDeviceR_at h24 g2.1 g2.2
    refine RW.ix tk g2 e2 ?_
    refine pu 1 rfl (RW.ld tk [iv ((rd p0.Devices it4_1).ID)] ((a2.fld 0).take 1 rfl) ?_)
    refine RW.lb tk [iv p0.Job.Dev] h23 2 ?_
    refine pu 1 rfl (RW.done (NW.next ?_))
    have j4 := j3.tr x6
    have j5 := (x_xt1_1.tr x5).tr x6
    by_cases c8 : (rd p0.Devices it4_1).ID = p0.Job.Dev
    ·rw [if_pos c8] at H
     refine CW.cond_f rfl (bne_f c8) (CW.skip (NW.norm_block ?_))
     exact NW.J fun a ha => ⟨it3_1, ha.sb, by omega, j4, j5, H⟩
    rw [if_neg c8] at H
    refine CW.cond_t rfl (bne_t c8) (CW.lw 3 rfl (pu 3 rfl (RW.done (NW.norm_block ?_))))
    exact NW.J fun a ha => ⟨(w64 (it3_1 + 1)), ha.sb, by omega, j4, j5, H⟩
   intro a w7 hJ hp
   obtain ⟨it3_2, hS, hle, x0_2, x_xt1_2, H⟩ := hJ
   unfold hermitageref9_Pool.j1 at H
   refine CW.go hp hS (CW.lw 3 rfl (pu 3 rfl (RW.done ?_)))
   exact NW.J fun a ha => ⟨n1, Nat.lt_succ_self n1, it3_2, (w64 (it4_1 + 1)), ha.sb, by omega, x0_2, x_xt1_2, H⟩
  rw [if_neg c6] at H
  refine CW.cond_f rfl (decide_eq_false c6) (CW.exit ?_)
  refine NW.exit_then (NW.exit_then (NW.exit_hit ?_))
  refine NW.next (CW.seq (CW.seq (CW.lw 1 rfl (pu 1 rfl ?_))))
  refine RW.done (NW.next (CW.block ?_))
  refine CW.loop (fun n2 a w10 => ∃ (it5_3 : Int), Sat 162 [(1, .pointer (some ⟨b1, 0, none⟩)), (3, iv it3_1), (5, iv it5_3)] a ∧ w6.heap.size ≤ w10.heap.size ∧ Ext w w10 ∧ Ext w2 w10 ∧ hermitageref9_Pool.l1 p0 k it3_1 n2 it5_3 = some r) k ?_ ?_
  ·exact fun a ha => ⟨0, ha.sb, by omega, x0_1, x_xt1_1, H⟩
  intro n2 a w10 hI hp
  obtain ⟨it5_3, hS, hle, x0_3, x_xt1_3, H⟩ := hI
  cases n2 with
  | zero => cases H
  | succ n2 =>
   rw [hermitageref9_Pool.l1] at H
   refine CW.go hp hS (CW.seq (CW.seq (CW.lex [.W, .W, .L, .W, .W] rfl (pu 2 rfl ?_))))
   refine RW.lb tk [.slice A2 p0.Tables.length c_2] (gb1_0.ext x_xt1_3) 1 ?_
   refine pu 2 rfl (RW.done (NW.next ?_))
   by_cases c9 : it5_3 < (p0.Tables.length : Int)
   ·rw [if_pos c9] at H
    refine CW.cond_t rfl (decide_eq_true c9) (CW.skip (NW.next (CW.seq (CW.block ?_))))
    refine CW.seq (CW.lex [.W, .L, .W, .W, .L, .X, .M] rfl (pu 1 rfl (RW.lb tk [.slice A2 p0.Tables.length c_2] (gb1_0.ext x_xt1_3) 1 ?_)))
    refine pu 1 rfl ?_
    obtain ⟨g3, H⟩ := guard_some H
    obtain ⟨ad3, A8, c_8, e3, a3, l6, h31⟩ := kTableR_at (h2.ext x0_3) g3.1 g3.2
    refine RW.ix tk g3 e3 ?_
    refine RW.ld tk [iv ((rd p0.Tables it5_3).Dev), iv ((rd p0.Tables it5_3).Size), .slice A8 ((rd p0.Tables it5_3).List_).length c_8] a3 ?_
    refine RW.alloc tk (.inl rfl) ⟨rfl, rfl, rfl, rfl⟩ rfl rfl ?_
    intro b2 w11 x7 l7 h32
    have sx7 := x7.size
    have ltb2 := h32.lt
    refine RW.sb tk h32 [iv ((rd p0.Tables it5_3).Dev), iv ((rd p0.Tables it5_3).Size), .slice A8 ((rd p0.Tables it5_3).List_).length c_8] ?_
    intro w12 x8 h33
    have h34 : Box w12.heap b2 26 [iv ((rd p0.Tables it5_3).Dev), iv ((rd p0.Tables it5_3).Size), .slice A8 ((rd p0.Tables it5_3).List_).length c_8] := h33
    have sx8 := x8.size
    refine RW.done (NW.next ?_)
    refine CW.seqJ (fun a w13 => ∃ (bt111_4 : Bool), Sat 162 [(1, .pointer (some ⟨b1, 0, none⟩)), (3, iv it3_1), (5, iv it5_3), (111, .bool bt111_4)] a ∧ w12.heap.size ≤ w13.heap.size ∧ Ext w w13 ∧ Ext w2 w13 ∧ hermitageref9_Pool.j2 it5_3 (hermitageref9_Pool.l1 p0 k it3_1 n2) bt111_4 = some r) ?_ ?_
    ·refine CW.ord [0, 1, 3, 7, 15, 31, 15, 79, 255, 511, 1023, 2047, 4095, 8191, 16383, 32767, 16383, 81919, 262143, 524287, 1048575, 16383, 2113535, 8388607, 16777215, 33554431, 67108863, 134217727, 268435455, 134217727, 671088639, 2147483647, 4294967295, 8589934591] (ofL [(0, .L), (1, .X), (2, .W), (3, .W), (4, .W), (6, .W), (5, .L), (7, .L), (8, .W), (9, .W), (10, .W), (11, .W), (12, .W), (13, .W), (14, .W), (16, .W), (17, .W), (21, .W), (15, .L), (18, .W), (19, .W), (20, .L), (22, .L), (23, .W), (24, .W), (25, .W), (26, .W), (27, .W), (29, .W), (28, .L), (30, .L), (31, .X), (32, .W), (33, .W)] .nil) mixed (by kernel_rfl) ?_
     intro w14 x9
     have sx9 := x9.size
     have h35 := h34.ext x9
     refine RW.ld tk [iv ((rd p0.Tables it5_3).Dev), iv ((rd p0.Tables it5_3).Size), .slice A8 ((rd p0.Tables it5_3).List_).length c_8] (h35.at 0) ?_
     have h36 := ((h31.ext x7).turnB x8 h32 ⟨.inr (by omega), trivial⟩).ext x9
     obtain ⟨y4, h37, H⟩ := bind_some H
     refine RW.cl ent22 (hermitageref7_Table.calls k (rd p0.Tables it5_3) A8 c_8 _ _ h36.all l6 h37) ?_
     rintro _ w15 ⟨rfl, x10⟩
     refine ⟨_, rfl, x10, ?_⟩
     have sx10 := x10.size
     refine pu 2 rfl ?_
     have j6 := (((x0_3.tr x7).tB x8).tr x9).tr x10
     have j7 := (((x_xt1_3.tr x7).tB x8).tr x9).tr x10
     by_cases c10 : y4 = true
     ·rw [if_pos c10] at H
      refine RW.bool 81 (b' := false) (not_f (c10)) rfl (pu 2 rfl ?_)
      have h38 := h35.ext x10
      refine RW.lb tk [iv ((rd p0.Tables it5_3).Dev)] h38 0 ?_
      have h39 := ((((gb1_0.ext x_xt1_3).ext x7).tB x8).ext x9).ext x10
      refine RW.ld tk [iv p0.Next] (h39.at 7) ?_
      refine pu 3 rfl ?_
      by_cases c11 : p0.Next ≤ ((rd p0.Tables it5_3).Dev)
      ·rw [if_pos c11] at H
       refine RW.bool 88 (b' := true) (decide_eq_true c11) rfl (pu 23 rfl (RW.done ?_))
       exact NW.J fun a ha => ⟨true, ha.sb, by omega, j6, j7, H⟩
      rw [if_neg c11] at H
      refine RW.bool 88 (b' := false) (decide_eq_false c11) rfl (pu 3 rfl ?_)
      have j8 := ((((h1.ext x0_3).ext x7).turnB x8 h32 ⟨.inr (by omega), trivial⟩).ext x9).ext x10
      by_cases c12 : 0 < it5_3
      ·rw [if_pos c12] at H
       refine RW.bool 91 (b' := true) (decide_eq_true c12) rfl (pu 4 rfl (RW.lb tk [.slice A2 p0.Tables.length c_2] h39 1 ?_))
       obtain ⟨g4, H⟩ := guard_some H
       have h42 := ((((h2.ext x0_3).ext x7).turnB x8 h32 ⟨.inr (by omega), trivial⟩).ext x9).ext x10
       obtain ⟨ad4, A9, c_9, e4, a4, l8, h43⟩ := kTableR_at h42 g4.1 g4.2
       refine RW.ix tk g4 e4 ?_
       refine pu 1 rfl (RW.ld tk [iv ((rd p0.Tables (w64 (it5_3 - 1))).Dev)] ((a4.fld 0).take 1 rfl) ?_)
       refine RW.lb tk [iv ((rd p0.Tables it5_3).Dev)] h38 0 ?_
       refine pu 4 rfl ?_
       by_cases c13 : ((rd p0.Tables it5_3).Dev) ≤ ((rd p0.Tables (w64 (it5_3 - 1))).Dev)
       ·rw [if_pos c13] at H
        refine RW.bool 104 (b' := true) (decide_eq_true c13) rfl (pu 7 rfl (RW.done ?_))
        exact NW.J fun a ha => ⟨true, ha.sb, by omega, j6, j7, H⟩
       rw [if_neg c13] at H
       refine RW.bool 104 (b' := false) (decide_eq_false c13) rfl (pu 2 rfl (RW.lb tk [.slice A1 p0.Devices.length c_1] h39 0 ?_))
       refine RW.lb tk [iv ((rd p0.Tables it5_3).Dev)] h38 0 ?_
       obtain ⟨y5, h47, H⟩ := bind_some H
       refine RW.cl ent23 (hermitageref7_At.calls k A1 c_1 p0.Devices ((rd p0.Tables it5_3).Dev) _ _ j8.all hl1 h47) ?_
       rintro _ w16 ⟨rfl, x11⟩
       refine ⟨_, rfl, x11, ?_⟩
       have sx11 := x11.size
       refine pu 2 rfl (RW.done ?_)
       have h48 := j6.tr x11
       have h49 := j7.tr x11
       exact NW.J fun a ha => ⟨(decide (0 ≤ y5)), ha.sb, by omega, h48, h49, H⟩
      rw [if_neg c12] at H
      refine RW.bool 91 (b' := false) (decide_eq_false c12) rfl (pu 15 rfl (RW.lb tk [.slice A1 p0.Devices.length c_1] h39 0 ?_))
      refine RW.lb tk [iv ((rd p0.Tables it5_3).Dev)] h38 0 ?_
      obtain ⟨y6, h51, H⟩ := bind_some H
      refine RW.cl ent23 (hermitageref7_At.calls k A1 c_1 p0.Devices ((rd p0.Tables it5_3).Dev) _ _ j8.all hl1 h51) ?_
      rintro _ w17 ⟨rfl, x12⟩
      refine ⟨_, rfl, x12, ?_⟩
      have sx12 := x12.size
      refine pu 2 rfl (RW.done ?_)
      have h52 := j6.tr x12
      have h53 := j7.tr x12
      exact NW.J fun a ha => ⟨(decide (0 ≤ y6)), ha.sb, by omega, h52, h53, H⟩
     rw [if_neg c10] at H
     refine RW.bool 81 (b' := true) (not_t (bool_f c10)) rfl (pu 30 rfl (RW.done ?_))
     exact NW.J fun a ha => ⟨true, ha.sb, by omega, j6, j7, H⟩
    intro a w13 hJ hp
    obtain ⟨bt111_4, hS, hle, x0_4, x_xt1_4, H⟩ := hJ
    unfold hermitageref9_Pool.j2 at H
    refine CW.go hp hS ?_
    by_cases c14 : bt111_4 = true
    ·rw [if_pos c14] at H
     refine CW.cond_t rfl (c14) (CW.seq (CW.lw 1 rfl (pu 1 rfl (RW.done ?_))))
     refine NW.next (CW.ret ?_)
     refine NW.ret_block (NW.ret_then (NW.ret_then (NW.ret_block (NW.ret_then ?_))))
     obtain rfl := Option.some.inj H
     exact NW.ret1 rfl (by rfl) ⟨rfl, x0_4⟩
    rw [if_neg c14] at H
    refine CW.cond_f rfl (bool_f c14) (CW.skip ?_)
    refine NW.norm_block (NW.next ?_)
    refine CW.lw 3 rfl (pu 3 rfl (RW.done ?_))
    exact NW.J fun a ha => ⟨n2, Nat.lt_succ_self n2, (w64 (it5_3 + 1)), ha.sb, by omega, x0_4, x_xt1_4, H⟩
   rw [if_neg c9] at H
   refine CW.cond_f rfl (decide_eq_false c9) (CW.exit ?_)
   refine NW.exit_then (NW.exit_then (NW.exit_hit ?_))
   refine NW.next (CW.seq (CW.seq (CW.lw 1 rfl (pu 1 rfl ?_))))
   refine RW.done (NW.next (CW.block ?_))
   refine CW.loop (fun n3 a w18 => ∃ (it7_5 : Int), Sat 162 [(1, .pointer (some ⟨b1, 0, none⟩)), (3, iv it3_1), (7, iv it7_5)] a ∧ w10.heap.size ≤ w18.heap.size ∧ Ext w w18 ∧ Ext w2 w18 ∧ hermitageref9_Pool.l2 p0 k it3_1 n3 it7_5 = some r) k ?_ ?_
   ·exact fun a ha => ⟨0, ha.sb, by omega, x0_3, x_xt1_3, H⟩
   intro n3 a w18 hI hp
   obtain ⟨it7_5, hS, hle, x0_5, x_xt1_5, H⟩ := hI
   cases n3 with
   | zero => cases H
   | succ n3 =>
    rw [hermitageref9_Pool.l2] at H
    refine CW.go hp hS (CW.seq (CW.seq (CW.lex [.W, .W, .L, .W, .W] rfl (pu 2 rfl ?_))))
    refine RW.lb tk [.slice A2 p0.Tables.length c_2] (gb1_0.ext x_xt1_5) 1 ?_
    refine pu 2 rfl (RW.done (NW.next ?_))
    by_cases c15 : it7_5 < (p0.Tables.length : Int)
    ·rw [if_pos c15] at H
     refine CW.cond_t rfl (decide_eq_true c15) (CW.skip (NW.next (CW.seq (CW.block ?_))))
     refine CW.seq (CW.lw 1 rfl (pu 1 rfl (RW.done (NW.next ?_))))
     refine CW.block ?_
     refine CW.loop (fun n4 a w19 => ∃ (it8_6 : Int), Sat 162 [(1, .pointer (some ⟨b1, 0, none⟩)), (3, iv it3_1), (7, iv it7_5), (8, iv it8_6)] a ∧ w18.heap.size ≤ w19.heap.size ∧ Ext w w19 ∧ Ext w2 w19 ∧ hermitageref9_Pool.l3 p0 k it7_5 (hermitageref9_Pool.l2 p0 k it3_1 n3) n4 it8_6 = some r) k ?_ ?_
     ·exact fun a ha => ⟨0, ha.sb, by omega, x0_5, x_xt1_5, H⟩
     intro n4 a w19 hI hp
     obtain ⟨it8_6, hS, hle, x0_6, x_xt1_6, H⟩ := hI
     cases n4 with
     | zero => cases H
     | succ n4 =>
      rw [hermitageref9_Pool.l3] at H
      refine CW.go hp hS (CW.seq (CW.seq (CW.lex [.W, .W, .L, .W, .W, .W, .L, .W, .W] rfl (pu 2 rfl ?_))))
      refine RW.lb tk [.slice A2 p0.Tables.length c_2] (gb1_0.ext x_xt1_6) 1 ?_
      refine pu 1 rfl ?_
      obtain ⟨g5, H⟩ := guard_some H
      obtain ⟨ad5, A10, c_10, e5, a5, l9, h56⟩ := kTableR_at (h2.ext x0_6) g5.1 g5.2
      refine RW.ix tk g5 e5 ?_
      refine pu 1 rfl (RW.ld tk [.slice A10 ((rd p0.Tables it7_5).List_).length c_10] (a5.fld 2) ?_)
      refine pu 2 rfl (RW.done (NW.next ?_))
      by_cases c16 : it8_6 < (((rd p0.Tables it7_5).List_).length : Int)
      ·rw [if_pos c16] at H
       refine CW.cond_t rfl (decide_eq_true c16) (CW.skip (NW.next (CW.seq (CW.block ?_))))
       refine CW.seq (CW.lex [.W, .L, .W, .W, .W, .L, .W, .W, .W, .L, .W] rfl (pu 1 rfl (RW.lb tk [.slice A2 p0.Tables.length c_2] (gb1_0.ext x_xt1_6) 1 ?_)))
       refine pu 1 rfl ?_
       obtain ⟨g6, H⟩ := guard_some H
       obtain ⟨ad6, A11, c_11, e6, a6, l10, h57⟩ := kTableR_at (h2.ext x0_6) g6.1 g6.2
       refine RW.ix tk g6 e6 ?_
       refine pu 1 rfl (RW.ld tk [.slice A11 ((rd p0.Tables it7_5).List_).length c_11] (a6.fld 2) ?_)
       refine pu 1 rfl ?_
       obtain ⟨g7, H⟩ := guard_some H
       obtain ⟨ad7, e7, a7⟩ := kEntry_at h57 g7.1 g7.2
       refine RW.ix tk g7 e7 ?_
       refine pu 1 rfl (RW.ld tk [iv ((rd ((rd p0.Tables it7_5).List_) it8_6).Dev)] ((a7.fld 2).take 1 rfl) ?_)
       refine pu 1 rfl (RW.done (NW.next ?_))
       refine CW.seqJ (fun a w20 => ∃ (bt150_7 : Bool), Sat 162 [(1, .pointer (some ⟨b1, 0, none⟩)), (3, iv it3_1), (7, iv it7_5), (8, iv it8_6), (150, .bool bt150_7)] a ∧ w19.heap.size ≤ w20.heap.size ∧ Ext w w20 ∧ Ext w2 w20 ∧ hermitageref9_Pool.j3 it8_6 (hermitageref9_Pool.l3 p0 k it7_5 (hermitageref9_Pool.l2 p0 k it3_1 n3) n4) bt150_7 = some r) ?_ ?_
       ·refine CW.lex [.W, .L, .W, .X, .W, .W, .L, .W, .X, .W, .W] rfl (pu 1 rfl (RW.lb tk [.slice A1 p0.Devices.length c_1] (gb1_0.ext x_xt1_6) 0 ?_))
        refine pu 1 rfl ?_
        obtain ⟨y7, h58, H⟩ := bind_some H
        refine RW.cl ent23 (hermitageref7_At.calls k A1 c_1 p0.Devices ((rd ((rd p0.Tables it7_5).List_) it8_6).Dev) _ _ (h1.ext x0_6).all hl1 h58) ?_
        rintro _ w21 ⟨rfl, x13⟩
        refine ⟨_, rfl, x13, ?_⟩
        have sx13 := x13.size
        refine pu 2 rfl ?_
        have j9 := x0_6.tr x13
        have j10 := x_xt1_6.tr x13
        by_cases c17 : y7 < 0
        ·rw [if_pos c17] at H
         refine RW.bool 145 (b' := true) (decide_eq_true c17) rfl ?_
         have h59 := (gb1_0.ext x_xt1_6).ext x13
         refine RW.ld tk [.slice A1 p0.Devices.length c_1, .slice A2 p0.Tables.length c_2, iv p0.Job.Dev, iv p0.Job.At, iv p0.Job.Table.Dev, iv p0.Job.Table.Size, .slice A3 p0.Job.Table.List_.length c_3, iv p0.Next] (h59.at 0) ?_
         refine pu 1 rfl ?_
         have h60 := (h1.ext x0_6).ext x13
         have h61 := (h2.ext x0_6).ext x13
         have h62 := (h3.ext x0_6).ext x13
         obtain ⟨y8, h63, H⟩ := bind_some H
         refine RW.cl ent24 (hermitageref9_Table.calls k p0 A1 c_1 A2 c_2 A3 c_3 ((rd ((rd p0.Tables it7_5).List_) it8_6).Dev) _ _ h60.all hl1 h61.all hl2 h62.all hl3 h63) ?_
         rintro _ w22 ⟨rfl, x14⟩
         refine ⟨_, rfl, x14, ?_⟩
         have sx14 := x14.size
         refine pu 2 rfl (RW.done ?_)
         have h64 := j9.tr x14
         have h65 := j10.tr x14
         exact NW.J fun a ha => ⟨(decide (y8 < 0)), ha.sb, by omega, h64, h65, H⟩
        rw [if_neg c17] at H
        refine RW.bool 145 (b' := false) (decide_eq_false c17) rfl (pu 5 rfl (RW.done ?_))
        exact NW.J fun a ha => ⟨false, ha.sb, by omega, j9, j10, H⟩
       intro a w20 hJ hp
       obtain ⟨bt150_7, hS, hle, x0_7, x_xt1_7, H⟩ := hJ
       unfold hermitageref9_Pool.j3 at H
       refine CW.go hp hS ?_
       by_cases c18 : bt150_7 = true
       ·rw [if_pos c18] at H
        refine CW.cond_t rfl (c18) (CW.seq (CW.lw 1 rfl (pu 1 rfl (RW.done ?_))))
        refine NW.next (CW.ret ?_)
        refine NW.ret_block (NW.ret_then (NW.ret_then (NW.ret_block (NW.ret_block (NW.ret_then (NW.ret_then (NW.ret_block (NW.ret_then ?_))))))))
        obtain rfl := Option.some.inj H
        exact NW.ret1 rfl (by rfl) ⟨rfl, x0_7⟩
       rw [if_neg c18] at H
       refine CW.cond_f rfl (bool_f c18) (CW.skip ?_)
       refine NW.norm_block (NW.next ?_)
       refine CW.lw 3 rfl (pu 3 rfl (RW.done ?_))
       exact NW.J fun a ha => ⟨n4, Nat.lt_succ_self n4, (w64 (it8_6 + 1)), ha.sb, by omega, x0_7, x_xt1_7, H⟩
      rw [if_neg c16] at H
      refine CW.cond_f rfl (decide_eq_false c16) (CW.exit ?_)
      refine NW.exit_then (NW.exit_then (NW.exit_hit ?_))
      refine NW.norm_block (NW.next ?_)
      refine CW.lw 3 rfl (pu 3 rfl (RW.done ?_))
      exact NW.J fun a ha => ⟨n3, Nat.lt_succ_self n3, (w64 (it7_5 + 1)), ha.sb, by omega, x0_6, x_xt1_6, H⟩
    rw [if_neg c15] at H
    refine CW.cond_f rfl (decide_eq_false c15) (CW.exit ?_)
    refine NW.exit_then (NW.exit_then (NW.exit_hit ?_))
    refine NW.next (CW.seq (CW.lex [.W, .W, .W, .L, .X, .W, .W, .W, .L, .X, .W, .W] rfl (pu 3 rfl ?_)))
    by_cases c19 : 0 < it3_1
    ·rw [if_pos c19] at H
     refine RW.bool 153 (b' := true) (decide_eq_true c19) rfl (RW.ld tk [.slice A1 p0.Devices.length c_1, .slice A2 p0.Tables.length c_2, iv p0.Job.Dev, iv p0.Job.At, iv p0.Job.Table.Dev, iv p0.Job.Table.Size, .slice A3 p0.Job.Table.List_.length c_3, iv p0.Next] ((gb1_0.ext x_xt1_5).at 0) ?_)
     obtain ⟨y9, h68, H⟩ := bind_some H
     refine RW.cl ent25 (hermitageref9_round.calls k p0 A1 c_1 A2 c_2 A3 c_3 _ _ (h1.ext x0_5).all hl1 (h2.ext x0_5).all hl2 (h3.ext x0_5).all hl3 h68) ?_
     rintro _ w23 ⟨rfl, x15⟩
     refine ⟨_, rfl, x15, ?_⟩
     have sx15 := x15.size
     refine pu 3 rfl ?_
     have j11 := x0_5.tr x15
     by_cases c20 : y9 = true
     ·rw [if_pos c20] at H
      refine RW.bool 158 (b' := false) (not_f (c20)) rfl (pu 4 rfl (RW.done (NW.next (CW.ret ?_))))
      obtain rfl := Option.some.inj H
      exact NW.ret1 rfl (by rfl) ⟨rfl, j11⟩
     rw [if_neg c20] at H
     refine RW.bool 158 (b' := true) (not_t (bool_f c20)) rfl ?_
     have h70 := (gb1_0.ext x_xt1_5).ext x15
     refine RW.ld tk [.slice A1 p0.Devices.length c_1, .slice A2 p0.Tables.length c_2, iv p0.Job.Dev, iv p0.Job.At, iv p0.Job.Table.Dev, iv p0.Job.Table.Size, .slice A3 p0.Job.Table.List_.length c_3, iv p0.Next] (h70.at 0) ?_
     have h71 := (h1.ext x0_5).ext x15
     have h72 := (h2.ext x0_5).ext x15
     have h73 := (h3.ext x0_5).ext x15
     obtain ⟨y10, h74, H⟩ := bind_some H
     refine RW.cl ent26 (hermitageref9_job.calls k p0 A1 c_1 A2 c_2 A3 c_3 _ _ h71.all hl1 h72.all hl2 h73.all hl3 h74) ?_
     rintro _ w24 ⟨rfl, x16⟩
     refine ⟨_, rfl, x16, ?_⟩
     have sx16 := x16.size
     refine pu 2 rfl (RW.done (NW.next (CW.ret ?_)))
     obtain rfl := Option.some.inj H
     have h75 := j11.tr x16
     exact NW.ret1 rfl (by rfl) ⟨rfl, h75⟩
    rw [if_neg c19] at H
    refine RW.bool 153 (b' := false) (decide_eq_false c19) rfl (pu 9 rfl (RW.done (NW.next (CW.ret ?_))))
    obtain rfl := Option.some.inj H
    exact NW.ret1 rfl (by rfl) ⟨rfl, x0_5⟩
theorem seg_To.calls (p0 : Int) (r : Int) (w : World) (H : seg_To.f p0 = some r) :
    Calls Tryz.prog 39 #[iv p0] w fun e w' => e = .returned (.int .u64 r) ∧ Ext w w' := by
 have x0 : Ext w w := Upd.refl _ w
 unfold seg_To.f at H
 refine calls_start Tryz.func39 rfl 8 rfl [iv p0] rfl ?_
 refine CW.seq (CW.lw 1 rfl (pu 1 rfl (RW.done (NW.next ?_))))
 refine CW.seq (CW.seq (CW.lw 2 rfl (pu 2 rfl (RW.done ?_))))
 refine NW.next ?_
 by_cases c1 : 64 ≤ p0
 ·rw [if_pos c1] at H
  refine CW.cond_t rfl (decide_eq_true c1) (CW.seq (CW.lw 1 rfl (pu 1 rfl (RW.done ?_))))
  refine NW.next (CW.ret (NW.ret_then ?_))
  obtain rfl := Option.some.inj H
  exact NW.ret1 rfl (by rfl) ⟨rfl, x0⟩
 rw [if_neg c1] at H
 refine CW.cond_f rfl (decide_eq_false c1) (CW.skip (NW.next (CW.seq (CW.lw 4 rfl ?_))))
 refine pu 1 rfl ?_
 obtain ⟨g1, H⟩ := guard_some H
 refine RW.shift g1 ⟨rfl, rfl, rfl, rfl⟩ rfl rfl rfl rfl (pu 2 rfl (RW.done (NW.next (CW.ret ?_))))
 obtain rfl := Option.some.inj H
 exact NW.ret1 rfl (by rfl) ⟨rfl, x0⟩
theorem seg_Make.calls (k : Nat) (A1 : Option Addr) (c_1 : Nat) (p0 : List Seg) (r : Int) (w : World) (hs1 : Sl kSeg w.heap okAll A1 p0) (hl1 : p0.length ≤ c_1) (H : seg_Make.f k p0 = some r) :
    Calls Tryz.prog 57 #[.slice A1 p0.length c_1] w fun e w' => e = .returned (.int .u64 r) ∧ Ext w w' := by
 have h1 : Sl kSeg w.heap (okL [(0, some w.heap.size, none)]) A1 p0 := hs1.old _ rfl
 have x0 : Ext w w := Upd.refl _ w
 unfold seg_Make.f at H
 refine calls_start Tryz.func57 rfl 26 rfl [.slice A1 p0.length c_1] rfl ?_
 refine CW.seq (CW.lw 1 rfl (pu 1 rfl (RW.done (NW.next ?_))))
 refine CW.seq (CW.lw 1 rfl (pu 1 rfl (RW.done (NW.next ?_))))
 refine CW.seq (CW.seq (CW.lw 3 rfl (pu 3 rfl (RW.done ?_))))
 refine NW.next (CW.block ?_)
 refine CW.loop (fun n1 a w1 => ∃ (it3_0 : Int) (it8_0 : Int), Sat 26 [(3, .int .u64 it3_0), (6, .slice A1 p0.length c_1), (7, iv (p0.length : Int)), (8, iv it8_0)] a ∧ w.heap.size ≤ w1.heap.size ∧ Ext w w1 ∧ seg_Make.l0 p0 n1 it3_0 it8_0 = some r) k ?_ ?_
 ·exact fun a ha => ⟨0, 0, ha.sb, by omega, x0, H⟩
 intro n1 a w1 hI hp
 obtain ⟨it3_0, it8_0, hS, hle, x0_0, H⟩ := hI
 cases n1 with
 | zero => cases H
 | succ n1 =>
  rw [seg_Make.l0] at H
  refine CW.go hp hS (CW.seq (CW.lw 1 rfl (pu 1 rfl (RW.done ?_))))
  refine NW.next (CW.seq ?_)
  by_cases c1 : it8_0 < (p0.length : Int)
  ·rw [if_pos c1] at H
   refine CW.cond_t rfl (decide_eq_true c1) (CW.skip (NW.next (CW.seq (CW.block ?_))))
   refine CW.seq (CW.lex [.W, .L, .X, .M] rfl ?_)
   obtain ⟨g1, H⟩ := guard_some H
   obtain ⟨ad1, e1, a1⟩ := kSeg_at (h1.ext x0_0) g1.1 g1.2
   refine RW.ix tk g1 e1 ?_
   refine RW.ld tk [iv ((rd p0 it8_0).At), iv ((rd p0 it8_0).Len)] a1 ?_
   refine RW.alloc tk (.inl rfl) ⟨rfl, rfl, rfl, rfl⟩ rfl rfl ?_
   intro b1 w2 x1 l1 h2
   have sx1 := x1.size
   have ltb1 := h2.lt
   refine RW.sb tk h2 [iv ((rd p0 it8_0).At), iv ((rd p0 it8_0).Len)] ?_
   intro w3 x2 h3
   have h4 : Box w3.heap b1 105 [iv ((rd p0 it8_0).At), iv ((rd p0 it8_0).Len)] := h3
   have sx2 := x2.size
   refine RW.done (NW.next (CW.ord [0, 0, 2, 0, 8, 30, 62, 0, 128, 510, 1022, 2047, 4095] (ofL [(0, .W), (1, .W), (3, .W), (7, .W), (2, .L), (4, .L), (5, .W), (8, .L), (6, .X), (9, .X), (10, .W), (11, .W), (12, .W)] .nil) mixed (by kernel_rfl) ?_))
   intro w4 x3
   have sx3 := x3.size
   refine pu 4 rfl ?_
   have h5 := h4.ext x3
   refine RW.lb tk [iv ((rd p0 it8_0).At)] h5 0 ?_
   refine RW.ld tk [iv ((rd p0 it8_0).Len)] (h5.at 1) ?_
   refine pu 1 rfl (RW.lb tk [iv ((rd p0 it8_0).At)] h5 0 ?_)
   obtain ⟨y1, h6, H⟩ := bind_some H
   refine RW.cl ent39 (seg_To.calls (w64 (((rd p0 it8_0).At) + ((rd p0 it8_0).Len))) _ _ h6) ?_
   rintro _ w5 ⟨rfl, x4⟩
   refine ⟨_, rfl, x4, ?_⟩
   have sx4 := x4.size
   obtain ⟨y2, h7, H⟩ := bind_some H
   refine RW.cl ent39 (seg_To.calls ((rd p0 it8_0).At) _ _ h7) ?_
   rintro _ w6 ⟨rfl, x5⟩
   refine ⟨_, rfl, x5, ?_⟩
   have sx5 := x5.size
   refine pu 3 rfl (RW.done ?_)
   refine NW.norm_block (NW.next ?_)
   refine CW.lw 2 rfl (pu 2 rfl (RW.done ?_))
   have h8 := ((((x0_0.tr x1).tB x2).tr x3).tr x4).tr x5
   exact NW.J fun a ha => ⟨n1, Nat.lt_succ_self n1, (uor it3_0 (uandn y1 y2)), (w64 (it8_0 + 1)), ha.sb, by omega, h8, H⟩
  rw [if_neg c1] at H
  refine CW.cond_f rfl (decide_eq_false c1) (CW.exit ?_)
  refine NW.exit_then (NW.exit_then (NW.exit_hit ?_))
  refine NW.next (CW.seq (CW.lw 2 rfl (pu 2 rfl (RW.done ?_))))
  refine NW.next (CW.ret ?_)
  obtain rfl := Option.some.inj H
  exact NW.ret1 rfl (by rfl) ⟨rfl, x0_0⟩
theorem seg_May.calls (k : Nat) (A1 : Option Addr) (c_1 : Nat) (p0 : List Seg) (r : Bool) (w : World) (hs1 : Sl kSeg w.heap okAll A1 p0) (hl1 : p0.length ≤ c_1) (H : seg_May.f k p0 = some r) :
    Calls Tryz.prog 155 #[.slice A1 p0.length c_1] w fun e w' => e = .returned (.bool r) ∧ Ext w w' := by
 have h1 : Sl kSeg w.heap (okL [(0, some w.heap.size, none)]) A1 p0 := hs1.old _ rfl
 have x0 : Ext w w := Upd.refl _ w
 unfold seg_May.f at H
 refine calls_start Tryz.func155 rfl 56 rfl [.slice A1 p0.length c_1] rfl ?_
 refine CW.seq (CW.lw 1 rfl (pu 1 rfl (RW.done (NW.next ?_))))
 refine CW.seq (CW.seq (CW.lw 3 rfl (pu 3 rfl (RW.done ?_))))
 refine NW.next (CW.block ?_)
 refine CW.loop (fun n1 a w1 => ∃ (it7_0 : Int), Sat 56 [(0, .slice A1 p0.length c_1), (5, .slice A1 p0.length c_1), (6, iv (p0.length : Int)), (7, iv it7_0)] a ∧ w.heap.size ≤ w1.heap.size ∧ Ext w w1 ∧ seg_May.l0 p0 n1 it7_0 = some r) k ?_ ?_
 ·exact fun a ha => ⟨0, ha.sb, by omega, x0, H⟩
 intro n1 a w1 hI hp
 obtain ⟨it7_0, hS, hle, x0_0, H⟩ := hI
 cases n1 with
 | zero => cases H
 | succ n1 =>
  rw [seg_May.l0] at H
  refine CW.go hp hS (CW.seq (CW.lw 1 rfl (pu 1 rfl (RW.done ?_))))
  refine NW.next (CW.seq ?_)
  by_cases c1 : it7_0 < (p0.length : Int)
  ·rw [if_pos c1] at H
   refine CW.cond_t rfl (decide_eq_true c1) (CW.skip (NW.next (CW.seq (CW.block ?_))))
   refine CW.seq (CW.lex [.W, .W, .L, .X, .W, .M] rfl (pu 1 rfl ?_))
   obtain ⟨g1, H⟩ := guard_some H
   obtain ⟨ad1, e1, a1⟩ := kSeg_at (h1.ext x0_0) g1.1 g1.2
   refine RW.ix tk g1 e1 ?_
   refine RW.ld tk [iv ((rd p0 it7_0).At), iv ((rd p0 it7_0).Len)] a1 ?_
   refine RW.alloc tk (.inl rfl) ⟨rfl, rfl, rfl, rfl⟩ rfl rfl ?_
   intro b1 w2 x1 l1 h2
   have sx1 := x1.size
   have ltb1 := h2.lt
   refine pu 1 rfl (RW.sb tk h2 [iv ((rd p0 it7_0).At), iv ((rd p0 it7_0).Len)] ?_)
   intro w3 x2 h3
   have h4 : Box w3.heap b1 105 [iv ((rd p0 it7_0).At), iv ((rd p0 it7_0).Len)] := h3
   have sx2 := x2.size
   refine RW.done (NW.next ?_)
   refine CW.seqJ (fun a w4 => ∃ (bt54_1 : Bool), Sat 56 [(0, .slice A1 p0.length c_1), (5, .slice A1 p0.length c_1), (6, iv (p0.length : Int)), (7, iv it7_0), (54, .bool bt54_1)] a ∧ w3.heap.size ≤ w4.heap.size ∧ Ext w w4 ∧ seg_May.j0 it7_0 (seg_May.l0 p0 n1) bt54_1 = some r) ?_ ?_
   ·refine CW.ord [0, 1, 3, 7, 15, 31, 63, 127, 255, 511, 1023, 2047, 4095, 8191, 16383, 32767, 16383, 81919, 212991, 524287, 1048575, 2097151, 4194303, 8388607, 16777215, 33554431, 67108863, 33554431, 33554431, 301989887, 973078527, 2046820351, 4194303999, 33554431, 33554431, 17213423615, 60163096575, 128882573311, 266321526783, 549655150591, 1099511627775, 2199023255551, 4398046511103] (ofL [(0, .W), (1, .L), (2, .W), (3, .W), (4, .W), (5, .L), (6, .W), (7, .W), (8, .W), (9, .W), (10, .L), (11, .W), (12, .W), (13, .W), (14, .W), (16, .W), (15, .L), (17, .L), (18, .W), (19, .W), (20, .W), (21, .W), (22, .W), (23, .W), (24, .W), (25, .W), (27, .W), (28, .W), (29, .W), (30, .W), (31, .W), (33, .W), (34, .W), (35, .W), (36, .W), (37, .W), (26, .L), (32, .L), (38, .L), (39, .W), (40, .W), (41, .W), (42, .W)] .nil) mixed (by kernel_rfl) ?_
    intro w5 x3
    have sx3 := x3.size
    refine pu 1 rfl ?_
    have h5 := h4.ext x3
    refine RW.lb tk [iv ((rd p0 it7_0).At)] h5 0 ?_
    refine pu 2 rfl ?_
    have j1 := ((x0_0.tr x1).tB x2).tr x3
    by_cases c2 : ((rd p0 it7_0).At) < 0
    ·rw [if_pos c2] at H
     refine RW.bool 15 (b' := true) (decide_eq_true c2) rfl (pu 39 rfl (RW.done ?_))
     exact NW.J fun a ha => ⟨true, ha.sb, by omega, j1, H⟩
    rw [if_neg c2] at H
    refine RW.bool 15 (b' := false) (decide_eq_false c2) rfl (pu 1 rfl (RW.ld tk [iv ((rd p0 it7_0).Len)] (h5.at 1) ?_))
    refine pu 3 rfl ?_
    by_cases c3 : ((rd p0 it7_0).Len) < 1
    ·rw [if_pos c3] at H
     refine RW.bool 20 (b' := true) (decide_eq_true c3) rfl (pu 34 rfl (RW.done ?_))
     exact NW.J fun a ha => ⟨true, ha.sb, by omega, j1, H⟩
    rw [if_neg c3] at H
    refine RW.bool 20 (b' := false) (decide_eq_false c3) rfl (pu 1 rfl (RW.lb tk [iv ((rd p0 it7_0).At)] h5 0 ?_))
    refine pu 3 rfl ?_
    by_cases c4 : 64 < ((rd p0 it7_0).At)
    ·rw [if_pos c4] at H
     refine RW.bool 25 (b' := true) (decide_eq_true c4) rfl (pu 29 rfl (RW.done ?_))
     exact NW.J fun a ha => ⟨true, ha.sb, by omega, j1, H⟩
    rw [if_neg c4] at H
    refine RW.bool 25 (b' := false) (decide_eq_false c4) rfl (pu 2 rfl (RW.ld tk [iv ((rd p0 it7_0).Len)] (h5.at 1) ?_))
    refine RW.lb tk [iv ((rd p0 it7_0).At)] h5 0 ?_
    refine pu 4 rfl ?_
    by_cases c5 : (w64 (64 - ((rd p0 it7_0).At))) < ((rd p0 it7_0).Len)
    ·rw [if_pos c5] at H
     refine RW.bool 33 (b' := true) (decide_eq_true c5) rfl (pu 21 rfl (RW.done ?_))
     exact NW.J fun a ha => ⟨true, ha.sb, by omega, j1, H⟩
    rw [if_neg c5] at H
    refine RW.bool 33 (b' := false) (decide_eq_false c5) rfl (pu 3 rfl ?_)
    by_cases c6 : 0 < it7_0
    ·rw [if_pos c6] at H
     refine RW.bool 36 (b' := true) (decide_eq_true c6) rfl (pu 4 rfl ?_)
     obtain ⟨g2, H⟩ := guard_some H
     have h10 := (((h1.ext x0_0).ext x1).turnB x2 h2 ⟨.inr (by omega), trivial⟩).ext x3
     obtain ⟨ad2, e2, a2⟩ := kSeg_at h10 g2.1 g2.2
     refine RW.ix tk g2 e2 ?_
     refine pu 4 rfl ?_
     obtain ⟨g3, H⟩ := guard_some H
     obtain ⟨ad3, e3, a3⟩ := kSeg_at h10 g3.1 g3.2
     refine RW.ix tk g3 e3 ?_
     refine pu 1 rfl (RW.lb tk [iv ((rd p0 it7_0).At)] h5 0 ?_)
     refine RW.ld tk [iv ((rd p0 (w64 (it7_0 - 1))).At)] ((a2.fld 0).take 1 rfl) ?_
     refine RW.ld tk [iv ((rd p0 (w64 (it7_0 - 1))).Len)] (a3.fld 1) ?_
     refine pu 4 rfl (RW.done ?_)
     exact NW.J fun a ha => ⟨(decide (((rd p0 it7_0).At) ≤ (w64 (((rd p0 (w64 (it7_0 - 1))).At) + ((rd p0 (w64 (it7_0 - 1))).Len))))), ha.sb, by omega, j1, H⟩
    rw [if_neg c6] at H
    refine RW.bool 36 (b' := false) (decide_eq_false c6) rfl (pu 18 rfl (RW.done ?_))
    exact NW.J fun a ha => ⟨false, ha.sb, by omega, j1, H⟩
   intro a w4 hJ hp
   obtain ⟨bt54_1, hS, hle, x0_1, H⟩ := hJ
   unfold seg_May.j0 at H
   refine CW.go hp hS ?_
   by_cases c7 : bt54_1 = true
   ·rw [if_pos c7] at H
    refine CW.cond_t rfl (c7) (CW.seq (CW.lw 1 rfl (pu 1 rfl (RW.done ?_))))
    refine NW.next (CW.ret ?_)
    refine NW.ret_block (NW.ret_then (NW.ret_then (NW.ret_block (NW.ret_then ?_))))
    obtain rfl := Option.some.inj H
    exact NW.ret1 rfl (by rfl) ⟨rfl, x0_1⟩
   rw [if_neg c7] at H
   refine CW.cond_f rfl (bool_f c7) (CW.skip ?_)
   refine NW.norm_block (NW.next ?_)
   refine CW.lw 2 rfl (pu 2 rfl (RW.done ?_))
   exact NW.J fun a ha => ⟨n1, Nat.lt_succ_self n1, (w64 (it7_0 + 1)), ha.sb, by omega, x0_1, H⟩
  rw [if_neg c1] at H
  refine CW.cond_f rfl (decide_eq_false c1) (CW.exit ?_)
  refine NW.exit_then (NW.exit_then (NW.exit_hit ?_))
  refine NW.next (CW.seq (CW.lw 1 rfl (pu 1 rfl (RW.done ?_))))
  refine NW.next (CW.ret ?_)
  obtain rfl := Option.some.inj H
  exact NW.ret1 rfl (by rfl) ⟨rfl, x0_0⟩
theorem room_ok.calls (k : Nat) (A1 : Option Addr) (c_1 : Nat) (p0 : List Seg) (p1 : Int) (r : Bool) (w : World) (hs1 : Sl kSeg w.heap okAll A1 p0) (hl1 : p0.length ≤ c_1) (H : room_ok.f k p0 p1 = some r) :
    Calls Tryz.prog 141 #[.slice A1 p0.length c_1, iv p1] w fun e w' => e = .returned (.bool r) ∧ Ext w w' := by
 have h1 : Sl kSeg w.heap (okL [(0, some w.heap.size, none)]) A1 p0 := hs1.old _ rfl
 have x0 : Ext w w := Upd.refl _ w
 unfold room_ok.f at H
 refine calls_start Tryz.func141 rfl 15 rfl [.slice A1 p0.length c_1, iv p1] rfl ?_
 refine CW.seq (CW.lw 1 rfl (pu 1 rfl (RW.done (NW.next ?_))))
 refine CW.seq (CW.lex [.W, .X, .W, .W, .X, .W, .X, .W, .W, .W, .W] rfl (pu 1 rfl ?_))
 obtain ⟨y1, h2, H⟩ := bind_some H
 refine RW.cl ent155 (seg_May.calls k A1 c_1 p0 _ _ h1.all hl1 h2) ?_
 rintro _ w1 ⟨rfl, x1⟩
 refine ⟨_, rfl, x1, ?_⟩
 have sx1 := x1.size
 refine pu 1 rfl ?_
 have j1 := x0.tr x1
 by_cases c1 : y1 = true
 ·rw [if_pos c1] at H
  refine RW.bool 7 (b' := true) (c1) rfl (pu 1 rfl ?_)
  have h3 := h1.ext x1
  obtain ⟨y2, h4, H⟩ := bind_some H
  refine RW.cl ent57 (seg_Make.calls k A1 c_1 p0 _ _ h3.all hl1 h4) ?_
  rintro _ w2 ⟨rfl, x2⟩
  refine ⟨_, rfl, x2, ?_⟩
  have sx2 := x2.size
  refine pu 1 rfl ?_
  obtain ⟨y3, h5, H⟩ := bind_some H
  refine RW.cl ent39 (seg_To.calls p1 _ _ h5) ?_
  rintro _ w3 ⟨rfl, x3⟩
  refine ⟨_, rfl, x3, ?_⟩
  have sx3 := x3.size
  refine pu 4 rfl (RW.done (NW.next (CW.ret ?_)))
  obtain rfl := Option.some.inj H
  have h6 := (j1.tr x2).tr x3
  exact NW.ret1 rfl (by rfl) ⟨rfl, h6⟩
 rw [if_neg c1] at H
 refine RW.bool 7 (b' := false) (bool_f c1) rfl (pu 8 rfl (RW.done (NW.next (CW.ret ?_))))
 obtain rfl := Option.some.inj H
 exact NW.ret1 rfl (by rfl) ⟨rfl, j1⟩
theorem room_Device.calls (k : Nat) (p0 : Device) (A1 : Option Addr) (c_1 : Nat) (A2 : Option Addr) (c_2 : Nat) (r : Bool) (w : World) (hs1 : Sl kSeg w.heap okAll A1 p0.Free) (hl1 : p0.Free.length ≤ c_1) (hs2 : Sl kSeg w.heap okAll A2 p0.Late) (hl2 : p0.Late.length ≤ c_2) (H : room_Device.f k p0 = some r) :
    Calls Tryz.prog 112 #[.agg #[iv p0.ID, iv p0.Size, .slice A1 p0.Free.length c_1, .slice A2 p0.Late.length c_2]] w fun e w' => e = .returned (.bool r) ∧ Ext w w' := by
 have h1 : Sl kSeg w.heap (okL [(0, some w.heap.size, none)]) A1 p0.Free := hs1.old _ rfl
 have h2 : Sl kSeg w.heap (okL [(0, some w.heap.size, none)]) A2 p0.Late := hs2.old _ rfl
 have x0 : Ext w w := Upd.refl _ w
 unfold room_Device.f at H
 refine calls_start Tryz.func112 rfl 45 rfl [.agg #[iv p0.ID, iv p0.Size, .slice A1 p0.Free.length c_1, .slice A2 p0.Late.length c_2]] rfl ?_
 refine CW.seq (CW.lex [.X, .W] rfl (RW.box (cs := [iv p0.ID, iv p0.Size, .slice A1 p0.Free.length c_1, .slice A2 p0.Late.length c_2]) (.inl rfl) ⟨rfl, rfl, rfl, rfl⟩ rfl rfl rfl ?_))
 intro b1 w1 x1 l1 h3
 have sx1 := x1.size
 have ltb1 := h3.lt
 refine pu 1 rfl (RW.done (NW.next (CW.seq (CW.ord [0, 1, 3, 7, 15, 31, 63, 127, 255, 511, 1023, 2047, 4095, 8191, 16383, 32767, 65535, 131071, 262143, 524287, 1048575, 524287, 2621439, 8388607, 16777215, 33554431, 67108863, 134217727, 67108863, 335544319, 1073741823, 2147483647, 4294967295, 8589934591, 17179869183, 34359738367, 8589934591, 77309411327, 274877906943, 549755813887, 1099511627775, 2199023255551, 4398046511103] (ofL [(0, .W), (1, .L), (2, .W), (3, .W), (4, .W), (5, .L), (6, .W), (7, .W), (8, .W), (9, .W), (10, .L), (11, .W), (12, .W), (13, .W), (14, .W), (15, .L), (16, .W), (17, .W), (18, .W), (19, .W), (21, .W), (20, .L), (22, .L), (23, .X), (24, .W), (25, .W), (26, .W), (28, .W), (27, .L), (29, .L), (30, .X), (31, .W), (32, .W), (33, .W), (36, .W), (34, .L), (37, .L), (35, .X), (38, .X), (39, .W), (40, .W), (41, .W), (42, .W)] .nil) mixed (by kernel_rfl) ?_))))
 intro w2 x2
 have sx2 := x2.size
 refine pu 1 rfl ?_
 have h4 := h3.ext x2
 refine RW.lb tk [iv p0.ID] h4 0 ?_
 refine pu 2 rfl ?_
 have j1 := (x0.tr x1).tr x2
 by_cases c1 : 1 ≤ p0.ID
 ·rw [if_pos c1] at H
  refine RW.bool 6 (b' := true) (decide_eq_true c1) rfl (pu 1 rfl (RW.lb tk [iv p0.ID] h4 0 ?_))
  refine pu 3 rfl ?_
  by_cases c2 : p0.ID ≤ 40
  ·rw [if_pos c2] at H
   refine RW.bool 11 (b' := true) (decide_eq_true c2) rfl (pu 1 rfl (RW.lb tk [iv p0.Size] h4 1 ?_))
   refine pu 3 rfl ?_
   by_cases c3 : 1 ≤ p0.Size
   ·rw [if_pos c3] at H
    refine RW.bool 16 (b' := true) (decide_eq_true c3) rfl (pu 1 rfl (RW.lb tk [iv p0.Size] h4 1 ?_))
    refine pu 3 rfl ?_
    by_cases c4 : p0.Size ≤ 64
    ·rw [if_pos c4] at H
     refine RW.bool 21 (b' := true) (decide_eq_true c4) rfl (pu 2 rfl (RW.lb tk [.slice A1 p0.Free.length c_1] h4 2 ?_))
     refine RW.lb tk [iv p0.Size] h4 1 ?_
     have h5 := (h1.ext x1).ext x2
     obtain ⟨y1, h6, H⟩ := bind_some H
     refine RW.cl ent141 (room_ok.calls k A1 c_1 p0.Free p0.Size _ _ h5.all hl1 h6) ?_
     rintro _ w3 ⟨rfl, x3⟩
     refine ⟨_, rfl, x3, ?_⟩
     have sx3 := x3.size
     refine pu 2 rfl ?_
     have j2 := j1.tr x3
     by_cases c5 : y1 = true
     ·rw [if_pos c5] at H
      refine RW.bool 28 (b' := true) (c5) rfl (pu 2 rfl ?_)
      have h7 := h4.ext x3
      refine RW.ld tk [.slice A2 p0.Late.length c_2] (h7.at 3) ?_
      refine RW.lb tk [iv p0.Size] h7 1 ?_
      have h8 := ((h2.ext x1).ext x2).ext x3
      obtain ⟨y2, h9, H⟩ := bind_some H
      refine RW.cl ent141 (room_ok.calls k A2 c_2 p0.Late p0.Size _ _ h8.all hl2 h9) ?_
      rintro _ w4 ⟨rfl, x4⟩
      refine ⟨_, rfl, x4, ?_⟩
      have sx4 := x4.size
      refine pu 2 rfl ?_
      have j3 := j2.tr x4
      by_cases c6 : y2 = true
      ·rw [if_pos c6] at H
       refine RW.bool 35 (b' := true) (c6) rfl (pu 2 rfl ?_)
       have h10 := h7.ext x4
       refine RW.lb tk [.slice A1 p0.Free.length c_1] h10 2 ?_
       refine RW.ld tk [.slice A2 p0.Late.length c_2] (h10.at 3) ?_
       have h11 := (h5.ext x3).ext x4
       obtain ⟨y3, h12, H⟩ := bind_some H
       refine RW.cl ent57 (seg_Make.calls k A1 c_1 p0.Free _ _ h11.all hl1 h12) ?_
       rintro _ w5 ⟨rfl, x5⟩
       refine ⟨_, rfl, x5, ?_⟩
       have sx5 := x5.size
       have h13 := (h8.ext x4).ext x5
       obtain ⟨y4, h14, H⟩ := bind_some H
       refine RW.cl ent57 (seg_Make.calls k A2 c_2 p0.Late _ _ h13.all hl2 h14) ?_
       rintro _ w6 ⟨rfl, x6⟩
       refine ⟨_, rfl, x6, ?_⟩
       have sx6 := x6.size
       refine pu 4 rfl (RW.done (NW.next (CW.ret ?_)))
       obtain rfl := Option.some.inj H
       have h15 := (j3.tr x5).tr x6
       exact NW.ret1 rfl (by rfl) ⟨rfl, h15⟩
      rw [if_neg c6] at H
      refine RW.bool 35 (b' := false) (bool_f c6) rfl (pu 10 rfl (RW.done (NW.next (CW.ret ?_))))
      obtain rfl := Option.some.inj H
      exact NW.ret1 rfl (by rfl) ⟨rfl, j3⟩
     rw [if_neg c5] at H
     refine RW.bool 28 (b' := false) (bool_f c5) rfl (pu 17 rfl (RW.done (NW.next (CW.ret ?_))))
     obtain rfl := Option.some.inj H
     exact NW.ret1 rfl (by rfl) ⟨rfl, j2⟩
    rw [if_neg c4] at H
    refine RW.bool 21 (b' := false) (decide_eq_false c4) rfl (pu 24 rfl (RW.done (NW.next (CW.ret ?_))))
    obtain rfl := Option.some.inj H
    exact NW.ret1 rfl (by rfl) ⟨rfl, j1⟩
   rw [if_neg c3] at H
   refine RW.bool 16 (b' := false) (decide_eq_false c3) rfl (pu 29 rfl (RW.done (NW.next (CW.ret ?_))))
   obtain rfl := Option.some.inj H
   exact NW.ret1 rfl (by rfl) ⟨rfl, j1⟩
  rw [if_neg c2] at H
  refine RW.bool 11 (b' := false) (decide_eq_false c2) rfl (pu 34 rfl (RW.done (NW.next (CW.ret ?_))))
  obtain rfl := Option.some.inj H
  exact NW.ret1 rfl (by rfl) ⟨rfl, j1⟩
 rw [if_neg c1] at H
 refine RW.bool 6 (b' := false) (decide_eq_false c1) rfl (pu 39 rfl (RW.done (NW.next (CW.ret ?_))))
 obtain rfl := Option.some.inj H
 exact NW.ret1 rfl (by rfl) ⟨rfl, j1⟩
end Go.Proofs.YtnaajldlloglkaaGreatDoor.W
