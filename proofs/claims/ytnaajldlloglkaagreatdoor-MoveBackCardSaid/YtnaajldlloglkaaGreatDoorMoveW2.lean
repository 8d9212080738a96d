/- Walks; printed by a program of the claim. -/
import Derived.Test.YtnaajldlloglkaaGreatDoorMoveW1
set_option linter.unusedVariables false
set_option linter.unusedSimpArgs false
set_option maxHeartbeats 20000000
set_option maxRecDepth 100000
namespace Go.Proofs.YtnaajldlloglkaaGreatDoor.W
open Go.H Go.Proofs
theorem room_May.calls (k : Nat) (A1 : Option Addr) (c_1 : Nat) (p0 : List Device) (r : Bool) (w : World) (hs1 : Sl kDeviceR w.heap okAll A1 p0) (hl1 : p0.length ≤ c_1) (H : room_May.f k p0 = some r) :
    Calls Tryz.prog 78 #[.slice A1 p0.length c_1] w fun e w' => e = .returned (.bool r) ∧ Ext w w' := by
 have h1 : Sl kDeviceR w.heap (okL [(0, some w.heap.size, none)]) A1 p0 := hs1.old _ rfl
 have x0 : Ext w w := Upd.refl _ w
 unfold room_May.f at H
 refine calls_start Tryz.func78 rfl 34 rfl [.slice A1 p0.length c_1] rfl ?_
 refine CW.seq (CW.lw 1 rfl (pu 1 rfl (RW.done (NW.next ?_))))
 refine CW.seq (CW.seq (CW.lw 3 rfl (pu 3 rfl (RW.done ?_))))
 refine NW.next ?_
 by_cases c1 : 6 < (p0.length : Int)
 ·rw [if_pos c1] at H
  refine CW.cond_t rfl (decide_eq_true c1) (CW.seq (CW.lw 1 rfl (pu 1 rfl (RW.done ?_))))
  refine NW.next (CW.ret (NW.ret_then ?_))
  obtain rfl := Option.some.inj H
  exact NW.ret1 rfl (by rfl) ⟨rfl, x0⟩
 rw [if_neg c1] at H
 refine CW.cond_f rfl (decide_eq_false c1) (CW.skip (NW.next (CW.seq (CW.seq ?_))))
 refine CW.lw 3 rfl (pu 3 rfl (RW.done (NW.next (CW.block ?_))))
 refine CW.loop (fun n1 a w1 => ∃ (it10_0 : Int), Sat 34 [(0, .slice A1 p0.length c_1), (8, .slice A1 p0.length c_1), (9, iv (p0.length : Int)), (10, iv it10_0)] a ∧ w.heap.size ≤ w1.heap.size ∧ Ext w w1 ∧ room_May.l0 p0 k n1 it10_0 = some r) k ?_ ?_
 ·exact fun a ha => ⟨0, ha.sb, by omega, x0, H⟩
 intro n1 a w1 hI hp
 obtain ⟨it10_0, hS, hle, x0_0, H⟩ := hI
 cases n1 with
 | zero => cases H
 | succ n1 =>
  rw [room_May.l0] at H
  refine CW.go hp hS (CW.seq (CW.lw 1 rfl (pu 1 rfl (RW.done ?_))))
  refine NW.next (CW.seq ?_)
  by_cases c2 : it10_0 < (p0.length : Int)
  ·rw [if_pos c2] at H
   refine CW.cond_t rfl (decide_eq_true c2) (CW.skip (NW.next (CW.seq (CW.block ?_))))
   refine CW.seq (CW.lex [.W, .W, .L, .X, .W, .M] rfl (pu 1 rfl ?_))
   obtain ⟨g1, H⟩ := guard_some H
   obtain ⟨ad1, A2, c_2, A3, c_3, e1, a1, l1, h2, l2, h3⟩ := kDeviceR_at (h1.ext x0_0) g1.1 g1.2
   refine RW.ix tk g1 e1 ?_
   refine RW.ld tk [iv ((rd p0 it10_0).ID), iv ((rd p0 it10_0).Size), .slice A2 ((rd p0 it10_0).Free).length c_2, .slice A3 ((rd p0 it10_0).Late).length c_3] a1 ?_
   refine RW.alloc tk (.inl rfl) ⟨rfl, rfl, rfl, rfl⟩ rfl rfl ?_
   intro b1 w2 x1 l3 h4
   have sx1 := x1.size
   have ltb1 := h4.lt
   refine pu 1 rfl (RW.sb tk h4 [iv ((rd p0 it10_0).ID), iv ((rd p0 it10_0).Size), .slice A2 ((rd p0 it10_0).Free).length c_2, .slice A3 ((rd p0 it10_0).Late).length c_3] ?_)
   intro w3 x2 h5
   have h6 : Box w3.heap b1 40 [iv ((rd p0 it10_0).ID), iv ((rd p0 it10_0).Size), .slice A2 ((rd p0 it10_0).Free).length c_2, .slice A3 ((rd p0 it10_0).Late).length c_3] := h5
   have sx2 := x2.size
   refine RW.done (NW.next ?_)
   refine CW.seqJ (fun a w4 => ∃ (bt32_1 : Bool), Sat 34 [(0, .slice A1 p0.length c_1), (8, .slice A1 p0.length c_1), (9, iv (p0.length : Int)), (10, iv it10_0), (32, .bool bt32_1)] a ∧ w3.heap.size ≤ w4.heap.size ∧ Ext w w4 ∧ room_May.j0 it10_0 (room_May.l0 p0 k n1) bt32_1 = some r) ?_ ?_
   ·refine CW.ord [0, 1, 3, 7, 15, 31, 63, 127, 255, 127, 127, 1151, 3711, 7807, 15999, 32767, 65535, 131071] (ofL [(0, .L), (1, .X), (2, .W), (3, .W), (4, .W), (5, .W), (6, .W), (7, .W), (9, .W), (10, .W), (11, .W), (12, .W), (13, .W), (8, .L), (14, .L), (15, .W), (16, .W), (17, .W)] .nil) mixed (by kernel_rfl) ?_
    intro w5 x3
    have sx3 := x3.size
    have h7 := h6.ext x3
    refine RW.ld tk [iv ((rd p0 it10_0).ID), iv ((rd p0 it10_0).Size), .slice A2 ((rd p0 it10_0).Free).length c_2, .slice A3 ((rd p0 it10_0).Late).length c_3] (h7.at 0) ?_
    have h8 := ((h2.ext x1).turnB x2 h4 ⟨.inr (by omega), trivial⟩).ext x3
    have h9 := ((h3.ext x1).turnB x2 h4 ⟨.inr (by omega), trivial⟩).ext x3
    obtain ⟨y1, h10, H⟩ := bind_some H
    refine RW.cl ent112 (room_Device.calls k (rd p0 it10_0) A2 c_2 A3 c_3 _ _ h8.all l1 h9.all l2 h10) ?_
    rintro _ w6 ⟨rfl, x4⟩
    refine ⟨_, rfl, x4, ?_⟩
    have sx4 := x4.size
    refine pu 2 rfl ?_
    have j1 := (((x0_0.tr x1).tB x2).tr x3).tr x4
    by_cases c3 : y1 = true
    ·rw [if_pos c3] at H
     refine RW.bool 18 (b' := false) (not_f (c3)) rfl (pu 3 rfl ?_)
     by_cases c4 : 0 < it10_0
     ·rw [if_pos c4] at H
      refine RW.bool 21 (b' := true) (decide_eq_true c4) rfl (pu 4 rfl ?_)
      obtain ⟨g2, H⟩ := guard_some H
      have h11 := ((((h1.ext x0_0).ext x1).turnB x2 h4 ⟨.inr (by omega), trivial⟩).ext x3).ext x4
      obtain ⟨ad2, A4, c_4, A5, c_5, e2, a2, l4, h12, l5, h13⟩ := kDeviceR_at h11 g2.1 g2.2
      refine RW.ix tk g2 e2 ?_
      refine pu 1 rfl ?_
      have h14 := h7.ext x4
      refine RW.lb tk [iv ((rd p0 it10_0).ID)] h14 0 ?_
      refine RW.ld tk [iv ((rd p0 (w64 (it10_0 - 1))).ID)] ((a2.fld 0).take 1 rfl) ?_
      refine pu 3 rfl (RW.done ?_)
      exact NW.J fun a ha => ⟨(decide (((rd p0 it10_0).ID) ≤ ((rd p0 (w64 (it10_0 - 1))).ID))), ha.sb, by omega, j1, H⟩
     rw [if_neg c4] at H
     refine RW.bool 21 (b' := false) (decide_eq_false c4) rfl (pu 11 rfl (RW.done ?_))
     exact NW.J fun a ha => ⟨false, ha.sb, by omega, j1, H⟩
    rw [if_neg c3] at H
    refine RW.bool 18 (b' := true) (not_t (bool_f c3)) rfl (pu 14 rfl (RW.done ?_))
    exact NW.J fun a ha => ⟨true, ha.sb, by omega, j1, H⟩
   intro a w4 hJ hp
   obtain ⟨bt32_1, hS, hle, x0_1, H⟩ := hJ
   unfold room_May.j0 at H
   refine CW.go hp hS ?_
   by_cases c5 : bt32_1 = true
   ·rw [if_pos c5] at H
    refine CW.cond_t rfl (c5) (CW.seq (CW.lw 1 rfl (pu 1 rfl (RW.done ?_))))
    refine NW.next (CW.ret ?_)
    refine NW.ret_block (NW.ret_then (NW.ret_then (NW.ret_block (NW.ret_then ?_))))
    obtain rfl := Option.some.inj H
    exact NW.ret1 rfl (by rfl) ⟨rfl, x0_1⟩
   rw [if_neg c5] at H
   refine CW.cond_f rfl (bool_f c5) (CW.skip ?_)
   refine NW.norm_block (NW.next ?_)
   refine CW.lw 2 rfl (pu 2 rfl (RW.done ?_))
   exact NW.J fun a ha => ⟨n1, Nat.lt_succ_self n1, (w64 (it10_0 + 1)), ha.sb, by omega, x0_1, H⟩
  rw [if_neg c2] at H
  refine CW.cond_f rfl (decide_eq_false c2) (CW.exit ?_)
  refine NW.exit_then (NW.exit_then (NW.exit_hit ?_))
  refine NW.next (CW.seq (CW.lw 1 rfl (pu 1 rfl (RW.done ?_))))
  refine NW.next (CW.ret ?_)
  obtain rfl := Option.some.inj H
  exact NW.ret1 rfl (by rfl) ⟨rfl, x0_0⟩
theorem room_Find_1.calls (p0 : Device) (A1 : Option Addr) (c_1 : Nat) (A2 : Option Addr) (c_2 : Nat) (p1 : Int) (r : Int) (w : World) (hs1 : Sl kSeg w.heap okAll A1 p0.Free) (hl1 : p0.Free.length ≤ c_1) (hs2 : Sl kSeg w.heap okAll A2 p0.Late) (hl2 : p0.Late.length ≤ c_2) (H : room_Find_1.f p0 p1 = some r) :
    Calls Tryz.prog 56 #[.agg #[iv p0.ID, iv p0.Size, .slice A1 p0.Free.length c_1, .slice A2 p0.Late.length c_2], iv p1] w fun e w' => e = .returned (iv r) ∧ Ext w w' := by
 have h1 : Sl kSeg w.heap (okL [(0, some w.heap.size, none)]) A1 p0.Free := hs1.old _ rfl
 have h2 : Sl kSeg w.heap (okL [(0, some w.heap.size, none)]) A2 p0.Late := hs2.old _ rfl
 have x0 : Ext w w := Upd.refl _ w
 unfold room_Find_1.f at H
 refine calls_start Tryz.func56 rfl 9 rfl [.agg #[iv p0.ID, iv p0.Size, .slice A1 p0.Free.length c_1, .slice A2 p0.Late.length c_2], iv p1] rfl ?_
 refine CW.seq (CW.lex [.X, .W] rfl (RW.box (cs := [iv p0.ID, iv p0.Size, .slice A1 p0.Free.length c_1, .slice A2 p0.Late.length c_2]) (.inl rfl) ⟨rfl, rfl, rfl, rfl⟩ rfl rfl rfl ?_))
 intro b1 w1 x1 l1 h3
 have sx1 := x1.size
 have ltb1 := h3.lt
 refine pu 1 rfl (RW.done (NW.next (CW.seq (CW.lex [.W, .L, .W, .W, .W] rfl ?_))))
 refine pu 1 rfl (RW.lb tk [iv p0.ID] h3 0 ?_)
 refine pu 3 rfl (RW.done (NW.next (CW.ret ?_)))
 obtain rfl := Option.some.inj H
 have h4 := x0.tr x1
 exact NW.ret1 rfl (by rfl) ⟨rfl, h4⟩
theorem room_Find.calls (k : Nat) (A1 : Option Addr) (c_1 : Nat) (p0 : List Device) (p1 : Int) (r : Int × Bool) (w : World) (hs1 : Sl kDeviceR w.heap okAll A1 p0) (hl1 : p0.length ≤ c_1) (H : room_Find.f k p0 p1 = some r) :
    Calls Tryz.prog 31 #[.slice A1 p0.length c_1, iv p1] w fun e w' => e = .returned (.tuple #[iv r.1, .bool r.2]) ∧ Ext w w' := by
 have h1 : Sl kDeviceR w.heap (okL [(0, some w.heap.size, none)]) A1 p0 := hs1.old _ rfl
 have x0 : Ext w w := Upd.refl _ w
 unfold room_Find.f at H
 refine calls_start Tryz.func31 rfl 11 rfl [.slice A1 p0.length c_1, iv p1] rfl ?_
 refine CW.seq (CW.lw 2 rfl (pu 2 rfl (RW.done (NW.next ?_))))
 refine CW.seq (CW.lex [.W, .W, .X, .W, .W, .W, .W] rfl (pu 2 rfl ?_))
 have xc1 : Ext w w := Upd.refl _ _
 refine RW.callV (R := fun e w1 => ∃ (it8_0_0 : Int) (bt8_1_0 : Bool), e = .returned (.tuple #[iv it8_0_0, .bool bt8_1_0]) ∧ w.heap.size ≤ w1.heap.size ∧ Ext w w1 ∧ Ext w w1 ∧ room_Find.j0 it8_0_0 bt8_1_0 = some r) (.inl rfl) ent55 ⟨rfl, rfl, rfl, rfl⟩ rfl rfl rfl ?_ ?_
 ·refine calls_start Tryz.func55 rfl 49 rfl [.slice A1 p0.length c_1, iv p1, .func (.func 56) #[] #[]] rfl ?_
  refine CW.seq (CW.lw 2 rfl (pu 2 rfl (RW.done (NW.next ?_))))
  refine CW.seq (CW.lw 3 rfl (pu 3 rfl (RW.done (NW.next ?_))))
  refine CW.seq (CW.lw 3 rfl (pu 3 rfl (RW.done (NW.next ?_))))
  refine CW.seq (CW.block ?_)
  refine CW.loop (fun n1 a w2 => ∃ (it9_1 : Int) (it10_1 : Int), Sat 49 [(0, .slice A1 p0.length c_1), (1, iv p1), (2, .func (.func 56) #[] #[]), (8, iv (p0.length : Int)), (9, iv it9_1), (10, iv it10_1)] a ∧ w.heap.size ≤ w2.heap.size ∧ Ext w w2 ∧ Ext w w2 ∧ room_Find.l0 p0 p1 n1 it9_1 it10_1 = some r) k ?_ ?_
  ·exact fun a ha => ⟨0, (p0.length : Int), ha.sb, by omega, x0, xc1, H⟩
  intro n1 a w2 hI hp
  obtain ⟨it9_1, it10_1, hS, hle, x0_1, x_xc1_1, H⟩ := hI
  cases n1 with
  | zero => cases H
  | succ n1 =>
   rw [room_Find.l0] at H
   refine CW.go hp hS (CW.seq (CW.seq (CW.lw 3 rfl (pu 3 rfl ?_))))
   refine RW.done (NW.next ?_)
   by_cases c1 : it9_1 < it10_1
   ·rw [if_pos c1] at H
    refine CW.cond_t rfl (decide_eq_true c1) (CW.skip (NW.next (CW.block (CW.seq ?_))))
    refine CW.lw 7 rfl (pu 4 rfl (RW.shift (by omega) ⟨rfl, rfl, rfl, rfl⟩ rfl rfl rfl rfl (pu 2 rfl (RW.done ?_))))
    refine NW.next (CW.seq (CW.lex [.W, .W, .W, .W, .L, .W, .M, .W] rfl (pu 3 rfl ?_)))
    obtain ⟨g1, H⟩ := guard_some H
    obtain ⟨ad1, A2, c_2, A3, c_3, e1, a1, l1, h2, l2, h3⟩ := kDeviceR_at (h1.ext x0_1) g1.1 g1.2
    refine RW.ix tk g1 e1 ?_
    refine RW.ld tk [iv ((rd p0 (w64 ((wu64 (w64 (it9_1 + it10_1))).fdiv (2 ^ min (1 : Int).toNat 64)))).ID), iv ((rd p0 (w64 ((wu64 (w64 (it9_1 + it10_1))).fdiv (2 ^ min (1 : Int).toNat 64)))).Size), .slice A2 ((rd p0 (w64 ((wu64 (w64 (it9_1 + it10_1))).fdiv (2 ^ min (1 : Int).toNat 64)))).Free).length c_2, .slice A3 ((rd p0 (w64 ((wu64 (w64 (it9_1 + it10_1))).fdiv (2 ^ min (1 : Int).toNat 64)))).Late).length c_3] a1 ?_
    refine pu 1 rfl ?_
    obtain ⟨y1, h4, H⟩ := bind_some H
    refine RW.callV (cap := []) (.inr rfl) ent56 ⟨rfl, rfl, rfl, rfl⟩ rfl rfl rfl (room_Find_1.calls (rd p0 (w64 ((wu64 (w64 (it9_1 + it10_1))).fdiv (2 ^ min (1 : Int).toNat 64)))) A2 c_2 A3 c_3 p1 _ _ h2.all l1 h3.all l2 h4) ?_
    rintro _ w3 ⟨rfl, x1⟩
    refine ⟨_, rfl, x1, ?_⟩
    have sx1 := x1.size
    refine pu 1 rfl (RW.done (NW.next ?_))
    have j1 := x0_1.tr x1
    have j2 := x_xc1_1.tr x1
    by_cases c2 : y1 < 0
    ·rw [if_pos c2] at H
     refine CW.cond_t rfl (decide_eq_true c2) (CW.lw 3 rfl (pu 3 rfl (RW.done (NW.norm_block ?_))))
     exact NW.J fun a ha => ⟨n1, Nat.lt_succ_self n1, (w64 ((w64 ((wu64 (w64 (it9_1 + it10_1))).fdiv (2 ^ min (1 : Int).toNat 64))) + 1)), it10_1, ha.sb, by omega, j1, j2, H⟩
    rw [if_neg c2] at H
    refine CW.cond_f rfl (decide_eq_false c2) (CW.lw 2 rfl (pu 2 rfl (RW.done (NW.norm_block ?_))))
    exact NW.J fun a ha => ⟨n1, Nat.lt_succ_self n1, it9_1, (w64 ((wu64 (w64 (it9_1 + it10_1))).fdiv (2 ^ min (1 : Int).toNat 64))), ha.sb, by omega, j1, j2, H⟩
   rw [if_neg c1] at H
   refine CW.cond_f rfl (decide_eq_false c1) (CW.exit ?_)
   refine NW.exit_then (NW.exit_then (NW.exit_hit ?_))
   refine NW.next (CW.seq (CW.lex [.W, .W, .W, .W, .W, .W, .W, .W, .W, .L, .W, .M, .W, .W, .W, .W] rfl (pu 5 rfl ?_)))
   by_cases c3 : it9_1 < (p0.length : Int)
   ·rw [if_pos c3] at H
    refine RW.bool 39 (b' := true) (decide_eq_true c3) rfl (pu 3 rfl ?_)
    obtain ⟨g2, H⟩ := guard_some H
    obtain ⟨ad2, A4, c_4, A5, c_5, e2, a2, l3, h9, l4, h10⟩ := kDeviceR_at (h1.ext x0_1) g2.1 g2.2
    refine RW.ix tk g2 e2 ?_
    refine RW.ld tk [iv ((rd p0 it9_1).ID), iv ((rd p0 it9_1).Size), .slice A4 ((rd p0 it9_1).Free).length c_4, .slice A5 ((rd p0 it9_1).Late).length c_5] a2 ?_
    refine pu 1 rfl ?_
    obtain ⟨y2, h11, H⟩ := bind_some H
    refine RW.callV (cap := []) (.inr rfl) ent56 ⟨rfl, rfl, rfl, rfl⟩ rfl rfl rfl (room_Find_1.calls (rd p0 it9_1) A4 c_4 A5 c_5 p1 _ _ h9.all l3 h10.all l4 h11) ?_
    rintro _ w4 ⟨rfl, x2⟩
    refine ⟨_, rfl, x2, ?_⟩
    have sx2 := x2.size
    refine pu 4 rfl (RW.done (NW.next (CW.ret ?_)))
    have h12 := x0_1.tr x2
    have h13 := x_xc1_1.tr x2
    exact NW.ret2 rfl (by rfl) (by rfl) ⟨it9_1, (y2 == 0), rfl, by omega, h12, h13, H⟩
   rw [if_neg c3] at H
   refine RW.bool 39 (b' := false) (decide_eq_false c3) rfl (pu 11 rfl (RW.done (NW.next (CW.ret ?_))))
   exact NW.ret2 rfl (by rfl) (by rfl) ⟨it9_1, false, rfl, by omega, x0_1, x_xc1_1, H⟩
 rintro _ w1 ⟨it8_0_0, bt8_1_0, rfl, hle, x0_0, x_xc1_0, H⟩
 refine ⟨_, rfl, x_xc1_0, ?_⟩
 unfold room_Find.j0 at H
 refine pu 4 rfl (RW.done (NW.next (CW.ret ?_)))
 obtain rfl := Option.some.inj H
 exact NW.ret2 rfl (by rfl) (by rfl) ⟨rfl, x0_0⟩
theorem chain_device.calls (k : Nat) (p0 : Pool) (A1 : Option Addr) (c_1 : Nat) (A2 : Option Addr) (c_2 : Nat) (A3 : Option Addr) (c_3 : Nat) (p1 : Int) (r : Bool) (w : World) (hs1 : Sl kDeviceR w.heap okAll A1 p0.Devices) (hl1 : p0.Devices.length ≤ c_1) (hs2 : Sl kTableR w.heap okAll A2 p0.Tables) (hl2 : p0.Tables.length ≤ c_2) (hs3 : Sl kEntry w.heap okAll A3 p0.Job.Table.List_) (hl3 : p0.Job.Table.List_.length ≤ c_3) (H : chain_device.f k p0 p1 = some r) :
    Calls Tryz.prog 59 #[.agg #[.slice A1 p0.Devices.length c_1, .slice A2 p0.Tables.length c_2, iv p0.Job.Dev, iv p0.Job.At, iv p0.Job.Table.Dev, iv p0.Job.Table.Size, .slice A3 p0.Job.Table.List_.length c_3, iv p0.Next], iv p1] w fun e w' => e = .returned (.bool r) ∧ Ext w w' := by
 have h1 : Sl kDeviceR w.heap (okL [(0, some w.heap.size, none)]) A1 p0.Devices := hs1.old _ rfl
 have h2 : Sl kTableR w.heap (okL [(0, some w.heap.size, none)]) A2 p0.Tables := hs2.old _ rfl
 have h3 : Sl kEntry w.heap (okL [(0, some w.heap.size, none)]) A3 p0.Job.Table.List_ := hs3.old _ rfl
 have x0 : Ext w w := Upd.refl _ w
 unfold chain_device.f at H
 refine calls_start Tryz.func59 rfl 15 rfl [.agg #[.slice A1 p0.Devices.length c_1, .slice A2 p0.Tables.length c_2, iv p0.Job.Dev, iv p0.Job.At, iv p0.Job.Table.Dev, iv p0.Job.Table.Size, .slice A3 p0.Job.Table.List_.length c_3, iv p0.Next], iv p1] rfl ?_
 refine CW.seq (CW.lex [.X, .W] rfl (RW.box (cs := [.slice A1 p0.Devices.length c_1, .slice A2 p0.Tables.length c_2, iv p0.Job.Dev, iv p0.Job.At, iv p0.Job.Table.Dev, iv p0.Job.Table.Size, .slice A3 p0.Job.Table.List_.length c_3, iv p0.Next]) (.inl rfl) ⟨rfl, rfl, rfl, rfl⟩ rfl rfl rfl ?_))
 intro b1 w1 x1 l1 h4
 have sx1 := x1.size
 have ltb1 := h4.lt
 refine pu 1 rfl (RW.done (NW.next (CW.seq (CW.lex [.W, .L, .W, .X, .W, .W, .W, .W, .W] rfl ?_))))
 refine pu 1 rfl (RW.lb tk [.slice A1 p0.Devices.length c_1] h4 0 ?_)
 refine pu 1 rfl ?_
 have h5 := h1.ext x1
 obtain ⟨y1, h6, H⟩ := bind_some H
 refine RW.cl ent31 (room_Find.calls k A1 c_1 p0.Devices p1 _ _ h5.all hl1 h6) ?_
 rintro _ w2 ⟨rfl, x2⟩
 refine ⟨_, rfl, x2, ?_⟩
 have sx2 := x2.size
 refine pu 5 rfl (RW.done (NW.next (CW.seq (CW.lw 2 rfl ?_))))
 refine pu 2 rfl (RW.done (NW.next (CW.ret ?_)))
 obtain rfl := Option.some.inj H
 have h7 := (x0.tr x1).tr x2
 exact NW.ret1 rfl (by rfl) ⟨rfl, h7⟩
theorem table_end.calls (p0 : Entry) (r : Int) (w : World) (H : table_end.f p0 = some r) :
    Calls Tryz.prog 97 #[.agg #[iv p0.From, iv p0.Len, iv p0.Dev, iv p0.To, iv p0.Stale]] w fun e w' => e = .returned (iv r) ∧ Ext w w' := by
 have x0 : Ext w w := Upd.refl _ w
 unfold table_end.f at H
 refine calls_start Tryz.func97 rfl 8 rfl [.agg #[iv p0.From, iv p0.Len, iv p0.Dev, iv p0.To, iv p0.Stale]] rfl ?_
 refine CW.seq (CW.lex [.X, .W] rfl (RW.box (cs := [iv p0.From, iv p0.Len, iv p0.Dev, iv p0.To, iv p0.Stale]) (.inl rfl) ⟨rfl, rfl, rfl, rfl⟩ rfl rfl rfl ?_))
 intro b1 w1 x1 l1 h1
 have sx1 := x1.size
 have ltb1 := h1.lt
 refine pu 1 rfl (RW.done (NW.next (CW.seq (CW.lex [.W, .L, .W, .L, .W, .W] rfl ?_))))
 refine pu 1 rfl (RW.lb tk [iv p0.From] h1 0 ?_)
 refine pu 1 rfl (RW.lb tk [iv p0.Len] h1 1 ?_)
 refine pu 2 rfl (RW.done (NW.next (CW.ret ?_)))
 obtain rfl := Option.some.inj H
 have h2 := x0.tr x1
 exact NW.ret1 rfl (by rfl) ⟨rfl, h2⟩
theorem table_id.calls (p0 : Int) (r : Bool) (w : World) (H : table_id.f p0 = some r) :
    Calls Tryz.prog 142 #[iv p0] w fun e w' => e = .returned (.bool r) ∧ Ext w w' := by
 have x0 : Ext w w := Upd.refl _ w
 unfold table_id.f at H
 refine calls_start Tryz.func142 rfl 9 rfl [iv p0] rfl ?_
 refine CW.seq (CW.lw 1 rfl (pu 1 rfl (RW.done (NW.next ?_))))
 refine CW.seq (CW.lw 7 rfl (pu 3 rfl ?_))
 by_cases c1 : 1 ≤ p0
 ·rw [if_pos c1] at H
  refine RW.bool 5 (b' := true) (decide_eq_true c1) rfl (pu 4 rfl (RW.done (NW.next (CW.ret ?_))))
  obtain rfl := Option.some.inj H
  exact NW.ret1 rfl (by rfl) ⟨rfl, x0⟩
 rw [if_neg c1] at H
 refine RW.bool 5 (b' := false) (decide_eq_false c1) rfl (pu 4 rfl (RW.done (NW.next (CW.ret ?_))))
 obtain rfl := Option.some.inj H
 exact NW.ret1 rfl (by rfl) ⟨rfl, x0⟩
theorem table_entry.calls (p0 : Table) (A1 : Option Addr) (c_1 : Nat) (p1 : Entry) (r : Bool) (w : World) (hs1 : Sl kEntry w.heap okAll A1 p0.List_) (hl1 : p0.List_.length ≤ c_1) (H : table_entry.f p0 p1 = some r) :
    Calls Tryz.prog 143 #[.agg #[iv p0.Dev, iv p0.Size, .slice A1 p0.List_.length c_1], .agg #[iv p1.From, iv p1.Len, iv p1.Dev, iv p1.To, iv p1.Stale]] w fun e w' => e = .returned (.bool r) ∧ Ext w w' := by
 have h1 : Sl kEntry w.heap (okL [(0, some w.heap.size, none)]) A1 p0.List_ := hs1.old _ rfl
 have x0 : Ext w w := Upd.refl _ w
 unfold table_entry.f at H
 refine calls_start Tryz.func143 rfl 72 rfl [.agg #[iv p0.Dev, iv p0.Size, .slice A1 p0.List_.length c_1], .agg #[iv p1.From, iv p1.Len, iv p1.Dev, iv p1.To, iv p1.Stale]] rfl ?_
 refine CW.seq (CW.lex [.X, .X, .W] rfl (RW.box (cs := [iv p0.Dev, iv p0.Size, .slice A1 p0.List_.length c_1]) (.inl rfl) ⟨rfl, rfl, rfl, rfl⟩ rfl rfl rfl ?_))
 intro b1 w1 x1 l1 h2
 have sx1 := x1.size
 have ltb1 := h2.lt
 refine RW.box (cs := [iv p1.From, iv p1.Len, iv p1.Dev, iv p1.To, iv p1.Stale]) (.inl rfl) ⟨rfl, rfl, rfl, rfl⟩ rfl rfl rfl ?_
 intro b2 w2 x2 l2 h3
 have sx2 := x2.size
 have ltb2 := h3.lt
 refine pu 1 rfl (RW.done (NW.next (CW.seq (CW.lex [.W, .L, .W, .W, .W, .L, .W, .L, .W, .W, .W, .W, .L, .W, .W, .W, .W, .L, .W, .L, .W, .L, .W, .W, .W, .W, .W, .L, .X, .W, .W, .W, .L, .W, .L, .W, .W, .W, .W, .L, .W, .W, .W, .W, .L, .W, .W, .W, .W, .L, .W, .L, .W, .W, .W, .W, .W, .L, .W, .W, .W, .W, .L, .W, .L, .W, .W, .W] rfl ?_))))
 refine pu 1 rfl (RW.lb tk [iv p1.From] h3 0 ?_)
 refine pu 2 rfl ?_
 have j1 := (x0.tr x1).tr x2
 by_cases c1 : 0 ≤ p1.From
 ·rw [if_pos c1] at H
  refine RW.bool 8 (b' := true) (decide_eq_true c1) rfl (pu 1 rfl (RW.lb tk [iv p1.From] h3 0 ?_))
  refine pu 1 rfl ?_
  have h4 := h2.ext x2
  refine RW.lb tk [iv p0.Size] h4 1 ?_
  refine pu 3 rfl ?_
  by_cases c2 : p1.From < p0.Size
  ·rw [if_pos c2] at H
   refine RW.bool 15 (b' := true) (decide_eq_true c2) rfl (pu 1 rfl (RW.lb tk [iv p1.Len] h3 1 ?_))
   refine pu 3 rfl ?_
   by_cases c3 : 1 ≤ p1.Len
   ·rw [if_pos c3] at H
    refine RW.bool 20 (b' := true) (decide_eq_true c3) rfl (pu 1 rfl (RW.lb tk [iv p1.Len] h3 1 ?_))
    refine pu 1 rfl (RW.lb tk [iv p0.Size] h4 1 ?_)
    refine pu 1 rfl (RW.lb tk [iv p1.From] h3 0 ?_)
    refine pu 4 rfl ?_
    by_cases c4 : p1.Len ≤ (w64 (p0.Size - p1.From))
    ·rw [if_pos c4] at H
     refine RW.bool 30 (b' := true) (decide_eq_true c4) rfl (pu 1 rfl (RW.lb tk [iv p1.Dev] h3 2 ?_))
     obtain ⟨y1, h5, H⟩ := bind_some H
     refine RW.cl ent142 (table_id.calls p1.Dev _ _ h5) ?_
     rintro _ w3 ⟨rfl, x3⟩
     refine ⟨_, rfl, x3, ?_⟩
     have sx3 := x3.size
     refine pu 2 rfl ?_
     have j2 := j1.tr x3
     by_cases c5 : y1 = true
     ·rw [if_pos c5] at H
      refine RW.bool 35 (b' := true) (c5) rfl (pu 1 rfl ?_)
      have h6 := h3.ext x3
      refine RW.lb tk [iv p1.Dev] h6 2 ?_
      refine pu 1 rfl ?_
      have h7 := h4.ext x3
      refine RW.lb tk [iv p0.Dev] h7 0 ?_
      refine pu 3 rfl ?_
      by_cases c6 : p1.Dev = p0.Dev
      ·rw [if_pos c6] at H
       refine RW.bool 42 (b' := false) (bne_f c6) rfl (pu 30 rfl (RW.done (NW.next (CW.ret ?_))))
       obtain rfl := Option.some.inj H
       exact NW.ret1 rfl (by rfl) ⟨rfl, j2⟩
      rw [if_neg c6] at H
      refine RW.bool 42 (b' := true) (bne_t c6) rfl (pu 1 rfl (RW.lb tk [iv p1.To] h6 3 ?_))
      refine pu 3 rfl ?_
      by_cases c7 : 0 ≤ p1.To
      ·rw [if_pos c7] at H
       refine RW.bool 47 (b' := true) (decide_eq_true c7) rfl (pu 1 rfl (RW.lb tk [iv p1.To] h6 3 ?_))
       refine pu 3 rfl ?_
       by_cases c8 : p1.To < 64
       ·rw [if_pos c8] at H
        refine RW.bool 52 (b' := true) (decide_eq_true c8) rfl (pu 1 rfl (RW.lb tk [iv p1.Len] h6 1 ?_))
        refine pu 1 rfl (RW.lb tk [iv p1.To] h6 3 ?_)
        refine pu 4 rfl ?_
        by_cases c9 : p1.Len ≤ (w64 (64 - p1.To))
        ·rw [if_pos c9] at H
         refine RW.bool 60 (b' := true) (decide_eq_true c9) rfl (pu 1 rfl (RW.ld tk [iv p1.Stale] (h6.at 4) ?_))
         refine pu 3 rfl ?_
         by_cases c10 : 0 ≤ p1.Stale
         ·rw [if_pos c10] at H
          refine RW.bool 65 (b' := true) (decide_eq_true c10) rfl (pu 1 rfl (RW.ld tk [iv p1.Stale] (h6.at 4) ?_))
          refine pu 1 rfl (RW.lb tk [iv p1.Len] h6 1 ?_)
          refine pu 3 rfl (RW.done (NW.next (CW.ret ?_)))
          obtain rfl := Option.some.inj H
          exact NW.ret1 rfl (by rfl) ⟨rfl, j2⟩
         rw [if_neg c10] at H
         refine RW.bool 65 (b' := false) (decide_eq_false c10) rfl (pu 7 rfl (RW.done (NW.next (CW.ret ?_))))
         obtain rfl := Option.some.inj H
         exact NW.ret1 rfl (by rfl) ⟨rfl, j2⟩
        rw [if_neg c9] at H
        refine RW.bool 60 (b' := false) (decide_eq_false c9) rfl (pu 12 rfl (RW.done (NW.next (CW.ret ?_))))
        obtain rfl := Option.some.inj H
        exact NW.ret1 rfl (by rfl) ⟨rfl, j2⟩
       rw [if_neg c8] at H
       refine RW.bool 52 (b' := false) (decide_eq_false c8) rfl (pu 20 rfl (RW.done (NW.next (CW.ret ?_))))
       obtain rfl := Option.some.inj H
       exact NW.ret1 rfl (by rfl) ⟨rfl, j2⟩
      rw [if_neg c7] at H
      refine RW.bool 47 (b' := false) (decide_eq_false c7) rfl (pu 25 rfl (RW.done (NW.next (CW.ret ?_))))
      obtain rfl := Option.some.inj H
      exact NW.ret1 rfl (by rfl) ⟨rfl, j2⟩
     rw [if_neg c5] at H
     refine RW.bool 35 (b' := false) (bool_f c5) rfl (pu 37 rfl (RW.done (NW.next (CW.ret ?_))))
     obtain rfl := Option.some.inj H
     exact NW.ret1 rfl (by rfl) ⟨rfl, j2⟩
    rw [if_neg c4] at H
    refine RW.bool 30 (b' := false) (decide_eq_false c4) rfl (pu 42 rfl (RW.done (NW.next (CW.ret ?_))))
    obtain rfl := Option.some.inj H
    exact NW.ret1 rfl (by rfl) ⟨rfl, j1⟩
   rw [if_neg c3] at H
   refine RW.bool 20 (b' := false) (decide_eq_false c3) rfl (pu 52 rfl (RW.done (NW.next (CW.ret ?_))))
   obtain rfl := Option.some.inj H
   exact NW.ret1 rfl (by rfl) ⟨rfl, j1⟩
  rw [if_neg c2] at H
  refine RW.bool 15 (b' := false) (decide_eq_false c2) rfl (pu 57 rfl (RW.done (NW.next (CW.ret ?_))))
  obtain rfl := Option.some.inj H
  exact NW.ret1 rfl (by rfl) ⟨rfl, j1⟩
 rw [if_neg c1] at H
 refine RW.bool 8 (b' := false) (decide_eq_false c1) rfl (pu 64 rfl (RW.done (NW.next (CW.ret ?_))))
 obtain rfl := Option.some.inj H
 exact NW.ret1 rfl (by rfl) ⟨rfl, j1⟩
theorem table_May.calls (k : Nat) (p0 : Table) (A1 : Option Addr) (c_1 : Nat) (r : Bool) (w : World) (hs1 : Sl kEntry w.heap okAll A1 p0.List_) (hl1 : p0.List_.length ≤ c_1) (H : table_May.f k p0 = some r) :
    Calls Tryz.prog 113 #[.agg #[iv p0.Dev, iv p0.Size, .slice A1 p0.List_.length c_1]] w fun e w' => e = .returned (.bool r) ∧ Ext w w' := by
 have h1 : Sl kEntry w.heap (okL [(0, some w.heap.size, none)]) A1 p0.List_ := hs1.old _ rfl
 have x0 : Ext w w := Upd.refl _ w
 unfold table_May.f at H
 refine calls_start Tryz.func113 rfl 48 rfl [.agg #[iv p0.Dev, iv p0.Size, .slice A1 p0.List_.length c_1]] rfl ?_
 refine CW.seq (CW.lex [.X, .W] rfl (RW.box (cs := [iv p0.Dev, iv p0.Size, .slice A1 p0.List_.length c_1]) (.inl rfl) ⟨rfl, rfl, rfl, rfl⟩ rfl rfl rfl ?_))
 intro b1 w1 x1 l1 h2
 have sx1 := x1.size
 have ltb1 := h2.lt
 refine pu 1 rfl (RW.done (NW.next (CW.seq ?_)))
 refine CW.seqJ (fun a w2 => ∃ (bt18_0 : Bool), Sat 48 [(1, .pointer (some ⟨b1, 0, none⟩)), (18, .bool bt18_0)] a ∧ w1.heap.size ≤ w2.heap.size ∧ Ext w w2 ∧ Box w2.heap b1 26 [iv p0.Dev, iv p0.Size, .slice A1 p0.List_.length c_1] ∧ table_May.j0 p0 k bt18_0 = some r) ?_ ?_
 ·refine CW.lex [.W, .L, .X, .W, .W, .W, .L, .W, .W, .W, .W, .L, .W, .W] rfl (pu 1 rfl (RW.lb tk [iv p0.Dev] h2 0 ?_))
  obtain ⟨y1, h3, H⟩ := bind_some H
  refine RW.cl ent142 (table_id.calls p0.Dev _ _ h3) ?_
  rintro _ w3 ⟨rfl, x2⟩
  refine ⟨_, rfl, x2, ?_⟩
  have sx2 := x2.size
  refine pu 2 rfl ?_
  have j1 := h2.ext x2
  have j2 := (x0.tr x1).tr x2
  by_cases c1 : y1 = true
  ·rw [if_pos c1] at H
   refine RW.bool 9 (b' := false) (not_f (c1)) rfl (pu 1 rfl (RW.lb tk [iv p0.Size] j1 1 ?_))
   refine pu 3 rfl ?_
   by_cases c2 : p0.Size < 1
   ·rw [if_pos c2] at H
    refine RW.bool 14 (b' := true) (decide_eq_true c2) rfl (pu 4 rfl (RW.done ?_))
    exact NW.J fun a ha => ⟨true, ha.sb, by omega, j2, j1, H⟩
   rw [if_neg c2] at H
   refine RW.bool 14 (b' := false) (decide_eq_false c2) rfl (pu 1 rfl (RW.lb tk [iv p0.Size] j1 1 ?_))
   refine pu 2 rfl (RW.done ?_)
   exact NW.J fun a ha => ⟨(decide (64 < p0.Size)), ha.sb, by omega, j2, j1, H⟩
  rw [if_neg c1] at H
  refine RW.bool 9 (b' := true) (not_t (bool_f c1)) rfl (pu 9 rfl (RW.done ?_))
  exact NW.J fun a ha => ⟨true, ha.sb, by omega, j2, j1, H⟩
 intro a w2 hJ hp
 obtain ⟨bt18_0, hS, hle, x0_0, gb1_0, H⟩ := hJ
 unfold table_May.j0 at H
 refine CW.go hp hS ?_
 have xt1 : Ext w2 w2 := Upd.refl _ _
 by_cases c3 : bt18_0 = true
 ·rw [if_pos c3] at H
  refine CW.cond_t rfl (c3) (CW.seq (CW.lw 1 rfl (pu 1 rfl (RW.done ?_))))
  refine NW.next (CW.ret (NW.ret_then ?_))
  obtain rfl := Option.some.inj H
  exact NW.ret1 rfl (by rfl) ⟨rfl, x0_0⟩
 rw [if_neg c3] at H
 refine CW.cond_f rfl (bool_f c3) (CW.skip (NW.next (CW.seq (CW.seq ?_))))
 refine CW.lex [.W, .L, .W, .W] rfl (pu 1 rfl (RW.ld tk [.slice A1 p0.List_.length c_1] (gb1_0.at 2) ?_))
 refine pu 2 rfl (RW.done (NW.next (CW.block ?_)))
 refine CW.loop (fun n1 a w4 => ∃ (it22_1 : Int), Sat 48 [(1, .pointer (some ⟨b1, 0, none⟩)), (20, .slice A1 p0.List_.length c_1), (21, iv (p0.List_.length : Int)), (22, iv it22_1)] a ∧ w2.heap.size ≤ w4.heap.size ∧ Ext w w4 ∧ Ext w2 w4 ∧ table_May.l0 p0 n1 it22_1 = some r) k ?_ ?_
 ·exact fun a ha => ⟨0, ha.sb, by omega, x0_0, xt1, H⟩
 intro n1 a w4 hI hp
 obtain ⟨it22_1, hS, hle, x0_1, x_xt1_1, H⟩ := hI
 cases n1 with
 | zero => cases H
 | succ n1 =>
  rw [table_May.l0] at H
  refine CW.go hp hS (CW.seq (CW.lw 1 rfl (pu 1 rfl (RW.done ?_))))
  refine NW.next (CW.seq ?_)
  by_cases c4 : it22_1 < (p0.List_.length : Int)
  ·rw [if_pos c4] at H
   refine CW.cond_t rfl (decide_eq_true c4) (CW.skip (NW.next (CW.seq (CW.block ?_))))
   refine CW.seq (CW.lex [.W, .W, .L, .X, .W, .M] rfl (pu 1 rfl ?_))
   obtain ⟨g1, H⟩ := guard_some H
   obtain ⟨ad1, e1, a1⟩ := kEntry_at (h1.ext x0_1) g1.1 g1.2
   refine RW.ix tk g1 e1 ?_
   refine RW.ld tk [iv ((rd p0.List_ it22_1).From), iv ((rd p0.List_ it22_1).Len), iv ((rd p0.List_ it22_1).Dev), iv ((rd p0.List_ it22_1).To), iv ((rd p0.List_ it22_1).Stale)] a1 ?_
   refine RW.alloc tk (.inl rfl) ⟨rfl, rfl, rfl, rfl⟩ rfl rfl ?_
   intro b2 w5 x3 l2 h9
   have sx3 := x3.size
   have ltb2 := h9.lt
   refine pu 1 rfl (RW.sb tk h9 [iv ((rd p0.List_ it22_1).From), iv ((rd p0.List_ it22_1).Len), iv ((rd p0.List_ it22_1).Dev), iv ((rd p0.List_ it22_1).To), iv ((rd p0.List_ it22_1).Stale)] ?_)
   intro w6 x4 h10
   have h11 : Box w6.heap b2 66 [iv ((rd p0.List_ it22_1).From), iv ((rd p0.List_ it22_1).Len), iv ((rd p0.List_ it22_1).Dev), iv ((rd p0.List_ it22_1).To), iv ((rd p0.List_ it22_1).Stale)] := h10
   have sx4 := x4.size
   refine RW.done (NW.next ?_)
   refine CW.seqJ (fun a w7 => ∃ (bt46_2 : Bool), Sat 48 [(1, .pointer (some ⟨b1, 0, none⟩)), (20, .slice A1 p0.List_.length c_1), (21, iv (p0.List_.length : Int)), (22, iv it22_1), (46, .bool bt46_2)] a ∧ w6.heap.size ≤ w7.heap.size ∧ Ext w w7 ∧ Ext w2 w7 ∧ table_May.j1 it22_1 (table_May.l0 p0 n1) bt46_2 = some r) ?_ ?_
   ·refine CW.ord [0, 0, 3, 7, 15, 31, 63, 127, 255, 511, 255, 1279, 255, 4351, 15615, 31999, 64767, 131071, 262143, 524287] (ofL [(0, .L), (1, .L), (2, .X), (3, .W), (4, .W), (5, .W), (6, .W), (7, .W), (8, .W), (10, .W), (12, .W), (13, .W), (9, .L), (11, .L), (14, .W), (15, .L), (16, .X), (17, .W), (18, .W), (19, .W)] .nil) mixed (by kernel_rfl) ?_
    intro w8 x5
    have sx5 := x5.size
    have h12 := (((gb1_0.ext x_xt1_1).ext x3).tB x4).ext x5
    refine RW.ld tk [iv p0.Dev, iv p0.Size, .slice A1 p0.List_.length c_1] (h12.at 0) ?_
    have h13 := h11.ext x5
    refine RW.ld tk [iv ((rd p0.List_ it22_1).From), iv ((rd p0.List_ it22_1).Len), iv ((rd p0.List_ it22_1).Dev), iv ((rd p0.List_ it22_1).To), iv ((rd p0.List_ it22_1).Stale)] (h13.at 0) ?_
    have h14 := (((h1.ext x0_1).ext x3).turnB x4 h9 ⟨.inr (by omega), trivial⟩).ext x5
    obtain ⟨y2, h15, H⟩ := bind_some H
    refine RW.cl ent143 (table_entry.calls p0 A1 c_1 (rd p0.List_ it22_1) _ _ h14.all hl1 h15) ?_
    rintro _ w9 ⟨rfl, x6⟩
    refine ⟨_, rfl, x6, ?_⟩
    have sx6 := x6.size
    refine pu 2 rfl ?_
    have j3 := (((x0_1.tr x3).tB x4).tr x5).tr x6
    have j4 := (((x_xt1_1.tr x3).tB x4).tr x5).tr x6
    by_cases c5 : y2 = true
    ·rw [if_pos c5] at H
     refine RW.bool 31 (b' := false) (not_f (c5)) rfl (pu 3 rfl ?_)
     by_cases c6 : 0 < it22_1
     ·rw [if_pos c6] at H
      refine RW.bool 34 (b' := true) (decide_eq_true c6) rfl (pu 4 rfl ?_)
      have h16 := h13.ext x6
      refine RW.lb tk [iv ((rd p0.List_ it22_1).From)] h16 0 ?_
      have h17 := h12.ext x6
      refine RW.ld tk [.slice A1 p0.List_.length c_1] (h17.at 2) ?_
      obtain ⟨g2, H⟩ := guard_some H
      have h18 := h14.ext x6
      obtain ⟨ad2, e2, a2⟩ := kEntry_at h18 g2.1 g2.2
      refine RW.ix tk g2 e2 ?_
      refine RW.ld tk [iv ((rd p0.List_ (w64 (it22_1 - 1))).From), iv ((rd p0.List_ (w64 (it22_1 - 1))).Len), iv ((rd p0.List_ (w64 (it22_1 - 1))).Dev), iv ((rd p0.List_ (w64 (it22_1 - 1))).To), iv ((rd p0.List_ (w64 (it22_1 - 1))).Stale)] a2 ?_
      obtain ⟨y3, h19, H⟩ := bind_some H
      refine RW.cl ent97 (table_end.calls (rd p0.List_ (w64 (it22_1 - 1))) _ _ h19) ?_
      rintro _ w10 ⟨rfl, x7⟩
      refine ⟨_, rfl, x7, ?_⟩
      have sx7 := x7.size
      refine pu 3 rfl (RW.done ?_)
      have h20 := j3.tr x7
      have h21 := j4.tr x7
      exact NW.J fun a ha => ⟨(decide (((rd p0.List_ it22_1).From) < y3)), ha.sb, by omega, h20, h21, H⟩
     rw [if_neg c6] at H
     refine RW.bool 34 (b' := false) (decide_eq_false c6) rfl (pu 12 rfl (RW.done ?_))
     exact NW.J fun a ha => ⟨false, ha.sb, by omega, j3, j4, H⟩
    rw [if_neg c5] at H
    refine RW.bool 31 (b' := true) (not_t (bool_f c5)) rfl (pu 15 rfl (RW.done ?_))
    exact NW.J fun a ha => ⟨true, ha.sb, by omega, j3, j4, H⟩
   intro a w7 hJ hp
   obtain ⟨bt46_2, hS, hle, x0_2, x_xt1_2, H⟩ := hJ
   unfold table_May.j1 at H
   refine CW.go hp hS ?_
   by_cases c7 : bt46_2 = true
   ·rw [if_pos c7] at H
    refine CW.cond_t rfl (c7) (CW.seq (CW.lw 1 rfl (pu 1 rfl (RW.done ?_))))
    refine NW.next (CW.ret ?_)
    refine NW.ret_block (NW.ret_then (NW.ret_then (NW.ret_block (NW.ret_then ?_))))
    obtain rfl := Option.some.inj H
    exact NW.ret1 rfl (by rfl) ⟨rfl, x0_2⟩
   rw [if_neg c7] at H
   refine CW.cond_f rfl (bool_f c7) (CW.skip ?_)
   refine NW.norm_block (NW.next ?_)
   refine CW.lw 2 rfl (pu 2 rfl (RW.done ?_))
   exact NW.J fun a ha => ⟨n1, Nat.lt_succ_self n1, (w64 (it22_1 + 1)), ha.sb, by omega, x0_2, x_xt1_2, H⟩
  rw [if_neg c4] at H
  refine CW.cond_f rfl (decide_eq_false c4) (CW.exit ?_)
  refine NW.exit_then (NW.exit_then (NW.exit_hit ?_))
  refine NW.next (CW.seq (CW.lw 1 rfl (pu 1 rfl (RW.done ?_))))
  refine NW.next (CW.ret ?_)
  obtain rfl := Option.some.inj H
  exact NW.ret1 rfl (by rfl) ⟨rfl, x0_1⟩
theorem chain_ids.calls (k : Nat) (p0 : Pool) (A1 : Option Addr) (c_1 : Nat) (A2 : Option Addr) (c_2 : Nat) (A3 : Option Addr) (c_3 : Nat) (r : Bool) (w : World) (hs1 : Sl kDeviceR w.heap okAll A1 p0.Devices) (hl1 : p0.Devices.length ≤ c_1) (hs2 : Sl kTableR w.heap okAll A2 p0.Tables) (hl2 : p0.Tables.length ≤ c_2) (hs3 : Sl kEntry w.heap okAll A3 p0.Job.Table.List_) (hl3 : p0.Job.Table.List_.length ≤ c_3) (H : chain_ids.f k p0 = some r) :
    Calls Tryz.prog 79 #[.agg #[.slice A1 p0.Devices.length c_1, .slice A2 p0.Tables.length c_2, iv p0.Job.Dev, iv p0.Job.At, iv p0.Job.Table.Dev, iv p0.Job.Table.Size, .slice A3 p0.Job.Table.List_.length c_3, iv p0.Next]] w fun e w' => e = .returned (.bool r) ∧ Ext w w' := by
 have h1 : Sl kDeviceR w.heap (okL [(0, some w.heap.size, none)]) A1 p0.Devices := hs1.old _ rfl
 have h2 : Sl kTableR w.heap (okL [(0, some w.heap.size, none)]) A2 p0.Tables := hs2.old _ rfl
 have h3 : Sl kEntry w.heap (okL [(0, some w.heap.size, none)]) A3 p0.Job.Table.List_ := hs3.old _ rfl
 have x0 : Ext w w := Upd.refl _ w
 unfold chain_ids.f at H
 refine calls_start Tryz.func79 rfl 54 rfl [.agg #[.slice A1 p0.Devices.length c_1, .slice A2 p0.Tables.length c_2, iv p0.Job.Dev, iv p0.Job.At, iv p0.Job.Table.Dev, iv p0.Job.Table.Size, .slice A3 p0.Job.Table.List_.length c_3, iv p0.Next]] rfl ?_
 refine CW.seq (CW.lex [.X, .W] rfl (RW.box (cs := [.slice A1 p0.Devices.length c_1, .slice A2 p0.Tables.length c_2, iv p0.Job.Dev, iv p0.Job.At, iv p0.Job.Table.Dev, iv p0.Job.Table.Size, .slice A3 p0.Job.Table.List_.length c_3, iv p0.Next]) (.inl rfl) ⟨rfl, rfl, rfl, rfl⟩ rfl rfl rfl ?_))
 intro b1 w1 x1 l1 h4
 have sx1 := x1.size
 have ltb1 := h4.lt
 refine pu 1 rfl (RW.done (NW.next (CW.seq (CW.seq ?_))))
 refine CW.lex [.W, .L, .W] rfl (pu 1 rfl (RW.ld tk [iv p0.Next] (h4.at 7) ?_))
 refine pu 1 rfl (RW.done (NW.next ?_))
 have j1 := x0.tr x1
 by_cases c1 : 41 < p0.Next
 ·rw [if_pos c1] at H
  refine CW.cond_t rfl (decide_eq_true c1) (CW.seq (CW.lw 1 rfl (pu 1 rfl (RW.done ?_))))
  refine NW.next (CW.ret (NW.ret_then ?_))
  obtain rfl := Option.some.inj H
  exact NW.ret1 rfl (by rfl) ⟨rfl, j1⟩
 rw [if_neg c1] at H
 refine CW.cond_f rfl (decide_eq_false c1) (CW.skip (NW.next (CW.seq (CW.seq ?_))))
 refine CW.lex [.W, .L, .W, .W] rfl (pu 1 rfl (RW.lb tk [.slice A2 p0.Tables.length c_2] h4 1 ?_))
 refine pu 2 rfl (RW.done (NW.next (CW.block ?_)))
 refine CW.loop (fun n1 a w2 => ∃ (it11_0 : Int), Sat 54 [(1, .pointer (some ⟨b1, 0, none⟩)), (9, .slice A2 p0.Tables.length c_2), (10, iv (p0.Tables.length : Int)), (11, iv it11_0)] a ∧ w1.heap.size ≤ w2.heap.size ∧ Ext w w2 ∧ Box w2.heap b1 30 [.slice A1 p0.Devices.length c_1, .slice A2 p0.Tables.length c_2, iv p0.Job.Dev, iv p0.Job.At, iv p0.Job.Table.Dev, iv p0.Job.Table.Size, .slice A3 p0.Job.Table.List_.length c_3, iv p0.Next] ∧ chain_ids.l0 p0 k n1 it11_0 = some r) k ?_ ?_
 ·exact fun a ha => ⟨0, ha.sb, by omega, j1, h4, H⟩
 intro n1 a w2 hI hp
 obtain ⟨it11_0, hS, hle, x0_0, gb1_0, H⟩ := hI
 cases n1 with
 | zero => cases H
 | succ n1 =>
  rw [chain_ids.l0] at H
  refine CW.go hp hS ?_
  have xt1 : Ext w2 w2 := Upd.refl _ _
  refine CW.seq (CW.lw 1 rfl (pu 1 rfl (RW.done (NW.next ?_))))
  refine CW.seq ?_
  by_cases c2 : it11_0 < (p0.Tables.length : Int)
  ·rw [if_pos c2] at H
   refine CW.cond_t rfl (decide_eq_true c2) (CW.skip (NW.next (CW.seq (CW.block ?_))))
   refine CW.seq (CW.lex [.W, .W, .L, .X, .W, .M] rfl (pu 1 rfl ?_))
   obtain ⟨g1, H⟩ := guard_some H
   obtain ⟨ad1, A4, c_4, e1, a1, l2, h7⟩ := kTableR_at (h2.ext x0_0) g1.1 g1.2
   refine RW.ix tk g1 e1 ?_
   refine RW.ld tk [iv ((rd p0.Tables it11_0).Dev), iv ((rd p0.Tables it11_0).Size), .slice A4 ((rd p0.Tables it11_0).List_).length c_4] a1 ?_
   refine RW.alloc tk (.inl rfl) ⟨rfl, rfl, rfl, rfl⟩ rfl rfl ?_
   intro b2 w3 x2 l3 h8
   have sx2 := x2.size
   have ltb2 := h8.lt
   refine pu 1 rfl (RW.sb tk h8 [iv ((rd p0.Tables it11_0).Dev), iv ((rd p0.Tables it11_0).Size), .slice A4 ((rd p0.Tables it11_0).List_).length c_4] ?_)
   intro w4 x3 h9
   have h10 : Box w4.heap b2 26 [iv ((rd p0.Tables it11_0).Dev), iv ((rd p0.Tables it11_0).Size), .slice A4 ((rd p0.Tables it11_0).List_).length c_4] := h9
   have sx3 := x3.size
   refine RW.done (NW.next ?_)
   refine CW.seqJ (fun a w5 => ∃ (bt47_1 : Bool), Sat 54 [(1, .pointer (some ⟨b1, 0, none⟩)), (9, .slice A2 p0.Tables.length c_2), (10, iv (p0.Tables.length : Int)), (11, iv it11_0), (47, .bool bt47_1)] a ∧ w4.heap.size ≤ w5.heap.size ∧ Ext w w5 ∧ Ext w2 w5 ∧ chain_ids.j0 it11_0 (chain_ids.l0 p0 k n1) bt47_1 = some r) ?_ ?_
   ·refine CW.ord [0, 1, 3, 7, 15, 15, 47, 127, 255, 511, 1023, 2047, 1023, 5119, 16383, 32767, 65535, 131071, 262143, 524287, 1048575, 2097151, 1048575, 5242879, 1048575, 17825791, 63963135, 131071999, 265289727, 536870911, 1073741823, 2147483647] (ofL [(0, .L), (1, .X), (2, .W), (3, .W), (5, .W), (4, .L), (6, .L), (7, .X), (8, .W), (9, .W), (10, .W), (12, .W), (11, .L), (13, .L), (14, .W), (15, .W), (16, .W), (17, .W), (18, .W), (19, .W), (20, .W), (22, .W), (24, .W), (25, .W), (21, .L), (23, .L), (26, .W), (27, .W), (28, .L), (29, .W), (30, .W), (31, .W)] .nil) mixed (by kernel_rfl) ?_
    intro w6 x4
    have sx4 := x4.size
    have h11 := h10.ext x4
    refine RW.ld tk [iv ((rd p0.Tables it11_0).Dev), iv ((rd p0.Tables it11_0).Size), .slice A4 ((rd p0.Tables it11_0).List_).length c_4] (h11.at 0) ?_
    have h12 := ((h7.ext x2).turnB x3 h8 ⟨.inr (by omega), trivial⟩).ext x4
    obtain ⟨y1, h13, H⟩ := bind_some H
    refine RW.cl ent113 (table_May.calls k (rd p0.Tables it11_0) A4 c_4 _ _ h12.all l2 h13) ?_
    rintro _ w7 ⟨rfl, x5⟩
    refine ⟨_, rfl, x5, ?_⟩
    have sx5 := x5.size
    refine pu 2 rfl ?_
    have j2 := (((x0_0.tr x2).tB x3).tr x4).tr x5
    have j3 := (((xt1.tr x2).tB x3).tr x4).tr x5
    by_cases c3 : y1 = true
    ·rw [if_pos c3] at H
     refine RW.bool 19 (b' := false) (not_f (c3)) rfl (pu 1 rfl ?_)
     have h14 := (((gb1_0.ext x2).tB x3).ext x4).ext x5
     refine RW.ld tk [.slice A1 p0.Devices.length c_1, .slice A2 p0.Tables.length c_2, iv p0.Job.Dev, iv p0.Job.At, iv p0.Job.Table.Dev, iv p0.Job.Table.Size, .slice A3 p0.Job.Table.List_.length c_3, iv p0.Next] (h14.at 0) ?_
     have h15 := h11.ext x5
     refine RW.lb tk [iv ((rd p0.Tables it11_0).Dev)] h15 0 ?_
     have h16 := ((((h1.ext x0_0).ext x2).turnB x3 h8 ⟨.inr (by omega), trivial⟩).ext x4).ext x5
     have h17 := ((((h2.ext x0_0).ext x2).turnB x3 h8 ⟨.inr (by omega), trivial⟩).ext x4).ext x5
     have h18 := ((((h3.ext x0_0).ext x2).turnB x3 h8 ⟨.inr (by omega), trivial⟩).ext x4).ext x5
     obtain ⟨y2, h19, H⟩ := bind_some H
     refine RW.cl ent59 (chain_device.calls k p0 A1 c_1 A2 c_2 A3 c_3 ((rd p0.Tables it11_0).Dev) _ _ h16.all hl1 h17.all hl2 h18.all hl3 h19) ?_
     rintro _ w8 ⟨rfl, x6⟩
     refine ⟨_, rfl, x6, ?_⟩
     have sx6 := x6.size
     refine pu 2 rfl ?_
     have j4 := j2.tr x6
     have j5 := j3.tr x6
     by_cases c4 : y2 = true
     ·rw [if_pos c4] at H
      refine RW.bool 25 (b' := true) (c4) rfl (pu 22 rfl (RW.done ?_))
      exact NW.J fun a ha => ⟨true, ha.sb, by omega, j4, j5, H⟩
     rw [if_neg c4] at H
     refine RW.bool 25 (b' := false) (bool_f c4) rfl (pu 2 rfl ?_)
     have h22 := h15.ext x6
     refine RW.lb tk [iv ((rd p0.Tables it11_0).Dev)] h22 0 ?_
     have h23 := h14.ext x6
     refine RW.ld tk [iv p0.Next] (h23.at 7) ?_
     refine pu 3 rfl ?_
     by_cases c5 : p0.Next ≤ ((rd p0.Tables it11_0).Dev)
     ·rw [if_pos c5] at H
      refine RW.bool 32 (b' := true) (decide_eq_true c5) rfl (pu 15 rfl (RW.done ?_))
      exact NW.J fun a ha => ⟨true, ha.sb, by omega, j4, j5, H⟩
     rw [if_neg c5] at H
     refine RW.bool 32 (b' := false) (decide_eq_false c5) rfl (pu 3 rfl ?_)
     by_cases c6 : 0 < it11_0
     ·rw [if_pos c6] at H
      refine RW.bool 35 (b' := true) (decide_eq_true c6) rfl (pu 4 rfl (RW.lb tk [iv ((rd p0.Tables it11_0).Dev)] h22 0 ?_))
      refine RW.lb tk [.slice A2 p0.Tables.length c_2] h23 1 ?_
      obtain ⟨g2, H⟩ := guard_some H
      have h26 := h17.ext x6
      obtain ⟨ad2, A5, c_5, e2, a2, l4, h27⟩ := kTableR_at h26 g2.1 g2.2
      refine RW.ix tk g2 e2 ?_
      refine pu 1 rfl (RW.ld tk [iv ((rd p0.Tables (w64 (it11_0 - 1))).Dev)] ((a2.fld 0).take 1 rfl) ?_)
      refine pu 3 rfl (RW.done ?_)
      exact NW.J fun a ha => ⟨(decide (((rd p0.Tables it11_0).Dev) ≤ ((rd p0.Tables (w64 (it11_0 - 1))).Dev))), ha.sb, by omega, j4, j5, H⟩
     rw [if_neg c6] at H
     refine RW.bool 35 (b' := false) (decide_eq_false c6) rfl (pu 12 rfl (RW.done ?_))
     exact NW.J fun a ha => ⟨false, ha.sb, by omega, j4, j5, H⟩
    rw [if_neg c3] at H
    refine RW.bool 19 (b' := true) (not_t (bool_f c3)) rfl (pu 28 rfl (RW.done ?_))
    exact NW.J fun a ha => ⟨true, ha.sb, by omega, j2, j3, H⟩
   intro a w5 hJ hp
   obtain ⟨bt47_1, hS, hle, x0_1, x_xt1_1, H⟩ := hJ
   unfold chain_ids.j0 at H
   refine CW.go hp hS ?_
   by_cases c7 : bt47_1 = true
   ·rw [if_pos c7] at H
    refine CW.cond_t rfl (c7) (CW.seq (CW.lw 1 rfl (pu 1 rfl (RW.done ?_))))
    refine NW.next (CW.ret ?_)
    refine NW.ret_block (NW.ret_then (NW.ret_then (NW.ret_block (NW.ret_then ?_))))
    obtain rfl := Option.some.inj H
    exact NW.ret1 rfl (by rfl) ⟨rfl, x0_1⟩
   rw [if_neg c7] at H
   refine CW.cond_f rfl (bool_f c7) (CW.skip ?_)
   refine NW.norm_block (NW.next ?_)
   refine CW.lw 2 rfl (pu 2 rfl (RW.done ?_))
   exact NW.J fun a ha => ⟨n1, Nat.lt_succ_self n1, (w64 (it11_0 + 1)), ha.sb, by omega, x0_1, (gb1_0.ext x_xt1_1), H⟩
  rw [if_neg c2] at H
  refine CW.cond_f rfl (decide_eq_false c2) (CW.exit ?_)
  refine NW.exit_then (NW.exit_then (NW.exit_hit ?_))
  refine NW.next (CW.seq (CW.lex [.W, .L, .W, .X, .W, .W] rfl (pu 1 rfl (RW.lb tk [.slice A1 p0.Devices.length c_1] gb1_0 0 ?_))))
  refine pu 1 rfl ?_
  have xc1 : Ext w2 w2 := Upd.refl _ _
  refine RW.callK (.inl rfl) ent82 ⟨rfl, rfl, rfl, rfl⟩ rfl rfl rfl ?_
  refine calls_start Tryz.func82 rfl 9 rfl [.slice A1 p0.Devices.length c_1, .func (.func 114) #[] #[.pointer (some ⟨b1, 0, none⟩)]] rfl ?_
  refine CW.seq (CW.lw 1 rfl (pu 1 rfl (RW.done (NW.next ?_))))
  refine CW.seq (CW.lex [.W, .W, .X, .W, .W] rfl (pu 2 rfl ?_))
  have xc2 : Ext w2 w2 := Upd.refl _ _
  refine RW.callV (R := fun e w9 => ∃ (it7_2 : Int), e = .returned (iv it7_2) ∧ w2.heap.size ≤ w9.heap.size ∧ Ext w w9 ∧ Ext w2 w9 ∧ Ext w2 w9 ∧ chain_ids.j1 it7_2 = some r) (.inl rfl) ent121 ⟨rfl, rfl, rfl, rfl⟩ rfl rfl rfl ?_ ?_
  ·refine calls_start Tryz.func121 rfl 19 rfl [.slice A1 p0.Devices.length c_1, .func (.func 114) #[] #[.pointer (some ⟨b1, 0, none⟩)]] rfl ?_
   refine CW.seq (CW.lw 1 rfl (pu 1 rfl (RW.done (NW.next ?_))))
   refine CW.seq (CW.seq (CW.lw 3 rfl (pu 3 rfl (RW.done ?_))))
   refine NW.next (CW.block ?_)
   refine CW.loop (fun n2 a w10 => ∃ (it8_3 : Int), Sat 19 [(0, .slice A1 p0.Devices.length c_1), (1, .func (.func 114) #[] #[.pointer (some ⟨b1, 0, none⟩)]), (7, iv (p0.Devices.length : Int)), (8, iv it8_3)] a ∧ w2.heap.size ≤ w10.heap.size ∧ Ext w w10 ∧ Ext w2 w10 ∧ Ext w2 w10 ∧ Ext w2 w10 ∧ chain_ids.l1 p0 n2 it8_3 = some r) k ?_ ?_
   ·exact fun a ha => ⟨0, ha.sb, by omega, x0_0, xt1, xc1, xc2, H⟩
   intro n2 a w10 hI hp
   obtain ⟨it8_3, hS, hle, x0_3, x_xt1_3, x_xc1_3, x_xc2_3, H⟩ := hI
   cases n2 with
   | zero => cases H
   | succ n2 =>
    rw [chain_ids.l1] at H
    refine CW.go hp hS (CW.seq (CW.lw 1 rfl (pu 1 rfl (RW.done ?_))))
    refine NW.next (CW.seq ?_)
    by_cases c8 : it8_3 < (p0.Devices.length : Int)
    ·rw [if_pos c8] at H
     refine CW.cond_t rfl (decide_eq_true c8) (CW.skip (NW.next (CW.seq (CW.block ?_))))
     refine CW.seq (CW.lw 2 rfl (pu 2 rfl (RW.done (NW.next ?_))))
     refine CW.seq (CW.lex [.W, .W, .W, .W, .L, .M] rfl (pu 3 rfl ?_))
     obtain ⟨g3, H⟩ := guard_some H
     obtain ⟨ad3, A6, c_6, A7, c_7, e3, a3, l5, h34, l6, h35⟩ := kDeviceR_at (h1.ext x0_3) g3.1 g3.2
     refine RW.ix tk g3 e3 ?_
     refine RW.ld tk [iv ((rd p0.Devices it8_3).ID), iv ((rd p0.Devices it8_3).Size), .slice A6 ((rd p0.Devices it8_3).Free).length c_6, .slice A7 ((rd p0.Devices it8_3).Late).length c_7] a3 ?_
     refine RW.callKM ent114 ⟨rfl, rfl, rfl, rfl⟩ rfl rfl rfl ?_
     refine calls_start Tryz.func114 rfl 9 rfl [.agg #[iv ((rd p0.Devices it8_3).ID), iv ((rd p0.Devices it8_3).Size), .slice A6 ((rd p0.Devices it8_3).Free).length c_6, .slice A7 ((rd p0.Devices it8_3).Late).length c_7], .pointer (some ⟨b1, 0, none⟩)] rfl ?_
     refine CW.seq (CW.lex [.X, .W] rfl (RW.box (cs := [iv ((rd p0.Devices it8_3).ID), iv ((rd p0.Devices it8_3).Size), .slice A6 ((rd p0.Devices it8_3).Free).length c_6, .slice A7 ((rd p0.Devices it8_3).Late).length c_7]) (.inl rfl) ⟨rfl, rfl, rfl, rfl⟩ rfl rfl rfl ?_))
     intro b3 w11 x7 l7 h36
     have sx7 := x7.size
     have ltb3 := h36.lt
     refine pu 1 rfl (RW.done (NW.next (CW.seq (CW.lex [.W, .L, .W, .L, .W, .W] rfl ?_))))
     refine pu 1 rfl (RW.lb tk [iv ((rd p0.Devices it8_3).ID)] h36 0 ?_)
     refine pu 1 rfl ?_
     have h37 := (gb1_0.ext x_xt1_3).ext x7
     refine RW.ld tk [iv p0.Next] (h37.at 7) ?_
     refine pu 2 rfl (RW.done (NW.next (CW.ret ?_)))
     refine NW.ret1 rfl (by rfl) ⟨_, rfl, ?_⟩
     refine RW.done (NW.next ?_)
     have j6 := x0_3.tr x7
     have j7 := x_xc1_3.tr x7
     have j8 := x_xc2_3.tr x7
     by_cases c9 : p0.Next ≤ ((rd p0.Devices it8_3).ID)
     ·rw [if_pos c9] at H
      refine CW.cond_t rfl (decide_eq_true c9) (CW.seq (CW.lw 2 rfl (pu 2 rfl (RW.done ?_))))
      refine NW.next (CW.ret ?_)
      refine NW.ret_block (NW.ret_then (NW.ret_then (NW.ret_block (NW.ret_then ?_))))
      exact NW.ret1 rfl (by rfl) ⟨it8_3, rfl, by omega, j6, j7, j8, H⟩
     rw [if_neg c9] at H
     refine CW.cond_f rfl (decide_eq_false c9) (CW.skip ?_)
     refine NW.norm_block (NW.next ?_)
     refine CW.lw 2 rfl (pu 2 rfl (RW.done ?_))
     have h42 := x_xt1_3.tr x7
     exact NW.J fun a ha => ⟨n2, Nat.lt_succ_self n2, (w64 (it8_3 + 1)), ha.sb, by omega, j6, h42, j7, j8, H⟩
    rw [if_neg c8] at H
    refine CW.cond_f rfl (decide_eq_false c8) (CW.exit ?_)
    refine NW.exit_then (NW.exit_then (NW.exit_hit ?_))
    refine NW.next (CW.seq (CW.lw 1 rfl (pu 1 rfl (RW.done ?_))))
    refine NW.next (CW.ret ?_)
    exact NW.ret1 rfl (by rfl) ⟨(-1), rfl, by omega, x0_3, x_xc1_3, x_xc2_3, H⟩
  rintro _ w9 ⟨it7_2, rfl, hle, x0_2, x_xc1_2, x_xc2_2, H⟩
  refine ⟨_, rfl, x_xc2_2, ?_⟩
  unfold chain_ids.j1 at H
  refine pu 2 rfl (RW.done (NW.next (CW.ret ?_)))
  refine NW.ret1 rfl (by rfl) ⟨_, rfl, x_xc1_2, ?_⟩
  refine pu 2 rfl (RW.done (NW.next (CW.ret ?_)))
  obtain rfl := Option.some.inj H
  exact NW.ret1 rfl (by rfl) ⟨rfl, x0_2⟩
theorem chain_tables.calls (k : Nat) (p0 : Pool) (A1 : Option Addr) (c_1 : Nat) (A2 : Option Addr) (c_2 : Nat) (A3 : Option Addr) (c_3 : Nat) (r : Bool) (w : World) (hs1 : Sl kDeviceR w.heap okAll A1 p0.Devices) (hl1 : p0.Devices.length ≤ c_1) (hs2 : Sl kTableR w.heap okAll A2 p0.Tables) (hl2 : p0.Tables.length ≤ c_2) (hs3 : Sl kEntry w.heap okAll A3 p0.Job.Table.List_) (hl3 : p0.Job.Table.List_.length ≤ c_3) (H : chain_tables.f k p0 = some r) :
    Calls Tryz.prog 80 #[.agg #[.slice A1 p0.Devices.length c_1, .slice A2 p0.Tables.length c_2, iv p0.Job.Dev, iv p0.Job.At, iv p0.Job.Table.Dev, iv p0.Job.Table.Size, .slice A3 p0.Job.Table.List_.length c_3, iv p0.Next]] w fun e w' => e = .returned (.bool r) ∧ Ext w w' := by
 have h1 : Sl kDeviceR w.heap (okL [(0, some w.heap.size, none)]) A1 p0.Devices := hs1.old _ rfl
 have h2 : Sl kTableR w.heap (okL [(0, some w.heap.size, none)]) A2 p0.Tables := hs2.old _ rfl
 have h3 : Sl kEntry w.heap (okL [(0, some w.heap.size, none)]) A3 p0.Job.Table.List_ := hs3.old _ rfl
 have x0 : Ext w w := Upd.refl _ w
 unfold chain_tables.f at H
 refine calls_start Tryz.func80 rfl 42 rfl [.agg #[.slice A1 p0.Devices.length c_1, .slice A2 p0.Tables.length c_2, iv p0.Job.Dev, iv p0.Job.At, iv p0.Job.Table.Dev, iv p0.Job.Table.Size, .slice A3 p0.Job.Table.List_.length c_3, iv p0.Next]] rfl ?_
 refine CW.seq (CW.lex [.X, .W] rfl (RW.box (cs := [.slice A1 p0.Devices.length c_1, .slice A2 p0.Tables.length c_2, iv p0.Job.Dev, iv p0.Job.At, iv p0.Job.Table.Dev, iv p0.Job.Table.Size, .slice A3 p0.Job.Table.List_.length c_3, iv p0.Next]) (.inl rfl) ⟨rfl, rfl, rfl, rfl⟩ rfl rfl rfl ?_))
 intro b1 w1 x1 l1 h4
 have sx1 := x1.size
 have ltb1 := h4.lt
 refine pu 1 rfl (RW.done (NW.next (CW.seq (CW.lex [.X, .X, .M] rfl ?_))))
 refine RW.makeMap Value.bool (.inl rfl) ⟨rfl, rfl, rfl, rfl⟩ rfl ?_
 intro b2 w2 x2 l2 h5
 have sx2 := x2.size
 have ltb2 := h5.lt
 refine RW.alloc tk (.inl rfl) ⟨rfl, rfl, rfl, rfl⟩ rfl rfl ?_
 intro b3 w3 x3 l3 h6
 have sx3 := x3.size
 have ltb3 := h6.lt
 refine RW.sb tk h6 [.map (some b2)] ?_
 intro w4 x4 h7
 have h8 : Box w4.heap b3 155 [.map (some b2)] := h7
 have sx4 := x4.size
 refine RW.done (NW.next (CW.seq (CW.seq (CW.lex [.W, .L, .W, .W] rfl ?_))))
 refine pu 1 rfl ?_
 have h9 := ((h4.ext x2).ext x3).tB x4
 refine RW.lb tk [.slice A2 p0.Tables.length c_2] h9 1 ?_
 refine pu 2 rfl (RW.done (NW.next (CW.block ?_)))
 refine CW.loop (fun n1 a w5 => ∃ (it11_0 : Int) (mb2_0_0 : List (Int × Bool)), Sat 42 [(1, .pointer (some ⟨b1, 0, none⟩)), (3, .pointer (some ⟨b3, 0, none⟩)), (10, iv (p0.Tables.length : Int)), (11, iv it11_0)] a ∧ w4.heap.size ≤ w5.heap.size ∧ Ext w w5 ∧ Box w5.heap b1 30 [.slice A1 p0.Devices.length c_1, .slice A2 p0.Tables.length c_2, iv p0.Job.Dev, iv p0.Job.At, iv p0.Job.Table.Dev, iv p0.Job.Table.Size, .slice A3 p0.Job.Table.List_.length c_3, iv p0.Next] ∧ Box w5.heap b3 155 [.map (some b2)] ∧ MapB w5.heap b2 Value.bool mb2_0_0 ∧ chain_tables.l0 p0 k n1 it11_0 mb2_0_0 = some r) k ?_ ?_
 have h10 := (((x0.tr x1).tr x2).tr x3).tB x4
 have h11 := (h5.ext x3).tB x4
 ·exact fun a ha => ⟨0, ([] : List (Int × Bool)), ha.sb, by omega, h10, h9, h8, h11, H⟩
 intro n1 a w5 hI hp
 obtain ⟨it11_0, mb2_0_0, hS, hle, x0_0, gb1_0, gb3_0, gb2_0, H⟩ := hI
 cases n1 with
 | zero => cases H
 | succ n1 =>
  rw [chain_tables.l0] at H
  refine CW.go hp hS ?_
  have xt1 : Ext w5 w5 := Upd.refl _ _
  refine CW.seq (CW.lw 1 rfl (pu 1 rfl (RW.done (NW.next ?_))))
  refine CW.seq ?_
  by_cases c1 : it11_0 < (p0.Tables.length : Int)
  ·rw [if_pos c1] at H
   refine CW.cond_t rfl (decide_eq_true c1) (CW.skip (NW.next (CW.seq (CW.block ?_))))
   refine CW.seq (CW.lex [.W, .L, .W, .W] rfl (pu 1 rfl (RW.lb tk [.slice A2 p0.Tables.length c_2] gb1_0 1 ?_)))
   refine pu 2 rfl (RW.done (NW.next (CW.block ?_)))
   refine CW.loop (fun n2 a w6 => ∃ (it16_1 : Int) (mb2_0_1 : List (Int × Bool)), Sat 42 [(1, .pointer (some ⟨b1, 0, none⟩)), (3, .pointer (some ⟨b3, 0, none⟩)), (10, iv (p0.Tables.length : Int)), (11, iv it11_0), (14, .slice A2 p0.Tables.length c_2), (15, iv (p0.Tables.length : Int)), (16, iv it16_1)] a ∧ w5.heap.size ≤ w6.heap.size ∧ Ext w w6 ∧ Box w6.heap b1 30 [.slice A1 p0.Devices.length c_1, .slice A2 p0.Tables.length c_2, iv p0.Job.Dev, iv p0.Job.At, iv p0.Job.Table.Dev, iv p0.Job.Table.Size, .slice A3 p0.Job.Table.List_.length c_3, iv p0.Next] ∧ Box w6.heap b3 155 [.map (some b2)] ∧ MapB w6.heap b2 Value.bool mb2_0_1 ∧ chain_tables.l1 p0 k it11_0 (chain_tables.l0 p0 k n1) n2 it16_1 mb2_0_1 = some r) k ?_ ?_
   ·exact fun a ha => ⟨0, mb2_0_0, ha.sb, by omega, x0_0, gb1_0, gb3_0, gb2_0, H⟩
   intro n2 a w6 hI hp
   obtain ⟨it16_1, mb2_0_1, hS, hle, x0_1, gb1_1, gb3_1, gb2_1, H⟩ := hI
   cases n2 with
   | zero => cases H
   | succ n2 =>
    rw [chain_tables.l1] at H
    refine CW.go hp hS ?_
    have xt2 : Ext w6 w6 := Upd.refl _ _
    refine CW.seq (CW.lw 1 rfl (pu 1 rfl (RW.done (NW.next ?_))))
    refine CW.seq ?_
    by_cases c2 : it16_1 < (p0.Tables.length : Int)
    ·rw [if_pos c2] at H
     refine CW.cond_t rfl (decide_eq_true c2) (CW.skip (NW.next ?_))
     refine CW.seqJ (fun a w7 => ∃ (mb2_0_2 : List (Int × Bool)), Sat 42 [(1, .pointer (some ⟨b1, 0, none⟩)), (3, .pointer (some ⟨b3, 0, none⟩)), (10, iv (p0.Tables.length : Int)), (11, iv it11_0), (14, .slice A2 p0.Tables.length c_2), (15, iv (p0.Tables.length : Int)), (16, iv it16_1)] a ∧ w6.heap.size ≤ w7.heap.size ∧ Ext w w7 ∧ Box w7.heap b1 30 [.slice A1 p0.Devices.length c_1, .slice A2 p0.Tables.length c_2, iv p0.Job.Dev, iv p0.Job.At, iv p0.Job.Table.Dev, iv p0.Job.Table.Size, .slice A3 p0.Job.Table.List_.length c_3, iv p0.Next] ∧ Box w7.heap b3 155 [.map (some b2)] ∧ MapB w7.heap b2 Value.bool mb2_0_2 ∧ chain_tables.j0 it16_1 (chain_tables.l1 p0 k it11_0 (chain_tables.l0 p0 k n1) n2) mb2_0_2 = some r) ?_ ?_
     ·refine CW.block (CW.seq (CW.lex [.W, .L, .X, .M] rfl ?_))
      obtain ⟨g1, H⟩ := guard_some H
      obtain ⟨ad1, A4, c_4, e1, a1, l4, h12⟩ := kTableR_at (h2.ext x0_1) g1.1 g1.2
      refine RW.ix tk g1 e1 ?_
      refine RW.ld tk [iv ((rd p0.Tables it16_1).Dev), iv ((rd p0.Tables it16_1).Size), .slice A4 ((rd p0.Tables it16_1).List_).length c_4] a1 ?_
      refine RW.alloc tk (.inl rfl) ⟨rfl, rfl, rfl, rfl⟩ rfl rfl ?_
      intro b4 w8 x5 l5 h13
      have sx5 := x5.size
      have ltb4 := h13.lt
      refine RW.sb tk h13 [iv ((rd p0.Tables it16_1).Dev), iv ((rd p0.Tables it16_1).Size), .slice A4 ((rd p0.Tables it16_1).List_).length c_4] ?_
      intro w9 x6 h14
      have h15 : Box w9.heap b4 26 [iv ((rd p0.Tables it16_1).Dev), iv ((rd p0.Tables it16_1).Size), .slice A4 ((rd p0.Tables it16_1).List_).length c_4] := h14
      have sx6 := x6.size
      refine RW.done (NW.next (CW.seq (CW.lw 2 rfl (pu 2 rfl ?_))))
      refine RW.done (NW.next (CW.ord [0, 0, 2, 0, 0, 16, 56, 120, 248, 504, 248, 2040, 4088, 8184, 16383] (ofL [(1, .W), (4, .W), (0, .L), (2, .L), (3, .L), (5, .L), (6, .L), (7, .W), (8, .W), (10, .W), (9, .L), (11, .X), (12, .W), (13, .W), (14, .M)] .nil) mixed (by kernel_rfl) ?_))
      intro w10 x7
      have sx7 := x7.size
      refine pu 2 rfl ?_
      have h16 := ((gb3_1.ext x5).tB x6).ext x7
      refine RW.ld tk [.map (some b2)] (h16.at 0) ?_
      have h17 := h15.ext x7
      refine RW.lb tk [iv ((rd p0.Tables it16_1).Dev)] h17 0 ?_
      refine RW.ld tk [.map (some b2)] (h16.at 0) ?_
      refine RW.lb tk [iv ((rd p0.Tables it16_1).Dev)] h17 0 ?_
      have h18 := ((gb2_1.ext x5).tB x6).ext x7
      refine RW.lookup1 (z0 := false) tk Tryz.underlying155 Tryz.underlying3 rfl rfl h18 ⟨rfl, rfl, rfl, rfl⟩ rfl rfl rfl (pu 1 rfl ?_)
      have j1 := ((x0_1.tr x5).tB x6).tr x7
      by_cases c3 : ((mget mb2_0_1 ((rd p0.Tables it16_1).Dev)).getD false) = true
      ·rw [if_pos c3] at H
       refine RW.bool 28 (b' := true) (c3) rfl (pu 6 rfl (RW.mapUpdate (v := true) Tryz.underlying155 Tryz.underlying3 h18 ⟨rfl, rfl, rfl⟩ rfl rfl rfl rfl ?_))
       intro w11 x8 h19
       have sx8 := x8.size
       refine RW.done (NW.norm_block ?_)
       have h20 := j1.tB x8
       have h21 := (((gb1_1.ext x5).tB x6).ext x7).tB x8
       have h22 := h16.tB x8
       exact NW.J fun a ha => ⟨(mset mb2_0_1 ((rd p0.Tables it16_1).Dev) true), ha.sb, by omega, h20, h21, h22, h19, H⟩
      rw [if_neg c3] at H
      refine RW.bool 28 (b' := false) (bool_f c3) rfl (pu 2 rfl (RW.ld tk [.slice A4 ((rd p0.Tables it16_1).List_).length c_4] (h17.at 2) ?_))
      have xc1 : Ext w10 w10 := Upd.refl _ _
      refine RW.callK (.inl rfl) ent116 ⟨rfl, rfl, rfl, rfl⟩ rfl rfl rfl ?_
      refine calls_start Tryz.func116 rfl 9 rfl [.slice A4 ((rd p0.Tables it16_1).List_).length c_4, .func (.func 115) #[] #[.pointer (some ⟨b3, 0, none⟩), .pointer (some ⟨b1, 0, none⟩)]] rfl ?_
      refine CW.seq (CW.lw 1 rfl (pu 1 rfl (RW.done (NW.next ?_))))
      refine CW.seq (CW.lex [.W, .W, .X, .W, .W] rfl (pu 2 rfl ?_))
      have xc2 : Ext w10 w10 := Upd.refl _ _
      refine RW.callV (R := fun e w12 => ∃ (it7_3 : Int), e = .returned (iv it7_3) ∧ w10.heap.size ≤ w12.heap.size ∧ Ext w w12 ∧ Ext w6 w12 ∧ Ext w10 w12 ∧ Ext w10 w12 ∧ MapB w12.heap b2 Value.bool mb2_0_1 ∧ chain_tables.j1 p0 it16_1 mb2_0_1 (chain_tables.l1 p0 k it11_0 (chain_tables.l0 p0 k n1) n2) it7_3 = some r) (.inl rfl) ent144 ⟨rfl, rfl, rfl, rfl⟩ rfl rfl rfl ?_ ?_
      ·refine calls_start Tryz.func144 rfl 19 rfl [.slice A4 ((rd p0.Tables it16_1).List_).length c_4, .func (.func 115) #[] #[.pointer (some ⟨b3, 0, none⟩), .pointer (some ⟨b1, 0, none⟩)]] rfl ?_
       refine CW.seq (CW.lw 1 rfl (pu 1 rfl (RW.done (NW.next ?_))))
       refine CW.seq (CW.seq (CW.lw 3 rfl (pu 3 rfl (RW.done ?_))))
       refine NW.next (CW.block ?_)
       refine CW.loop (fun n3 a w13 => ∃ (it8_4 : Int), Sat 19 [(0, .slice A4 ((rd p0.Tables it16_1).List_).length c_4), (1, .func (.func 115) #[] #[.pointer (some ⟨b3, 0, none⟩), .pointer (some ⟨b1, 0, none⟩)]), (7, iv (((rd p0.Tables it16_1).List_).length : Int)), (8, iv it8_4)] a ∧ w10.heap.size ≤ w13.heap.size ∧ Sl kEntry w13.heap (okL [(0, some w.heap.size, none)]) A4 ((rd p0.Tables it16_1).List_) ∧ Ext w w13 ∧ Ext w6 w13 ∧ Ext w10 w13 ∧ Ext w10 w13 ∧ MapB w13.heap b2 Value.bool mb2_0_1 ∧ chain_tables.l2 p0 k it16_1 mb2_0_1 (chain_tables.l1 p0 k it11_0 (chain_tables.l0 p0 k n1) n2) n3 it8_4 = some r) k ?_ ?_
       have h23 := ((h12.ext x5).turnB x6 h13 ⟨.inr (by omega), trivial⟩).ext x7
       have h25 := ((xt2.tr x5).tB x6).tr x7
       ·exact fun a ha => ⟨0, ha.sb, by omega, h23, j1, h25, xc1, xc2, h18, H⟩
       intro n3 a w13 hI hp
       obtain ⟨it8_4, hS, hle, gF4_4, x0_4, x_xt2_4, x_xc1_4, x_xc2_4, gb2_4, H⟩ := hI
       cases n3 with
       | zero => cases H
       | succ n3 =>
        rw [chain_tables.l2] at H
        refine CW.go hp hS ?_
        have xt3 : Ext w13 w13 := Upd.refl _ _
        refine CW.seq (CW.lw 1 rfl (pu 1 rfl (RW.done (NW.next ?_))))
        refine CW.seq ?_
        by_cases c4 : it8_4 < (((rd p0.Tables it16_1).List_).length : Int)
        ·rw [if_pos c4] at H
         refine CW.cond_t rfl (decide_eq_true c4) (CW.skip (NW.next (CW.seq (CW.block ?_))))
         refine CW.seq (CW.lw 2 rfl (pu 2 rfl (RW.done (NW.next ?_))))
         refine CW.seq (CW.lex [.W, .W, .W, .W, .L, .M] rfl (pu 3 rfl ?_))
         obtain ⟨g2, H⟩ := guard_some H
         obtain ⟨ad2, e2, a2⟩ := kEntry_at gF4_4 g2.1 g2.2
         refine RW.ix tk g2 e2 ?_
         refine RW.ld tk [iv ((rd ((rd p0.Tables it16_1).List_) it8_4).From), iv ((rd ((rd p0.Tables it16_1).List_) it8_4).Len), iv ((rd ((rd p0.Tables it16_1).List_) it8_4).Dev), iv ((rd ((rd p0.Tables it16_1).List_) it8_4).To), iv ((rd ((rd p0.Tables it16_1).List_) it8_4).Stale)] a2 ?_
         refine RW.callFM (R := fun e w14 => ∃ (bt16_5 : Bool), e = .returned (.bool bt16_5) ∧ w13.heap.size ≤ w14.heap.size ∧ Ext w w14 ∧ Ext w6 w14 ∧ Ext w10 w14 ∧ Ext w10 w14 ∧ Ext w13 w14 ∧ MapB w14.heap b2 Value.bool mb2_0_1 ∧ chain_tables.j2 p0 it16_1 mb2_0_1 it8_4 (chain_tables.l1 p0 k it11_0 (chain_tables.l0 p0 k n1) n2) (chain_tables.l2 p0 k it16_1 mb2_0_1 (chain_tables.l1 p0 k it11_0 (chain_tables.l0 p0 k n1) n2) n3) bt16_5 = some r) ent115 ⟨rfl, rfl, rfl, rfl⟩ rfl rfl rfl ?_ ?_
         ·refine calls_start Tryz.func115 rfl 17 rfl [.agg #[iv ((rd ((rd p0.Tables it16_1).List_) it8_4).From), iv ((rd ((rd p0.Tables it16_1).List_) it8_4).Len), iv ((rd ((rd p0.Tables it16_1).List_) it8_4).Dev), iv ((rd ((rd p0.Tables it16_1).List_) it8_4).To), iv ((rd ((rd p0.Tables it16_1).List_) it8_4).Stale)], .pointer (some ⟨b3, 0, none⟩), .pointer (some ⟨b1, 0, none⟩)] rfl ?_
          refine CW.seq (CW.lex [.X, .W] rfl (RW.box (cs := [iv ((rd ((rd p0.Tables it16_1).List_) it8_4).From), iv ((rd ((rd p0.Tables it16_1).List_) it8_4).Len), iv ((rd ((rd p0.Tables it16_1).List_) it8_4).Dev), iv ((rd ((rd p0.Tables it16_1).List_) it8_4).To), iv ((rd ((rd p0.Tables it16_1).List_) it8_4).Stale)]) (.inl rfl) ⟨rfl, rfl, rfl, rfl⟩ rfl rfl rfl ?_))
          intro b5 w15 x9 l6 h26
          have sx9 := x9.size
          have ltb5 := h26.lt
          refine pu 1 rfl (RW.done (NW.next (CW.seq (CW.lex [.L, .W, .L, .L, .W, .W, .L, .W, .L, .X, .W, .W, .W] rfl ?_))))
          have h27 := (gb3_1.ext x_xt2_4).ext x9
          refine RW.ld tk [.map (some b2)] (h27.at 0) ?_
          refine pu 1 rfl (RW.lb tk [iv ((rd ((rd p0.Tables it16_1).List_) it8_4).Dev)] h26 2 ?_)
          have h28 := gb2_4.ext x9
          refine RW.lookup1 (z0 := false) tk Tryz.underlying155 Tryz.underlying3 rfl rfl h28 ⟨rfl, rfl, rfl, rfl⟩ rfl rfl rfl (pu 2 rfl ?_)
          have j2 := x0_4.tr x9
          have j3 := x_xt2_4.tr x9
          have j4 := x_xc1_4.tr x9
          have j5 := x_xc2_4.tr x9
          have j6 := xt3.tr x9
          by_cases c5 : ((mget mb2_0_1 ((rd ((rd p0.Tables it16_1).List_) it8_4).Dev)).getD false) = true
          ·rw [if_pos c5] at H
           refine RW.bool 10 (b' := false) (not_f (c5)) rfl (pu 7 rfl (RW.done (NW.next (CW.ret ?_))))
           exact NW.ret1 rfl (by rfl) ⟨false, rfl, by omega, j2, j3, j4, j5, j6, h28, H⟩
          rw [if_neg c5] at H
          refine RW.bool 10 (b' := true) (not_t (bool_f c5)) rfl ?_
          have h34 := (gb1_1.ext x_xt2_4).ext x9
          refine RW.ld tk [.slice A1 p0.Devices.length c_1, .slice A2 p0.Tables.length c_2, iv p0.Job.Dev, iv p0.Job.At, iv p0.Job.Table.Dev, iv p0.Job.Table.Size, .slice A3 p0.Job.Table.List_.length c_3, iv p0.Next] (h34.at 0) ?_
          refine pu 1 rfl (RW.lb tk [iv ((rd ((rd p0.Tables it16_1).List_) it8_4).Dev)] h26 2 ?_)
          have h35 := (h1.ext x0_4).ext x9
          have h36 := (h2.ext x0_4).ext x9
          have h37 := (h3.ext x0_4).ext x9
          obtain ⟨y1, h38, H⟩ := bind_some H
          refine RW.cl ent59 (chain_device.calls k p0 A1 c_1 A2 c_2 A3 c_3 ((rd ((rd p0.Tables it16_1).List_) it8_4).Dev) _ _ h35.all hl1 h36.all hl2 h37.all hl3 h38) ?_
          rintro _ w16 ⟨rfl, x10⟩
          refine ⟨_, rfl, x10, ?_⟩
          have sx10 := x10.size
          refine pu 3 rfl (RW.done (NW.next (CW.ret ?_)))
          have h39 := j2.tr x10
          have h40 := j3.tr x10
          have h41 := j4.tr x10
          have h42 := j5.tr x10
          have h43 := j6.tr x10
          have h44 := h28.ext x10
          exact NW.ret1 rfl (by rfl) ⟨(!y1), rfl, by omega, h39, h40, h41, h42, h43, h44, H⟩
         rintro _ w14 ⟨bt16_5, rfl, hle, x0_5, x_xt2_5, x_xc1_5, x_xc2_5, x_xt3_5, gb2_5, H⟩
         refine ⟨_, rfl, ?_⟩
         unfold chain_tables.j2 at H
         refine RW.done (NW.next ?_)
         by_cases c6 : bt16_5 = true
         ·rw [if_pos c6] at H
          refine CW.cond_t rfl (c6) (CW.seq (CW.lw 2 rfl (pu 2 rfl (RW.done ?_))))
          refine NW.next (CW.ret ?_)
          refine NW.ret_block (NW.ret_then (NW.ret_then (NW.ret_block (NW.ret_then ?_))))
          exact NW.ret1 rfl (by rfl) ⟨it8_4, rfl, by omega, x0_5, x_xt2_5, x_xc1_5, x_xc2_5, gb2_5, H⟩
         rw [if_neg c6] at H
         refine CW.cond_f rfl (bool_f c6) (CW.skip ?_)
         refine NW.norm_block (NW.next ?_)
         refine CW.lw 2 rfl (pu 2 rfl (RW.done ?_))
         exact NW.J fun a ha => ⟨n3, Nat.lt_succ_self n3, (w64 (it8_4 + 1)), ha.sb, by omega, (gF4_4.ext x_xt3_5), x0_5, x_xt2_5, x_xc1_5, x_xc2_5, gb2_5, H⟩
        rw [if_neg c4] at H
        refine CW.cond_f rfl (decide_eq_false c4) (CW.exit ?_)
        refine NW.exit_then (NW.exit_then (NW.exit_hit ?_))
        refine NW.next (CW.seq (CW.lw 1 rfl (pu 1 rfl (RW.done ?_))))
        refine NW.next (CW.ret ?_)
        exact NW.ret1 rfl (by rfl) ⟨(-1), rfl, by omega, x0_4, x_xt2_4, x_xc1_4, x_xc2_4, gb2_4, H⟩
      rintro _ w12 ⟨it7_3, rfl, hle, x0_3, x_xt2_3, x_xc1_3, x_xc2_3, gb2_3, H⟩
      refine ⟨_, rfl, x_xc2_3, ?_⟩
      unfold chain_tables.j1 at H
      refine pu 2 rfl (RW.done (NW.next (CW.ret ?_)))
      refine NW.ret1 rfl (by rfl) ⟨_, rfl, x_xc1_3, ?_⟩
      refine pu 2 rfl (RW.mapUpdate (v := (!(decide (0 ≤ it7_3)))) Tryz.underlying155 Tryz.underlying3 gb2_3 ⟨rfl, rfl, rfl⟩ rfl rfl rfl rfl ?_)
      intro w17 x11 h45
      have sx11 := x11.size
      refine RW.done (NW.norm_block ?_)
      have h46 := x0_3.tB x11
      have h47 := (gb1_1.ext x_xt2_3).tB x11
      have h48 := (gb3_1.ext x_xt2_3).tB x11
      exact NW.J fun a ha => ⟨(mset mb2_0_1 ((rd p0.Tables it16_1).Dev) (!(decide (0 ≤ it7_3)))), ha.sb, by omega, h46, h47, h48, h45, H⟩
     intro a w7 hJ hp
     obtain ⟨mb2_0_2, hS, hle, x0_2, gb1_2, gb3_2, gb2_2, H⟩ := hJ
     unfold chain_tables.j0 at H
     refine CW.go hp hS ?_
     have xt4 : Ext w7 w7 := Upd.refl _ _
     refine CW.lw 2 rfl (pu 2 rfl (RW.done ?_))
     exact NW.J fun a ha => ⟨n2, Nat.lt_succ_self n2, (w64 (it16_1 + 1)), mb2_0_2, ha.sb, by omega, x0_2, gb1_2, gb3_2, gb2_2, H⟩
    rw [if_neg c2] at H
    refine CW.cond_f rfl (decide_eq_false c2) (CW.exit ?_)
    refine NW.exit_then (NW.exit_then (NW.exit_hit ?_))
    refine NW.norm_block (NW.next ?_)
    refine CW.lw 2 rfl (pu 2 rfl (RW.done ?_))
    exact NW.J fun a ha => ⟨n1, Nat.lt_succ_self n1, (w64 (it11_0 + 1)), mb2_0_1, ha.sb, by omega, x0_1, gb1_1, gb3_1, gb2_1, H⟩
  rw [if_neg c1] at H
  refine CW.cond_f rfl (decide_eq_false c1) (CW.exit ?_)
  refine NW.exit_then (NW.exit_then (NW.exit_hit ?_))
  refine NW.next (CW.seq (CW.lex [.W, .L, .W, .X, .W, .W] rfl (pu 1 rfl (RW.lb tk [.slice A2 p0.Tables.length c_2] gb1_0 1 ?_))))
  refine pu 1 rfl ?_
  have xc3 : Ext w5 w5 := Upd.refl _ _
  refine RW.callK (.inl rfl) ent117 ⟨rfl, rfl, rfl, rfl⟩ rfl rfl rfl ?_
  refine calls_start Tryz.func117 rfl 9 rfl [.slice A2 p0.Tables.length c_2, .func (.func 118) #[] #[.pointer (some ⟨b3, 0, none⟩)]] rfl ?_
  refine CW.seq (CW.lw 1 rfl (pu 1 rfl (RW.done (NW.next ?_))))
  refine CW.seq (CW.lex [.W, .W, .X, .W, .W] rfl (pu 2 rfl ?_))
  have xc4 : Ext w5 w5 := Upd.refl _ _
  refine RW.callV (R := fun e w18 => ∃ (it7_6 : Int), e = .returned (iv it7_6) ∧ w5.heap.size ≤ w18.heap.size ∧ Ext w w18 ∧ Ext w5 w18 ∧ Ext w5 w18 ∧ chain_tables.j3 it7_6 = some r) (.inl rfl) ent145 ⟨rfl, rfl, rfl, rfl⟩ rfl rfl rfl ?_ ?_
  ·refine calls_start Tryz.func145 rfl 19 rfl [.slice A2 p0.Tables.length c_2, .func (.func 118) #[] #[.pointer (some ⟨b3, 0, none⟩)]] rfl ?_
   refine CW.seq (CW.lw 1 rfl (pu 1 rfl (RW.done (NW.next ?_))))
   refine CW.seq (CW.seq (CW.lw 3 rfl (pu 3 rfl (RW.done ?_))))
   refine NW.next (CW.block ?_)
   refine CW.loop (fun n4 a w19 => ∃ (it8_7 : Int), Sat 19 [(0, .slice A2 p0.Tables.length c_2), (1, .func (.func 118) #[] #[.pointer (some ⟨b3, 0, none⟩)]), (7, iv (p0.Tables.length : Int)), (8, iv it8_7)] a ∧ w5.heap.size ≤ w19.heap.size ∧ Ext w w19 ∧ Ext w5 w19 ∧ Ext w5 w19 ∧ Ext w5 w19 ∧ MapB w19.heap b2 Value.bool mb2_0_0 ∧ chain_tables.l3 p0 mb2_0_0 n4 it8_7 = some r) k ?_ ?_
   ·exact fun a ha => ⟨0, ha.sb, by omega, x0_0, xt1, xc3, xc4, gb2_0, H⟩
   intro n4 a w19 hI hp
   obtain ⟨it8_7, hS, hle, x0_7, x_xt1_7, x_xc3_7, x_xc4_7, gb2_7, H⟩ := hI
   cases n4 with
   | zero => cases H
   | succ n4 =>
    rw [chain_tables.l3] at H
    refine CW.go hp hS (CW.seq (CW.lw 1 rfl (pu 1 rfl (RW.done ?_))))
    refine NW.next (CW.seq ?_)
    by_cases c7 : it8_7 < (p0.Tables.length : Int)
    ·rw [if_pos c7] at H
     refine CW.cond_t rfl (decide_eq_true c7) (CW.skip (NW.next (CW.seq (CW.block ?_))))
     refine CW.seq (CW.lw 2 rfl (pu 2 rfl (RW.done (NW.next ?_))))
     refine CW.seq (CW.lex [.W, .W, .W, .W, .L, .M] rfl (pu 3 rfl ?_))
     obtain ⟨g3, H⟩ := guard_some H
     obtain ⟨ad3, A5, c_5, e3, a3, l7, h49⟩ := kTableR_at (h2.ext x0_7) g3.1 g3.2
     refine RW.ix tk g3 e3 ?_
     refine RW.ld tk [iv ((rd p0.Tables it8_7).Dev), iv ((rd p0.Tables it8_7).Size), .slice A5 ((rd p0.Tables it8_7).List_).length c_5] a3 ?_
     refine RW.callKM ent118 ⟨rfl, rfl, rfl, rfl⟩ rfl rfl rfl ?_
     refine calls_start Tryz.func118 rfl 9 rfl [.agg #[iv ((rd p0.Tables it8_7).Dev), iv ((rd p0.Tables it8_7).Size), .slice A5 ((rd p0.Tables it8_7).List_).length c_5], .pointer (some ⟨b3, 0, none⟩)] rfl ?_
     refine CW.seq (CW.lex [.X, .W] rfl (RW.box (cs := [iv ((rd p0.Tables it8_7).Dev), iv ((rd p0.Tables it8_7).Size), .slice A5 ((rd p0.Tables it8_7).List_).length c_5]) (.inl rfl) ⟨rfl, rfl, rfl, rfl⟩ rfl rfl rfl ?_))
     intro b6 w20 x12 l8 h50
     have sx12 := x12.size
     have ltb6 := h50.lt
     refine pu 1 rfl (RW.done (NW.next (CW.seq (CW.lex [.L, .W, .L, .L, .W, .W] rfl ?_))))
     have h51 := (gb3_0.ext x_xt1_7).ext x12
     refine RW.ld tk [.map (some b2)] (h51.at 0) ?_
     refine pu 1 rfl (RW.lb tk [iv ((rd p0.Tables it8_7).Dev)] h50 0 ?_)
     have h52 := gb2_7.ext x12
     refine RW.lookup1 (z0 := false) tk Tryz.underlying155 Tryz.underlying3 rfl rfl h52 ⟨rfl, rfl, rfl, rfl⟩ rfl rfl rfl (pu 2 rfl (RW.done (NW.next (CW.ret ?_))))
     refine NW.ret1 rfl (by rfl) ⟨_, rfl, ?_⟩
     refine RW.done (NW.next ?_)
     have j7 := x0_7.tr x12
     have j8 := x_xc3_7.tr x12
     have j9 := x_xc4_7.tr x12
     by_cases c8 : ((mget mb2_0_0 ((rd p0.Tables it8_7).Dev)).getD false) = true
     ·rw [if_pos c8] at H
      refine CW.cond_f rfl (not_f (c8)) (CW.skip ?_)
      refine NW.norm_block (NW.next ?_)
      refine CW.lw 2 rfl (pu 2 rfl (RW.done ?_))
      have h54 := x_xt1_7.tr x12
      exact NW.J fun a ha => ⟨n4, Nat.lt_succ_self n4, (w64 (it8_7 + 1)), ha.sb, by omega, j7, h54, j8, j9, h52, H⟩
     rw [if_neg c8] at H
     refine CW.cond_t rfl (not_t (bool_f c8)) (CW.seq (CW.lw 2 rfl (pu 2 rfl (RW.done ?_))))
     refine NW.next (CW.ret ?_)
     refine NW.ret_block (NW.ret_then (NW.ret_then (NW.ret_block (NW.ret_then ?_))))
     exact NW.ret1 rfl (by rfl) ⟨it8_7, rfl, by omega, j7, j8, j9, H⟩
    rw [if_neg c7] at H
    refine CW.cond_f rfl (decide_eq_false c7) (CW.exit ?_)
    refine NW.exit_then (NW.exit_then (NW.exit_hit ?_))
    refine NW.next (CW.seq (CW.lw 1 rfl (pu 1 rfl (RW.done ?_))))
    refine NW.next (CW.ret ?_)
    exact NW.ret1 rfl (by rfl) ⟨(-1), rfl, by omega, x0_7, x_xc3_7, x_xc4_7, H⟩
  rintro _ w18 ⟨it7_6, rfl, hle, x0_6, x_xc3_6, x_xc4_6, H⟩
  refine ⟨_, rfl, x_xc4_6, ?_⟩
  unfold chain_tables.j3 at H
  refine pu 2 rfl (RW.done (NW.next (CW.ret ?_)))
  refine NW.ret1 rfl (by rfl) ⟨_, rfl, x_xc3_6, ?_⟩
  refine pu 2 rfl (RW.done (NW.next (CW.ret ?_)))
  obtain rfl := Option.some.inj H
  exact NW.ret1 rfl (by rfl) ⟨rfl, x0_6⟩
theorem chain_none.calls (p0 : Job) (A1 : Option Addr) (c_1 : Nat) (r : Bool) (w : World) (hs1 : Sl kEntry w.heap okAll A1 p0.Table.List_) (hl1 : p0.Table.List_.length ≤ c_1) (H : chain_none.f p0 = some r) :
    Calls Tryz.prog 119 #[.agg #[iv p0.Dev, iv p0.At, iv p0.Table.Dev, iv p0.Table.Size, .slice A1 p0.Table.List_.length c_1]] w fun e w' => e = .returned (.bool r) ∧ Ext w w' := by
 have h1 : Sl kEntry w.heap (okL [(0, some w.heap.size, none)]) A1 p0.Table.List_ := hs1.old _ rfl
 have x0 : Ext w w := Upd.refl _ w
 unfold chain_none.f at H
 refine calls_start Tryz.func119 rfl 30 rfl [.agg #[iv p0.Dev, iv p0.At, iv p0.Table.Dev, iv p0.Table.Size, .slice A1 p0.Table.List_.length c_1]] rfl ?_
 refine CW.seq (CW.lex [.X, .W] rfl (RW.box (cs := [iv p0.Dev, iv p0.At, iv p0.Table.Dev, iv p0.Table.Size, .slice A1 p0.Table.List_.length c_1]) (.inl rfl) ⟨rfl, rfl, rfl, rfl⟩ rfl rfl rfl ?_))
 intro b1 w1 x1 l1 h2
 have sx1 := x1.size
 have ltb1 := h2.lt
 refine pu 1 rfl (RW.done (NW.next (CW.seq (CW.lex [.W, .L, .W, .W, .W, .L, .W, .W, .W, .W, .W, .L, .W, .W, .W, .W, .W, .L, .W, .W, .W, .W, .W, .L, .W, .W, .W, .W] rfl ?_))))
 refine pu 1 rfl (RW.lb tk [iv p0.Dev] h2 0 ?_)
 refine pu 2 rfl ?_
 have j1 := x0.tr x1
 by_cases c1 : p0.Dev = 0
 ·rw [if_pos c1] at H
  refine RW.bool 6 (b' := true) (beq_t c1) rfl (pu 1 rfl (RW.lb tk [iv p0.At] h2 1 ?_))
  refine pu 3 rfl ?_
  by_cases c2 : p0.At = 0
  ·rw [if_pos c2] at H
   refine RW.bool 11 (b' := true) (beq_t c2) rfl (pu 2 rfl (RW.lb tk [iv p0.Table.Dev] h2 2 ?_))
   refine pu 3 rfl ?_
   by_cases c3 : p0.Table.Dev = 0
   ·rw [if_pos c3] at H
    refine RW.bool 17 (b' := true) (beq_t c3) rfl (pu 2 rfl (RW.lb tk [iv p0.Table.Size] h2 3 ?_))
    refine pu 3 rfl ?_
    by_cases c4 : p0.Table.Size = 0
    ·rw [if_pos c4] at H
     refine RW.bool 23 (b' := true) (beq_t c4) rfl (pu 2 rfl (RW.ld tk [.slice A1 p0.Table.List_.length c_1] (h2.at 4) ?_))
     refine pu 4 rfl (RW.done (NW.next (CW.ret ?_)))
     obtain rfl := Option.some.inj H
     exact NW.ret1 rfl (by rfl) ⟨rfl, j1⟩
    rw [if_neg c4] at H
    refine RW.bool 23 (b' := false) (beq_f c4) rfl (pu 7 rfl (RW.done (NW.next (CW.ret ?_))))
    obtain rfl := Option.some.inj H
    exact NW.ret1 rfl (by rfl) ⟨rfl, j1⟩
   rw [if_neg c3] at H
   refine RW.bool 17 (b' := false) (beq_f c3) rfl (pu 13 rfl (RW.done (NW.next (CW.ret ?_))))
   obtain rfl := Option.some.inj H
   exact NW.ret1 rfl (by rfl) ⟨rfl, j1⟩
  rw [if_neg c2] at H
  refine RW.bool 11 (b' := false) (beq_f c2) rfl (pu 19 rfl (RW.done (NW.next (CW.ret ?_))))
  obtain rfl := Option.some.inj H
  exact NW.ret1 rfl (by rfl) ⟨rfl, j1⟩
 rw [if_neg c1] at H
 refine RW.bool 6 (b' := false) (beq_f c1) rfl (pu 24 rfl (RW.done (NW.next (CW.ret ?_))))
 obtain rfl := Option.some.inj H
 exact NW.ret1 rfl (by rfl) ⟨rfl, j1⟩
theorem chain_job.calls (k : Nat) (p0 : Pool) (A1 : Option Addr) (c_1 : Nat) (A2 : Option Addr) (c_2 : Nat) (A3 : Option Addr) (c_3 : Nat) (r : Bool) (w : World) (hs1 : Sl kDeviceR w.heap okAll A1 p0.Devices) (hl1 : p0.Devices.length ≤ c_1) (hs2 : Sl kTableR w.heap okAll A2 p0.Tables) (hl2 : p0.Tables.length ≤ c_2) (hs3 : Sl kEntry w.heap okAll A3 p0.Job.Table.List_) (hl3 : p0.Job.Table.List_.length ≤ c_3) (H : chain_job.f k p0 = some r) :
    Calls Tryz.prog 81 #[.agg #[.slice A1 p0.Devices.length c_1, .slice A2 p0.Tables.length c_2, iv p0.Job.Dev, iv p0.Job.At, iv p0.Job.Table.Dev, iv p0.Job.Table.Size, .slice A3 p0.Job.Table.List_.length c_3, iv p0.Next]] w fun e w' => e = .returned (.bool r) ∧ Ext w w' := by
 have h1 : Sl kDeviceR w.heap (okL [(0, some w.heap.size, none)]) A1 p0.Devices := hs1.old _ rfl
 have h2 : Sl kTableR w.heap (okL [(0, some w.heap.size, none)]) A2 p0.Tables := hs2.old _ rfl
 have h3 : Sl kEntry w.heap (okL [(0, some w.heap.size, none)]) A3 p0.Job.Table.List_ := hs3.old _ rfl
 have x0 : Ext w w := Upd.refl _ w
 unfold chain_job.f at H
 refine calls_start Tryz.func81 rfl 68 rfl [.agg #[.slice A1 p0.Devices.length c_1, .slice A2 p0.Tables.length c_2, iv p0.Job.Dev, iv p0.Job.At, iv p0.Job.Table.Dev, iv p0.Job.Table.Size, .slice A3 p0.Job.Table.List_.length c_3, iv p0.Next]] rfl ?_
 refine CW.seq (CW.lex [.X, .W] rfl (RW.box (cs := [.slice A1 p0.Devices.length c_1, .slice A2 p0.Tables.length c_2, iv p0.Job.Dev, iv p0.Job.At, iv p0.Job.Table.Dev, iv p0.Job.Table.Size, .slice A3 p0.Job.Table.List_.length c_3, iv p0.Next]) (.inl rfl) ⟨rfl, rfl, rfl, rfl⟩ rfl rfl rfl ?_))
 intro b1 w1 x1 l1 h4
 have sx1 := x1.size
 have ltb1 := h4.lt
 refine pu 1 rfl (RW.done (NW.next (CW.seq (CW.lex [.W, .L, .X, .M] rfl ?_))))
 refine pu 1 rfl (RW.lb tk [iv p0.Job.Dev, iv p0.Job.At, iv p0.Job.Table.Dev, iv p0.Job.Table.Size, .slice A3 p0.Job.Table.List_.length c_3] h4 2 ?_)
 refine RW.alloc tk (.inl rfl) ⟨rfl, rfl, rfl, rfl⟩ rfl rfl ?_
 intro b2 w2 x2 l2 h5
 have sx2 := x2.size
 have ltb2 := h5.lt
 refine RW.sb tk h5 [iv p0.Job.Dev, iv p0.Job.At, iv p0.Job.Table.Dev, iv p0.Job.Table.Size, .slice A3 p0.Job.Table.List_.length c_3] ?_
 intro w3 x3 h6
 have h7 : Box w3.heap b2 28 [iv p0.Job.Dev, iv p0.Job.At, iv p0.Job.Table.Dev, iv p0.Job.Table.Size, .slice A3 p0.Job.Table.List_.length c_3] := h6
 have sx3 := x3.size
 refine RW.done (NW.next (CW.seq (CW.seq (CW.lex [.L, .X] rfl ?_))))
 refine RW.ld tk [iv p0.Job.Dev, iv p0.Job.At, iv p0.Job.Table.Dev, iv p0.Job.Table.Size, .slice A3 p0.Job.Table.List_.length c_3] (h7.at 0) ?_
 have h8 := ((h3.ext x1).ext x2).turnB x3 h5 ⟨.inr (by omega), trivial⟩
 obtain ⟨y1, h9, H⟩ := bind_some H
 refine RW.cl ent119 (chain_none.calls p0.Job A3 c_3 _ _ h8.all hl3 h9) ?_
 rintro _ w4 ⟨rfl, x4⟩
 refine ⟨_, rfl, x4, ?_⟩
 have sx4 := x4.size
 refine RW.done (NW.next ?_)
 have j1 := (((x0.tr x1).tr x2).tB x3).tr x4
 by_cases c1 : y1 = true
 ·rw [if_pos c1] at H
  refine CW.cond_t rfl (c1) (CW.seq (CW.lw 1 rfl (pu 1 rfl (RW.done ?_))))
  refine NW.next (CW.ret (NW.ret_then ?_))
  obtain rfl := Option.some.inj H
  exact NW.ret1 rfl (by rfl) ⟨rfl, j1⟩
 rw [if_neg c1] at H
 refine CW.cond_f rfl (bool_f c1) (CW.skip (NW.next (CW.seq (CW.lex [.W, .L, .W, .L, .X, .W, .W, .W, .W, .W] rfl ?_))))
 refine pu 1 rfl ?_
 have h11 := ((h4.ext x2).tB x3).ext x4
 refine RW.lb tk [.slice A1 p0.Devices.length c_1] h11 0 ?_
 refine pu 1 rfl ?_
 have h12 := h7.ext x4
 refine RW.lb tk [iv p0.Job.Dev] h12 0 ?_
 have h13 := (((h1.ext x1).ext x2).turnB x3 h5 ⟨.inr (by omega), trivial⟩).ext x4
 obtain ⟨y2, h14, H⟩ := bind_some H
 refine RW.cl ent31 (room_Find.calls k A1 c_1 p0.Devices p0.Job.Dev _ _ h13.all hl1 h14) ?_
 rintro _ w5 ⟨rfl, x5⟩
 refine ⟨_, rfl, x5, ?_⟩
 have sx5 := x5.size
 refine pu 5 rfl (RW.done (NW.next (CW.seq ?_)))
 refine CW.seqJ (fun a w6 => ∃ (bt61_0 : Bool), Sat 68 [(1, .pointer (some ⟨b1, 0, none⟩)), (3, .pointer (some ⟨b2, 0, none⟩)), (61, .bool bt61_0)] a ∧ w5.heap.size ≤ w6.heap.size ∧ Ext w w6 ∧ Box w6.heap b1 30 [.slice A1 p0.Devices.length c_1, .slice A2 p0.Tables.length c_2, iv p0.Job.Dev, iv p0.Job.At, iv p0.Job.Table.Dev, iv p0.Job.Table.Size, .slice A3 p0.Job.Table.List_.length c_3, iv p0.Next] ∧ Box w6.heap b2 28 [iv p0.Job.Dev, iv p0.Job.At, iv p0.Job.Table.Dev, iv p0.Job.Table.Size, .slice A3 p0.Job.Table.List_.length c_3] ∧ chain_job.j0 p0 k bt61_0 = some r) ?_ ?_
 ·refine CW.ord [0, 1, 3, 7, 15, 31, 63, 127, 255, 511, 255, 1279, 255, 7423, 15615, 31999, 65535, 131071, 262143, 524287, 1048575, 2097151, 524287, 4718591, 16777215, 33554431, 67108863, 134217727, 268435455, 536870911, 134217727, 1207959551, 134217727, 7650410495, 16240345087, 33420214271, 68719476735, 137438953471, 274877906943, 549755813887, 1099511627775, 2199023255551, 4398046511103, 8796093022207] (ofL [(0, .W), (1, .W), (2, .W), (3, .W), (4, .L), (5, .W), (6, .W), (7, .W), (8, .W), (10, .W), (12, .W), (9, .L), (11, .L), (13, .W), (14, .W), (15, .L), (16, .W), (17, .W), (18, .W), (19, .W), (20, .W), (22, .W), (21, .L), (23, .L), (24, .W), (25, .W), (26, .W), (27, .W), (28, .W), (30, .W), (32, .W), (29, .L), (31, .L), (33, .W), (34, .W), (35, .L), (36, .W), (37, .W), (38, .W), (39, .W), (40, .L), (41, .X), (42, .W), (43, .W)] .nil) mixed (by kernel_rfl) ?_
  intro w7 x6
  have sx6 := x6.size
  refine pu 3 rfl ?_
  have j2 := (h12.ext x5).ext x6
  have j3 := (j1.tr x5).tr x6
  have j4 := (h11.ext x5).ext x6
  by_cases c2 : y2.2 = true
  ·rw [if_pos c2] at H
   refine RW.bool 20 (b' := false) (not_f (c2)) rfl (pu 1 rfl (RW.lb tk [iv p0.Job.At] j2 1 ?_))
   refine pu 3 rfl ?_
   by_cases c3 : p0.Job.At < 0
   ·rw [if_pos c3] at H
    refine RW.bool 25 (b' := true) (decide_eq_true c3) rfl (pu 36 rfl (RW.done ?_))
    exact NW.J fun a ha => ⟨true, ha.sb, by omega, j3, j4, j2, H⟩
   rw [if_neg c3] at H
   refine RW.bool 25 (b' := false) (decide_eq_false c3) rfl (pu 3 rfl (RW.lb tk [iv p0.Job.At] j2 1 ?_))
   refine RW.lb tk [.slice A1 p0.Devices.length c_1] j4 0 ?_
   obtain ⟨g1, H⟩ := guard_some H
   have h19 := (h13.ext x5).ext x6
   obtain ⟨ad1, A4, c_4, A5, c_5, e1, a1, l3, h20, l4, h21⟩ := kDeviceR_at h19 g1.1 g1.2
   refine RW.ix tk g1 e1 ?_
   refine pu 1 rfl (RW.ld tk [iv ((rd p0.Devices y2.1).Size)] ((a1.fld 1).take 1 rfl) ?_)
   refine pu 3 rfl ?_
   by_cases c4 : ((rd p0.Devices y2.1).Size) ≤ p0.Job.At
   ·rw [if_pos c4] at H
    refine RW.bool 36 (b' := true) (decide_eq_true c4) rfl (pu 25 rfl (RW.done ?_))
    exact NW.J fun a ha => ⟨true, ha.sb, by omega, j3, j4, j2, H⟩
   rw [if_neg c4] at H
   refine RW.bool 36 (b' := false) (decide_eq_false c4) rfl (pu 3 rfl (RW.lb tk [iv p0.Job.Table.Dev] j2 2 ?_))
   refine RW.lb tk [iv p0.Job.Dev] j2 0 ?_
   refine pu 3 rfl ?_
   by_cases c5 : p0.Job.Table.Dev = p0.Job.Dev
   ·rw [if_pos c5] at H
    refine RW.bool 44 (b' := false) (bne_f c5) rfl (pu 4 rfl (RW.lb tk [iv p0.Job.Table.Size] j2 3 ?_))
    refine RW.lb tk [.slice A1 p0.Devices.length c_1] j4 0 ?_
    obtain ⟨g2, H⟩ := guard_some H
    obtain ⟨ad2, A6, c_6, A7, c_7, e2, a2, l5, h23, l6, h24⟩ := kDeviceR_at h19 g2.1 g2.2
    refine RW.ix tk g2 e2 ?_
    refine pu 1 rfl (RW.ld tk [iv ((rd p0.Devices y2.1).Size)] ((a2.fld 1).take 1 rfl) ?_)
    refine pu 3 rfl ?_
    by_cases c6 : p0.Job.Table.Size = (rd p0.Devices y2.1).Size
    ·rw [if_pos c6] at H
     refine RW.bool 56 (b' := false) (bne_f c6) rfl (pu 1 rfl (RW.ld tk [iv p0.Job.Table.Dev, iv p0.Job.Table.Size, .slice A3 p0.Job.Table.List_.length c_3] (j2.at 2) ?_))
     have h25 := ((h8.ext x4).ext x5).ext x6
     obtain ⟨y3, h26, H⟩ := bind_some H
     refine RW.cl ent113 (table_May.calls k p0.Job.Table A3 c_3 _ _ h25.all hl3 h26) ?_
     rintro _ w8 ⟨rfl, x7⟩
     refine ⟨_, rfl, x7, ?_⟩
     have sx7 := x7.size
     refine pu 2 rfl (RW.done ?_)
     have h27 := j3.tr x7
     have h28 := j4.ext x7
     have h29 := j2.ext x7
     exact NW.J fun a ha => ⟨(!y3), ha.sb, by omega, h27, h28, h29, H⟩
    rw [if_neg c6] at H
    refine RW.bool 56 (b' := true) (bne_t c6) rfl (pu 5 rfl (RW.done ?_))
    exact NW.J fun a ha => ⟨true, ha.sb, by omega, j3, j4, j2, H⟩
   rw [if_neg c5] at H
   refine RW.bool 44 (b' := true) (bne_t c5) rfl (pu 17 rfl (RW.done ?_))
   exact NW.J fun a ha => ⟨true, ha.sb, by omega, j3, j4, j2, H⟩
  rw [if_neg c2] at H
  refine RW.bool 20 (b' := true) (not_t (bool_f c2)) rfl (pu 41 rfl (RW.done ?_))
  exact NW.J fun a ha => ⟨true, ha.sb, by omega, j3, j4, j2, H⟩
 intro a w6 hJ hp
 obtain ⟨bt61_0, hS, hle, x0_0, gb1_0, gb2_0, H⟩ := hJ
 unfold chain_job.j0 at H
 refine CW.go hp hS ?_
 have xt1 : Ext w6 w6 := Upd.refl _ _
 by_cases c7 : bt61_0 = true
 ·rw [if_pos c7] at H
  refine CW.cond_t rfl (c7) (CW.seq (CW.lw 1 rfl (pu 1 rfl (RW.done ?_))))
  refine NW.next (CW.ret (NW.ret_then ?_))
  obtain rfl := Option.some.inj H
  exact NW.ret1 rfl (by rfl) ⟨rfl, x0_0⟩
 rw [if_neg c7] at H
 refine CW.cond_f rfl (bool_f c7) (CW.skip (NW.next (CW.seq (CW.lex [.W, .W, .L, .W, .X, .W, .W] rfl ?_))))
 refine pu 2 rfl (RW.ld tk [.slice A3 p0.Job.Table.List_.length c_3] (gb2_0.at 4) ?_)
 refine pu 1 rfl ?_
 have xc1 : Ext w6 w6 := Upd.refl _ _
 refine RW.callK (.inl rfl) ent116 ⟨rfl, rfl, rfl, rfl⟩ rfl rfl rfl ?_
 refine calls_start Tryz.func116 rfl 9 rfl [.slice A3 p0.Job.Table.List_.length c_3, .func (.func 120) #[] #[.pointer (some ⟨b2, 0, none⟩), .pointer (some ⟨b1, 0, none⟩)]] rfl ?_
 refine CW.seq (CW.lw 1 rfl (pu 1 rfl (RW.done (NW.next ?_))))
 refine CW.seq (CW.lex [.W, .W, .X, .W, .W] rfl (pu 2 rfl ?_))
 have xc2 : Ext w6 w6 := Upd.refl _ _
 refine RW.callV (R := fun e w9 => ∃ (it7_1 : Int), e = .returned (iv it7_1) ∧ w6.heap.size ≤ w9.heap.size ∧ Ext w w9 ∧ Ext w6 w9 ∧ Ext w6 w9 ∧ chain_job.j1 it7_1 = some r) (.inl rfl) ent144 ⟨rfl, rfl, rfl, rfl⟩ rfl rfl rfl ?_ ?_
 ·refine calls_start Tryz.func144 rfl 19 rfl [.slice A3 p0.Job.Table.List_.length c_3, .func (.func 120) #[] #[.pointer (some ⟨b2, 0, none⟩), .pointer (some ⟨b1, 0, none⟩)]] rfl ?_
  refine CW.seq (CW.lw 1 rfl (pu 1 rfl (RW.done (NW.next ?_))))
  refine CW.seq (CW.seq (CW.lw 3 rfl (pu 3 rfl (RW.done ?_))))
  refine NW.next (CW.block ?_)
  refine CW.loop (fun n1 a w10 => ∃ (it8_2 : Int), Sat 19 [(0, .slice A3 p0.Job.Table.List_.length c_3), (1, .func (.func 120) #[] #[.pointer (some ⟨b2, 0, none⟩), .pointer (some ⟨b1, 0, none⟩)]), (7, iv (p0.Job.Table.List_.length : Int)), (8, iv it8_2)] a ∧ w6.heap.size ≤ w10.heap.size ∧ Ext w w10 ∧ Ext w6 w10 ∧ Ext w6 w10 ∧ Ext w6 w10 ∧ chain_job.l0 p0 k n1 it8_2 = some r) k ?_ ?_
  ·exact fun a ha => ⟨0, ha.sb, by omega, x0_0, xt1, xc1, xc2, H⟩
  intro n1 a w10 hI hp
  obtain ⟨it8_2, hS, hle, x0_2, x_xt1_2, x_xc1_2, x_xc2_2, H⟩ := hI
  cases n1 with
  | zero => cases H
  | succ n1 =>
   rw [chain_job.l0] at H
   refine CW.go hp hS (CW.seq (CW.lw 1 rfl (pu 1 rfl (RW.done ?_))))
   refine NW.next (CW.seq ?_)
   by_cases c8 : it8_2 < (p0.Job.Table.List_.length : Int)
   ·rw [if_pos c8] at H
    refine CW.cond_t rfl (decide_eq_true c8) (CW.skip (NW.next (CW.seq (CW.block ?_))))
    refine CW.seq (CW.lw 2 rfl (pu 2 rfl (RW.done (NW.next ?_))))
    refine CW.seq (CW.lex [.W, .W, .W, .W, .L, .M] rfl (pu 3 rfl ?_))
    obtain ⟨g3, H⟩ := guard_some H
    obtain ⟨ad3, e3, a3⟩ := kEntry_at (h3.ext x0_2) g3.1 g3.2
    refine RW.ix tk g3 e3 ?_
    refine RW.ld tk [iv ((rd p0.Job.Table.List_ it8_2).From), iv ((rd p0.Job.Table.List_ it8_2).Len), iv ((rd p0.Job.Table.List_ it8_2).Dev), iv ((rd p0.Job.Table.List_ it8_2).To), iv ((rd p0.Job.Table.List_ it8_2).Stale)] a3 ?_
    refine RW.callFM (R := fun e w11 => ∃ (bt16_3 : Bool), e = .returned (.bool bt16_3) ∧ w10.heap.size ≤ w11.heap.size ∧ Ext w w11 ∧ Ext w6 w11 ∧ Ext w6 w11 ∧ Ext w6 w11 ∧ chain_job.j2 it8_2 (chain_job.l0 p0 k n1) bt16_3 = some r) ent120 ⟨rfl, rfl, rfl, rfl⟩ rfl rfl rfl ?_ ?_
    ·refine calls_start Tryz.func120 rfl 20 rfl [.agg #[iv ((rd p0.Job.Table.List_ it8_2).From), iv ((rd p0.Job.Table.List_ it8_2).Len), iv ((rd p0.Job.Table.List_ it8_2).Dev), iv ((rd p0.Job.Table.List_ it8_2).To), iv ((rd p0.Job.Table.List_ it8_2).Stale)], .pointer (some ⟨b2, 0, none⟩), .pointer (some ⟨b1, 0, none⟩)] rfl ?_
     refine CW.seq (CW.lex [.X, .W] rfl (RW.box (cs := [iv ((rd p0.Job.Table.List_ it8_2).From), iv ((rd p0.Job.Table.List_ it8_2).Len), iv ((rd p0.Job.Table.List_ it8_2).Dev), iv ((rd p0.Job.Table.List_ it8_2).To), iv ((rd p0.Job.Table.List_ it8_2).Stale)]) (.inl rfl) ⟨rfl, rfl, rfl, rfl⟩ rfl rfl rfl ?_))
     intro b3 w12 x8 l7 h35
     have sx8 := x8.size
     have ltb3 := h35.lt
     refine pu 1 rfl (RW.done (NW.next (CW.seq (CW.lex [.W, .L, .W, .L, .W, .W, .L, .W, .W, .L, .W, .L, .X, .W, .W, .W] rfl ?_))))
     refine pu 1 rfl (RW.lb tk [iv ((rd p0.Job.Table.List_ it8_2).From)] h35 0 ?_)
     refine pu 1 rfl (RW.lb tk [iv ((rd p0.Job.Table.List_ it8_2).Len)] h35 1 ?_)
     refine pu 2 rfl ?_
     have h36 := (gb2_0.ext x_xt1_2).ext x8
     refine RW.lb tk [iv p0.Job.At] h36 1 ?_
     refine pu 2 rfl ?_
     have j5 := x0_2.tr x8
     have j6 := x_xt1_2.tr x8
     have j7 := x_xc1_2.tr x8
     have j8 := x_xc2_2.tr x8
     by_cases c9 : p0.Job.At < (w64 (((rd p0.Job.Table.List_ it8_2).From) + ((rd p0.Job.Table.List_ it8_2).Len)))
     ·rw [if_pos c9] at H
      refine RW.bool 13 (b' := true) (decide_eq_true c9) rfl (pu 7 rfl (RW.done (NW.next (CW.ret ?_))))
      exact NW.ret1 rfl (by rfl) ⟨true, rfl, by omega, j5, j6, j7, j8, H⟩
     rw [if_neg c9] at H
     refine RW.bool 13 (b' := false) (decide_eq_false c9) rfl ?_
     have h41 := (gb1_0.ext x_xt1_2).ext x8
     refine RW.ld tk [.slice A1 p0.Devices.length c_1, .slice A2 p0.Tables.length c_2, iv p0.Job.Dev, iv p0.Job.At, iv p0.Job.Table.Dev, iv p0.Job.Table.Size, .slice A3 p0.Job.Table.List_.length c_3, iv p0.Next] (h41.at 0) ?_
     refine pu 1 rfl (RW.lb tk [iv ((rd p0.Job.Table.List_ it8_2).Dev)] h35 2 ?_)
     have h42 := (h1.ext x0_2).ext x8
     have h43 := (h2.ext x0_2).ext x8
     have h44 := (h3.ext x0_2).ext x8
     obtain ⟨y4, h45, H⟩ := bind_some H
     refine RW.cl ent59 (chain_device.calls k p0 A1 c_1 A2 c_2 A3 c_3 ((rd p0.Job.Table.List_ it8_2).Dev) _ _ h42.all hl1 h43.all hl2 h44.all hl3 h45) ?_
     rintro _ w13 ⟨rfl, x9⟩
     refine ⟨_, rfl, x9, ?_⟩
     have sx9 := x9.size
     refine pu 3 rfl (RW.done (NW.next (CW.ret ?_)))
     have h46 := j5.tr x9
     have h47 := j6.tr x9
     have h48 := j7.tr x9
     have h49 := j8.tr x9
     exact NW.ret1 rfl (by rfl) ⟨(!y4), rfl, by omega, h46, h47, h48, h49, H⟩
    rintro _ w11 ⟨bt16_3, rfl, hle, x0_3, x_xt1_3, x_xc1_3, x_xc2_3, H⟩
    refine ⟨_, rfl, ?_⟩
    unfold chain_job.j2 at H
    refine RW.done (NW.next ?_)
    by_cases c10 : bt16_3 = true
    ·rw [if_pos c10] at H
     refine CW.cond_t rfl (c10) (CW.seq (CW.lw 2 rfl (pu 2 rfl (RW.done ?_))))
     refine NW.next (CW.ret ?_)
     refine NW.ret_block (NW.ret_then (NW.ret_then (NW.ret_block (NW.ret_then ?_))))
     exact NW.ret1 rfl (by rfl) ⟨it8_2, rfl, by omega, x0_3, x_xc1_3, x_xc2_3, H⟩
    rw [if_neg c10] at H
    refine CW.cond_f rfl (bool_f c10) (CW.skip ?_)
    refine NW.norm_block (NW.next ?_)
    refine CW.lw 2 rfl (pu 2 rfl (RW.done ?_))
    exact NW.J fun a ha => ⟨n1, Nat.lt_succ_self n1, (w64 (it8_2 + 1)), ha.sb, by omega, x0_3, x_xt1_3, x_xc1_3, x_xc2_3, H⟩
   rw [if_neg c8] at H
   refine CW.cond_f rfl (decide_eq_false c8) (CW.exit ?_)
   refine NW.exit_then (NW.exit_then (NW.exit_hit ?_))
   refine NW.next (CW.seq (CW.lw 1 rfl (pu 1 rfl (RW.done ?_))))
   refine NW.next (CW.ret ?_)
   exact NW.ret1 rfl (by rfl) ⟨(-1), rfl, by omega, x0_2, x_xc1_2, x_xc2_2, H⟩
 rintro _ w9 ⟨it7_1, rfl, hle, x0_1, x_xc1_1, x_xc2_1, H⟩
 refine ⟨_, rfl, x_xc2_1, ?_⟩
 unfold chain_job.j1 at H
 refine pu 2 rfl (RW.done (NW.next (CW.ret ?_)))
 refine NW.ret1 rfl (by rfl) ⟨_, rfl, x_xc1_1, ?_⟩
 refine pu 2 rfl (RW.done (NW.next (CW.ret ?_)))
 obtain rfl := Option.some.inj H
 exact NW.ret1 rfl (by rfl) ⟨rfl, x0_1⟩
theorem chain_May.calls (k : Nat) (p0 : Pool) (A1 : Option Addr) (c_1 : Nat) (A2 : Option Addr) (c_2 : Nat) (A3 : Option Addr) (c_3 : Nat) (r : Bool) (w : World) (hs1 : Sl kDeviceR w.heap okAll A1 p0.Devices) (hl1 : p0.Devices.length ≤ c_1) (hs2 : Sl kTableR w.heap okAll A2 p0.Tables) (hl2 : p0.Tables.length ≤ c_2) (hs3 : Sl kEntry w.heap okAll A3 p0.Job.Table.List_) (hl3 : p0.Job.Table.List_.length ≤ c_3) (H : chain_May.f k p0 = some r) :
    Calls Tryz.prog 53 #[.agg #[.slice A1 p0.Devices.length c_1, .slice A2 p0.Tables.length c_2, iv p0.Job.Dev, iv p0.Job.At, iv p0.Job.Table.Dev, iv p0.Job.Table.Size, .slice A3 p0.Job.Table.List_.length c_3, iv p0.Next]] w fun e w' => e = .returned (.bool r) ∧ Ext w w' := by
 have h1 : Sl kDeviceR w.heap (okL [(0, some w.heap.size, none)]) A1 p0.Devices := hs1.old _ rfl
 have h2 : Sl kTableR w.heap (okL [(0, some w.heap.size, none)]) A2 p0.Tables := hs2.old _ rfl
 have h3 : Sl kEntry w.heap (okL [(0, some w.heap.size, none)]) A3 p0.Job.Table.List_ := hs3.old _ rfl
 have x0 : Ext w w := Upd.refl _ w
 unfold chain_May.f at H
 refine calls_start Tryz.func53 rfl 44 rfl [.agg #[.slice A1 p0.Devices.length c_1, .slice A2 p0.Tables.length c_2, iv p0.Job.Dev, iv p0.Job.At, iv p0.Job.Table.Dev, iv p0.Job.Table.Size, .slice A3 p0.Job.Table.List_.length c_3, iv p0.Next]] rfl ?_
 refine CW.seq (CW.lex [.X, .W] rfl (RW.box (cs := [.slice A1 p0.Devices.length c_1, .slice A2 p0.Tables.length c_2, iv p0.Job.Dev, iv p0.Job.At, iv p0.Job.Table.Dev, iv p0.Job.Table.Size, .slice A3 p0.Job.Table.List_.length c_3, iv p0.Next]) (.inl rfl) ⟨rfl, rfl, rfl, rfl⟩ rfl rfl rfl ?_))
 intro b1 w1 x1 l1 h4
 have sx1 := x1.size
 have ltb1 := h4.lt
 refine pu 1 rfl (RW.done (NW.next (CW.seq ?_)))
 refine CW.seqJ (fun a w2 => ∃ (bt39_0 : Bool), Sat 44 [(1, .pointer (some ⟨b1, 0, none⟩)), (39, .bool bt39_0)] a ∧ w1.heap.size ≤ w2.heap.size ∧ Ext w w2 ∧ Box w2.heap b1 30 [.slice A1 p0.Devices.length c_1, .slice A2 p0.Tables.length c_2, iv p0.Job.Dev, iv p0.Job.At, iv p0.Job.Table.Dev, iv p0.Job.Table.Size, .slice A3 p0.Job.Table.List_.length c_3, iv p0.Next] ∧ chain_May.j0 p0 k bt39_0 = some r) ?_ ?_
 ·refine CW.lex [.W, .L, .X, .W, .W, .W, .L, .W, .W, .W, .W, .W, .W, .L, .W, .W, .W, .L, .W, .W, .W, .W, .W, .L, .X, .W, .W, .W, .L, .X, .W, .W, .W, .L, .X, .W, .W] rfl (pu 1 rfl (RW.lb tk [.slice A1 p0.Devices.length c_1] h4 0 ?_))
  have h5 := h1.ext x1
  obtain ⟨y1, h6, H⟩ := bind_some H
  refine RW.cl ent78 (room_May.calls k A1 c_1 p0.Devices _ _ h5.all hl1 h6) ?_
  rintro _ w3 ⟨rfl, x2⟩
  refine ⟨_, rfl, x2, ?_⟩
  have sx2 := x2.size
  refine pu 2 rfl ?_
  have j1 := h4.ext x2
  have j2 := (x0.tr x1).tr x2
  by_cases c1 : y1 = true
  ·rw [if_pos c1] at H
   refine RW.bool 7 (b' := false) (not_f (c1)) rfl (pu 1 rfl (RW.lb tk [.slice A2 p0.Tables.length c_2] j1 1 ?_))
   refine pu 4 rfl ?_
   by_cases c2 : 12 < (p0.Tables.length : Int)
   ·rw [if_pos c2] at H
    refine RW.bool 13 (b' := true) (decide_eq_true c2) rfl (pu 26 rfl (RW.done ?_))
    exact NW.J fun a ha => ⟨true, ha.sb, by omega, j2, j1, H⟩
   rw [if_neg c2] at H
   refine RW.bool 13 (b' := false) (decide_eq_false c2) rfl (pu 2 rfl (RW.lb tk [iv p0.Job.Dev] j1 2 ?_))
   refine pu 2 rfl ?_
   have j3 := h5.ext x2
   have j4 := (h2.ext x1).ext x2
   have j5 := (h3.ext x1).ext x2
   by_cases c3 : p0.Job.Dev = 0
   ·rw [if_pos c3] at H
    refine RW.bool 18 (b' := false) (bne_f c3) rfl (pu 7 rfl (RW.ld tk [.slice A1 p0.Devices.length c_1, .slice A2 p0.Tables.length c_2, iv p0.Job.Dev, iv p0.Job.At, iv p0.Job.Table.Dev, iv p0.Job.Table.Size, .slice A3 p0.Job.Table.List_.length c_3, iv p0.Next] (j1.at 0) ?_))
    obtain ⟨y2, h12, H⟩ := bind_some H
    refine RW.cl ent79 (chain_ids.calls k p0 A1 c_1 A2 c_2 A3 c_3 _ _ j3.all hl1 j4.all hl2 j5.all hl3 h12) ?_
    rintro _ w4 ⟨rfl, x3⟩
    refine ⟨_, rfl, x3, ?_⟩
    have sx3 := x3.size
    refine pu 3 rfl ?_
    have j8 := j1.ext x3
    have j9 := j2.tr x3
    by_cases c4 : y2 = true
    ·rw [if_pos c4] at H
     refine RW.bool 30 (b' := false) (not_f (c4)) rfl (RW.ld tk [.slice A1 p0.Devices.length c_1, .slice A2 p0.Tables.length c_2, iv p0.Job.Dev, iv p0.Job.At, iv p0.Job.Table.Dev, iv p0.Job.Table.Size, .slice A3 p0.Job.Table.List_.length c_3, iv p0.Next] (j8.at 0) ?_)
     have h14 := j3.ext x3
     have h15 := j4.ext x3
     have h16 := j5.ext x3
     obtain ⟨y3, h17, H⟩ := bind_some H
     refine RW.cl ent80 (chain_tables.calls k p0 A1 c_1 A2 c_2 A3 c_3 _ _ h14.all hl1 h15.all hl2 h16.all hl3 h17) ?_
     rintro _ w5 ⟨rfl, x4⟩
     refine ⟨_, rfl, x4, ?_⟩
     have sx4 := x4.size
     refine pu 3 rfl ?_
     have j10 := j8.ext x4
     have j11 := j9.tr x4
     by_cases c5 : y3 = true
     ·rw [if_pos c5] at H
      refine RW.bool 35 (b' := false) (not_f (c5)) rfl (RW.ld tk [.slice A1 p0.Devices.length c_1, .slice A2 p0.Tables.length c_2, iv p0.Job.Dev, iv p0.Job.At, iv p0.Job.Table.Dev, iv p0.Job.Table.Size, .slice A3 p0.Job.Table.List_.length c_3, iv p0.Next] (j10.at 0) ?_)
      have h19 := h14.ext x4
      have h20 := h15.ext x4
      have h21 := h16.ext x4
      obtain ⟨y4, h22, H⟩ := bind_some H
      refine RW.cl ent81 (chain_job.calls k p0 A1 c_1 A2 c_2 A3 c_3 _ _ h19.all hl1 h20.all hl2 h21.all hl3 h22) ?_
      rintro _ w6 ⟨rfl, x5⟩
      refine ⟨_, rfl, x5, ?_⟩
      have sx5 := x5.size
      refine pu 2 rfl (RW.done ?_)
      have h23 := j11.tr x5
      have h24 := j10.ext x5
      exact NW.J fun a ha => ⟨(!y4), ha.sb, by omega, h23, h24, H⟩
     rw [if_neg c5] at H
     refine RW.bool 35 (b' := true) (not_t (bool_f c5)) rfl (pu 4 rfl (RW.done ?_))
     exact NW.J fun a ha => ⟨true, ha.sb, by omega, j11, j10, H⟩
    rw [if_neg c4] at H
    refine RW.bool 30 (b' := true) (not_t (bool_f c4)) rfl (pu 9 rfl (RW.done ?_))
    exact NW.J fun a ha => ⟨true, ha.sb, by omega, j9, j8, H⟩
   rw [if_neg c3] at H
   refine RW.bool 18 (b' := true) (bne_t c3) rfl (pu 1 rfl (RW.lb tk [.slice A2 p0.Tables.length c_2] j1 1 ?_))
   refine pu 5 rfl ?_
   by_cases c6 : 12 ≤ (p0.Tables.length : Int)
   ·rw [if_pos c6] at H
    refine RW.bool 25 (b' := true) (decide_eq_true c6) rfl (pu 14 rfl (RW.done ?_))
    exact NW.J fun a ha => ⟨true, ha.sb, by omega, j2, j1, H⟩
   rw [if_neg c6] at H
   refine RW.bool 25 (b' := false) (decide_eq_false c6) rfl (RW.ld tk [.slice A1 p0.Devices.length c_1, .slice A2 p0.Tables.length c_2, iv p0.Job.Dev, iv p0.Job.At, iv p0.Job.Table.Dev, iv p0.Job.Table.Size, .slice A3 p0.Job.Table.List_.length c_3, iv p0.Next] (j1.at 0) ?_)
   obtain ⟨y5, h33, H⟩ := bind_some H
   refine RW.cl ent79 (chain_ids.calls k p0 A1 c_1 A2 c_2 A3 c_3 _ _ j3.all hl1 j4.all hl2 j5.all hl3 h33) ?_
   rintro _ w7 ⟨rfl, x6⟩
   refine ⟨_, rfl, x6, ?_⟩
   have sx6 := x6.size
   refine pu 3 rfl ?_
   have j6 := j1.ext x6
   have j7 := j2.tr x6
   by_cases c7 : y5 = true
   ·rw [if_pos c7] at H
    refine RW.bool 30 (b' := false) (not_f (c7)) rfl (RW.ld tk [.slice A1 p0.Devices.length c_1, .slice A2 p0.Tables.length c_2, iv p0.Job.Dev, iv p0.Job.At, iv p0.Job.Table.Dev, iv p0.Job.Table.Size, .slice A3 p0.Job.Table.List_.length c_3, iv p0.Next] (j6.at 0) ?_)
    have h35 := j3.ext x6
    have h36 := j4.ext x6
    have h37 := j5.ext x6
    obtain ⟨y6, h38, H⟩ := bind_some H
    refine RW.cl ent80 (chain_tables.calls k p0 A1 c_1 A2 c_2 A3 c_3 _ _ h35.all hl1 h36.all hl2 h37.all hl3 h38) ?_
    rintro _ w8 ⟨rfl, x7⟩
    refine ⟨_, rfl, x7, ?_⟩
    have sx7 := x7.size
    refine pu 3 rfl ?_
    have j12 := j6.ext x7
    have j13 := j7.tr x7
    by_cases c8 : y6 = true
    ·rw [if_pos c8] at H
     refine RW.bool 35 (b' := false) (not_f (c8)) rfl (RW.ld tk [.slice A1 p0.Devices.length c_1, .slice A2 p0.Tables.length c_2, iv p0.Job.Dev, iv p0.Job.At, iv p0.Job.Table.Dev, iv p0.Job.Table.Size, .slice A3 p0.Job.Table.List_.length c_3, iv p0.Next] (j12.at 0) ?_)
     have h40 := h35.ext x7
     have h41 := h36.ext x7
     have h42 := h37.ext x7
     obtain ⟨y7, h43, H⟩ := bind_some H
     refine RW.cl ent81 (chain_job.calls k p0 A1 c_1 A2 c_2 A3 c_3 _ _ h40.all hl1 h41.all hl2 h42.all hl3 h43) ?_
     rintro _ w9 ⟨rfl, x8⟩
     refine ⟨_, rfl, x8, ?_⟩
     have sx8 := x8.size
     refine pu 2 rfl (RW.done ?_)
     have h44 := j13.tr x8
     have h45 := j12.ext x8
     exact NW.J fun a ha => ⟨(!y7), ha.sb, by omega, h44, h45, H⟩
    rw [if_neg c8] at H
    refine RW.bool 35 (b' := true) (not_t (bool_f c8)) rfl (pu 4 rfl (RW.done ?_))
    exact NW.J fun a ha => ⟨true, ha.sb, by omega, j13, j12, H⟩
   rw [if_neg c7] at H
   refine RW.bool 30 (b' := true) (not_t (bool_f c7)) rfl (pu 9 rfl (RW.done ?_))
   exact NW.J fun a ha => ⟨true, ha.sb, by omega, j7, j6, H⟩
  rw [if_neg c1] at H
  refine RW.bool 7 (b' := true) (not_t (bool_f c1)) rfl (pu 32 rfl (RW.done ?_))
  exact NW.J fun a ha => ⟨true, ha.sb, by omega, j2, j1, H⟩
 intro a w2 hJ hp
 obtain ⟨bt39_0, hS, hle, x0_0, gb1_0, H⟩ := hJ
 unfold chain_May.j0 at H
 refine CW.go hp hS ?_
 have xt1 : Ext w2 w2 := Upd.refl _ _
 by_cases c9 : bt39_0 = true
 ·rw [if_pos c9] at H
  refine CW.cond_t rfl (c9) (CW.seq (CW.lw 1 rfl (pu 1 rfl (RW.done ?_))))
  refine NW.next (CW.ret (NW.ret_then ?_))
  obtain rfl := Option.some.inj H
  exact NW.ret1 rfl (by rfl) ⟨rfl, x0_0⟩
 rw [if_neg c9] at H
 refine CW.cond_f rfl (bool_f c9) (CW.skip (NW.next (CW.seq (CW.lex [.W, .L, .W, .X, .W] rfl ?_))))
 refine pu 1 rfl (RW.lb tk [.slice A1 p0.Devices.length c_1] gb1_0 0 ?_)
 refine pu 1 rfl ?_
 have xc1 : Ext w2 w2 := Upd.refl _ _
 refine RW.callK (.inl rfl) ent82 ⟨rfl, rfl, rfl, rfl⟩ rfl rfl rfl ?_
 refine calls_start Tryz.func82 rfl 9 rfl [.slice A1 p0.Devices.length c_1, .func (.func 83) #[] #[.pointer (some ⟨b1, 0, none⟩)]] rfl ?_
 refine CW.seq (CW.lw 1 rfl (pu 1 rfl (RW.done (NW.next ?_))))
 refine CW.seq (CW.lex [.W, .W, .X, .W, .W] rfl (pu 2 rfl ?_))
 have xc2 : Ext w2 w2 := Upd.refl _ _
 refine RW.callV (R := fun e w10 => ∃ (it7_1 : Int), e = .returned (iv it7_1) ∧ w2.heap.size ≤ w10.heap.size ∧ Ext w w10 ∧ Ext w2 w10 ∧ Ext w2 w10 ∧ chain_May.j1 it7_1 = some r) (.inl rfl) ent121 ⟨rfl, rfl, rfl, rfl⟩ rfl rfl rfl ?_ ?_
 ·refine calls_start Tryz.func121 rfl 19 rfl [.slice A1 p0.Devices.length c_1, .func (.func 83) #[] #[.pointer (some ⟨b1, 0, none⟩)]] rfl ?_
  refine CW.seq (CW.lw 1 rfl (pu 1 rfl (RW.done (NW.next ?_))))
  refine CW.seq (CW.seq (CW.lw 3 rfl (pu 3 rfl (RW.done ?_))))
  refine NW.next (CW.block ?_)
  refine CW.loop (fun n1 a w11 => ∃ (it8_2 : Int), Sat 19 [(0, .slice A1 p0.Devices.length c_1), (1, .func (.func 83) #[] #[.pointer (some ⟨b1, 0, none⟩)]), (7, iv (p0.Devices.length : Int)), (8, iv it8_2)] a ∧ w2.heap.size ≤ w11.heap.size ∧ Ext w w11 ∧ Ext w2 w11 ∧ Ext w2 w11 ∧ Ext w2 w11 ∧ chain_May.l0 p0 n1 it8_2 = some r) k ?_ ?_
  ·exact fun a ha => ⟨0, ha.sb, by omega, x0_0, xt1, xc1, xc2, H⟩
  intro n1 a w11 hI hp
  obtain ⟨it8_2, hS, hle, x0_2, x_xt1_2, x_xc1_2, x_xc2_2, H⟩ := hI
  cases n1 with
  | zero => cases H
  | succ n1 =>
   rw [chain_May.l0] at H
   refine CW.go hp hS (CW.seq (CW.lw 1 rfl (pu 1 rfl (RW.done ?_))))
   refine NW.next (CW.seq ?_)
   by_cases c10 : it8_2 < (p0.Devices.length : Int)
   ·rw [if_pos c10] at H
    refine CW.cond_t rfl (decide_eq_true c10) (CW.skip (NW.next (CW.seq (CW.block ?_))))
    refine CW.seq (CW.lw 2 rfl (pu 2 rfl (RW.done (NW.next ?_))))
    refine CW.seq (CW.lex [.W, .W, .W, .W, .L, .M] rfl (pu 3 rfl ?_))
    obtain ⟨g1, H⟩ := guard_some H
    obtain ⟨ad1, A4, c_4, A5, c_5, e1, a1, l2, h52, l3, h53⟩ := kDeviceR_at (h1.ext x0_2) g1.1 g1.2
    refine RW.ix tk g1 e1 ?_
    refine RW.ld tk [iv ((rd p0.Devices it8_2).ID), iv ((rd p0.Devices it8_2).Size), .slice A4 ((rd p0.Devices it8_2).Free).length c_4, .slice A5 ((rd p0.Devices it8_2).Late).length c_5] a1 ?_
    refine RW.callKM ent83 ⟨rfl, rfl, rfl, rfl⟩ rfl rfl rfl ?_
    refine calls_start Tryz.func83 rfl 10 rfl [.agg #[iv ((rd p0.Devices it8_2).ID), iv ((rd p0.Devices it8_2).Size), .slice A4 ((rd p0.Devices it8_2).Free).length c_4, .slice A5 ((rd p0.Devices it8_2).Late).length c_5], .pointer (some ⟨b1, 0, none⟩)] rfl ?_
    refine CW.seq (CW.lex [.X, .W] rfl (RW.box (cs := [iv ((rd p0.Devices it8_2).ID), iv ((rd p0.Devices it8_2).Size), .slice A4 ((rd p0.Devices it8_2).Free).length c_4, .slice A5 ((rd p0.Devices it8_2).Late).length c_5]) (.inl rfl) ⟨rfl, rfl, rfl, rfl⟩ rfl rfl rfl ?_))
    intro b2 w12 x9 l4 h54
    have sx9 := x9.size
    have ltb2 := h54.lt
    refine pu 1 rfl (RW.done (NW.next (CW.seq (CW.lex [.W, .L, .W, .W, .L, .W, .W] rfl ?_))))
    refine pu 1 rfl (RW.lb tk [iv ((rd p0.Devices it8_2).ID)] h54 0 ?_)
    refine pu 2 rfl ?_
    have h55 := (gb1_0.ext x_xt1_2).ext x9
    refine RW.lb tk [iv p0.Job.Dev] h55 2 ?_
    refine pu 2 rfl (RW.done (NW.next (CW.ret ?_)))
    refine NW.ret1 rfl (by rfl) ⟨_, rfl, ?_⟩
    refine RW.done (NW.next ?_)
    have j14 := x0_2.tr x9
    have j15 := x_xc1_2.tr x9
    have j16 := x_xc2_2.tr x9
    by_cases c11 : (rd p0.Devices it8_2).ID = p0.Job.Dev
    ·rw [if_pos c11] at H
     refine CW.cond_f rfl (bne_f c11) (CW.skip ?_)
     refine NW.norm_block (NW.next ?_)
     refine CW.lw 2 rfl (pu 2 rfl (RW.done ?_))
     have h57 := x_xt1_2.tr x9
     exact NW.J fun a ha => ⟨n1, Nat.lt_succ_self n1, (w64 (it8_2 + 1)), ha.sb, by omega, j14, h57, j15, j16, H⟩
    rw [if_neg c11] at H
    refine CW.cond_t rfl (bne_t c11) (CW.seq (CW.lw 2 rfl (pu 2 rfl (RW.done ?_))))
    refine NW.next (CW.ret ?_)
    refine NW.ret_block (NW.ret_then (NW.ret_then (NW.ret_block (NW.ret_then ?_))))
    exact NW.ret1 rfl (by rfl) ⟨it8_2, rfl, by omega, j14, j15, j16, H⟩
   rw [if_neg c10] at H
   refine CW.cond_f rfl (decide_eq_false c10) (CW.exit ?_)
   refine NW.exit_then (NW.exit_then (NW.exit_hit ?_))
   refine NW.next (CW.seq (CW.lw 1 rfl (pu 1 rfl (RW.done ?_))))
   refine NW.next (CW.ret ?_)
   exact NW.ret1 rfl (by rfl) ⟨(-1), rfl, by omega, x0_2, x_xc1_2, x_xc2_2, H⟩
 rintro _ w10 ⟨it7_1, rfl, hle, x0_1, x_xc1_1, x_xc2_1, H⟩
 refine ⟨_, rfl, x_xc2_1, ?_⟩
 unfold chain_May.j1 at H
 refine pu 2 rfl (RW.done (NW.next (CW.ret ?_)))
 refine NW.ret1 rfl (by rfl) ⟨_, rfl, x_xc1_1, ?_⟩
 refine pu 1 rfl (RW.done (NW.next (CW.ret ?_)))
 obtain rfl := Option.some.inj H
 exact NW.ret1 rfl (by rfl) ⟨rfl, x0_1⟩
theorem slices_Clone_Device.calls (A1 : Option Addr) (c_1 : Nat) (p0 : List Device) (r : (List Device)) (w : World) (hs1 : Sl kDeviceR w.heap okAll A1 p0) (hl1 : p0.length ≤ c_1) (H : slices_Clone_Device.f p0 = some r) :
    Calls Tryz.prog 122 #[.slice A1 p0.length c_1] w fun e w' => ∃ (B1 : Option Addr) (d1 : Nat), e = .returned (.slice B1 r.length d1) ∧ Ext w w' ∧ Ow kDeviceR 40 w'.heap (okL [(w.heap.size, none, some 40)]) (okL [(0, some w.heap.size, none), (w.heap.size, none, some 105)]) B1 d1 r := by
 have h1 : Sl kDeviceR w.heap (okL [(0, some w.heap.size, none)]) A1 p0 := hs1.old _ rfl
 have x0 : Ext w w := Upd.refl _ w
 unfold slices_Clone_Device.f at H
 refine calls_start Tryz.func122 rfl 8 rfl [.slice A1 p0.length c_1] rfl ?_
 refine CW.seq (CW.lw 1 rfl (pu 1 rfl (RW.done (NW.next ?_))))
 refine CW.seq (CW.seq (CW.lw 2 rfl (pu 1 rfl (RW.eqNil tk ⟨rfl, rfl, rfl, rfl⟩ rfl rfl rfl rfl rfl ?_))))
 refine RW.done (NW.next ?_)
 by_cases c1 : A1.isNone = true
 ·obtain rfl : p0 = [] := sl_none h1 c1
  replace H : (some ([] : List Device)) = some r := by first | exact H | simpa using H
  refine CW.cond_t rfl (c1) (CW.seq (CW.lw 1 rfl (pu 1 rfl (RW.done ?_))))
  refine NW.next (CW.ret (NW.ret_then ?_))
  obtain rfl := Option.some.inj H
  exact NW.ret1 rfl (by rfl) ⟨none, 0, rfl, x0, Ow.nil⟩
 refine CW.cond_f rfl (bool_f c1) (CW.skip (NW.next (CW.seq (CW.lex [.X, .W, .M, .W] rfl ?_))))
 refine RW.buildSlice (cs := []) tk (.inl rfl) ⟨rfl, rfl, rfl, rfl⟩ rfl rfl rfl rfl rfl rfl rfl ?_
 intro b1 w1 x1 l1 h2
 have sx1 := x1.size
 have ltb1 := h2.lt
 refine pu 1 rfl ?_
 have h3 := h1.ext x1
 obtain ⟨y1, h4, h5⟩ := Sl.ch h3
 obtain ⟨g1, H⟩ := guard_some H
 refine RW.appendL (d := kDeviceR) (l := []) (li := []) (ly := [(0, some w.heap.size, none)]) (xs := ([] : List Device)) (ys := p0) tk Ow.nil h4 h5 ⟨trivial, trivial⟩ (by simp only [maxLen]; omega) g1 ⟨rfl, rfl, rfl, rfl⟩ rfl rfl rfl rfl rfl rfl rfl rfl ?_
 intro A2 c_2 w2 x2 h6
 have sx2 := x2.size
 have h7 := h6.close.sub (l' := [(w1.heap.size, some w2.heap.size, some 40)]) (li' := [(0, some w.heap.size, none)]) ⟨(.inl ⟨by omega, by omega, rfl⟩), trivial⟩ ⟨(.inl ⟨by omega, by omega, trivial⟩), trivial⟩
 refine pu 1 rfl (RW.done (NW.next (CW.ret ?_)))
 obtain rfl := Option.some.inj H
 have h8 := Ext.turn (x0.tr x1) x2 trivial
 exact NW.ret1 rfl (by rfl) ⟨A2, c_2, rfl, h8, (h7.sub (l' := [(w.heap.size, none, some 40)]) (li' := [(0, some w.heap.size, none), (w.heap.size, none, some 105)]) ⟨(.inl ⟨by omega, trivial, rfl⟩), trivial⟩ ⟨(.inl ⟨by omega, by omega, trivial⟩), trivial⟩)⟩
theorem slices_Clone_Seg.calls (A1 : Option Addr) (c_1 : Nat) (p0 : List Seg) (r : (List Seg)) (w : World) (hs1 : Sl kSeg w.heap okAll A1 p0) (hl1 : p0.length ≤ c_1) (H : slices_Clone_Seg.f p0 = some r) :
    Calls Tryz.prog 123 #[.slice A1 p0.length c_1] w fun e w' => ∃ (B1 : Option Addr) (d1 : Nat), e = .returned (.slice B1 r.length d1) ∧ Ext w w' ∧ Ow kSeg 105 w'.heap (okL [(w.heap.size, none, some 105)]) (okL []) B1 d1 r := by
 have h1 : Sl kSeg w.heap (okL [(0, some w.heap.size, none)]) A1 p0 := hs1.old _ rfl
 have x0 : Ext w w := Upd.refl _ w
 unfold slices_Clone_Seg.f at H
 refine calls_start Tryz.func123 rfl 8 rfl [.slice A1 p0.length c_1] rfl ?_
 refine CW.seq (CW.lw 1 rfl (pu 1 rfl (RW.done (NW.next ?_))))
 refine CW.seq (CW.seq (CW.lw 2 rfl (pu 1 rfl (RW.eqNil tk ⟨rfl, rfl, rfl, rfl⟩ rfl rfl rfl rfl rfl ?_))))
 refine RW.done (NW.next ?_)
 by_cases c1 : A1.isNone = true
 ·obtain rfl : p0 = [] := sl_none h1 c1
  replace H : (some ([] : List Seg)) = some r := by first | exact H | simpa using H
  refine CW.cond_t rfl (c1) (CW.seq (CW.lw 1 rfl (pu 1 rfl (RW.done ?_))))
  refine NW.next (CW.ret (NW.ret_then ?_))
  obtain rfl := Option.some.inj H
  exact NW.ret1 rfl (by rfl) ⟨none, 0, rfl, x0, Ow.nil⟩
 refine CW.cond_f rfl (bool_f c1) (CW.skip (NW.next (CW.seq (CW.lex [.X, .W, .M, .W] rfl ?_))))
 refine RW.buildSlice (cs := []) tk (.inl rfl) ⟨rfl, rfl, rfl, rfl⟩ rfl rfl rfl rfl rfl rfl rfl ?_
 intro b1 w1 x1 l1 h2
 have sx1 := x1.size
 have ltb1 := h2.lt
 refine pu 1 rfl ?_
 have h3 := h1.ext x1
 obtain ⟨y1, h4, h5⟩ := Sl.ch h3
 have h6 := h4.flat (h' := w1.heap) (ok' := okL []) fun e => e
 obtain ⟨g1, H⟩ := guard_some H
 refine RW.appendL (d := kSeg) (l := []) (li := []) (ly := []) (xs := ([] : List Seg)) (ys := p0) tk Ow.nil h6 h5 trivial (by simp only [maxLen]; omega) g1 ⟨rfl, rfl, rfl, rfl⟩ rfl rfl rfl rfl rfl rfl rfl rfl ?_
 intro A2 c_2 w2 x2 h7
 have sx2 := x2.size
 have h8 := h7.close.sub (l' := [(w1.heap.size, some w2.heap.size, some 105)]) (li' := []) ⟨(.inl ⟨by omega, by omega, rfl⟩), trivial⟩ trivial
 refine pu 1 rfl (RW.done (NW.next (CW.ret ?_)))
 obtain rfl := Option.some.inj H
 have h9 := Ext.turn (x0.tr x1) x2 trivial
 exact NW.ret1 rfl (by rfl) ⟨A2, c_2, rfl, h9, (h8.sub (l' := [(w.heap.size, none, some 105)]) (li' := []) ⟨(.inl ⟨by omega, trivial, rfl⟩), trivial⟩ trivial)⟩
theorem room_Own.calls (k : Nat) (A1 : Option Addr) (c_1 : Nat) (p0 : List Device) (r : (List Device)) (w : World) (hs1 : Sl kDeviceR w.heap okAll A1 p0) (hl1 : p0.length ≤ c_1) (H : room_Own.f k p0 = some r) :
    Calls Tryz.prog 84 #[.slice A1 p0.length c_1] w fun e w' => ∃ (B1 : Option Addr) (d1 : Nat), e = .returned (.slice B1 r.length d1) ∧ Ext w w' ∧ Ow kDeviceO 40 w'.heap (okL [(w.heap.size, none, some 40)]) (okL [(w.heap.size, none, some 105)]) B1 d1 r := by
 have h1 : Sl kDeviceR w.heap (okL [(0, some w.heap.size, none)]) A1 p0 := hs1.old _ rfl
 have x0 : Ext w w := Upd.refl _ w
 unfold room_Own.f at H
 refine calls_start Tryz.func84 rfl 33 rfl [.slice A1 p0.length c_1] rfl ?_
 refine CW.seq (CW.lw 1 rfl (pu 1 rfl (RW.done (NW.next ?_))))
 refine CW.seq (CW.lex [.W, .X, .W] rfl (pu 1 rfl ?_))
 obtain ⟨y1, h2, H⟩ := bind_some H
 refine RW.cl ent122 (slices_Clone_Device.calls A1 c_1 p0 _ _ h1.all hl1 h2) ?_
 rintro _ w1 ⟨A2, c_2, rfl, x1, h3⟩
 refine ⟨_, rfl, x1, ?_⟩
 have sx1 := x1.size
 have h4 : Ow kDeviceR 40 w1.heap (okL [(w.heap.size, some w1.heap.size, some 40)]) (okL [(0, some w.heap.size, none), (w.heap.size, some w1.heap.size, some 105)]) A2 c_2 y1 := h3.close
 refine pu 1 rfl (RW.done (NW.next (CW.seq (CW.seq ?_))))
 refine CW.lw 3 rfl (pu 3 rfl (RW.done (NW.next (CW.block ?_))))
 refine CW.loop (fun n1 a w2 => ∃ (lt0_0 : List Device) (it8_0 : Int), Sat 33 [(0, .slice A2 lt0_0.length c_2), (7, iv (y1.length : Int)), (8, iv it8_0)] a ∧ w1.heap.size ≤ w2.heap.size ∧ Ow kDeviceR 40 w2.heap (okL [(w.heap.size, none, some 40)]) (okL [(0, some w.heap.size, none), (w.heap.size, none, some 105)]) A2 c_2 lt0_0 ∧ Ext w w2 ∧ lt0_0.length = y1.length ∧ lt0_0.length = y1.length ∧ 0 ≤ it8_0 ∧ OwPart kDeviceO w2.heap (okL [(w.heap.size, none, some 105)]) A2 lt0_0 default it8_0.toNat ∧ room_Own.l0 y1 n1 lt0_0 it8_0 = some r) k ?_ ?_
 have h5 := x0.tr x1
 ·exact fun a ha => ⟨y1, 0, ha.sb, by omega, (h4.sub ⟨(.inl ⟨by omega, trivial, rfl⟩), trivial⟩ ⟨(.inl ⟨by omega, by omega, trivial⟩), ⟨(.inr (.inl ⟨by omega, trivial, rfl⟩)), trivial⟩⟩), h5, (by (try simp only [List.length_set]) <;> omega), rfl, Int.le_refl 0, OwPart.zero, H⟩
 intro n1 a w2 hI hp
 obtain ⟨lt0_0, it8_0, hS, hle, ft0_0, x0_0, ln_lt0_0, hln, hi0, hpt, H⟩ := hI
 cases n1 with
 | zero => cases H
 | succ n1 =>
  rw [room_Own.l0] at H
  refine CW.go hp hS ?_
  have h6 : Ow kDeviceR 40 w2.heap (okL [(w.heap.size, some w2.heap.size, some 40)]) (okL [(0, some w.heap.size, none), (w.heap.size, some w2.heap.size, some 105)]) A2 c_2 lt0_0 := ft0_0.close
  have xt1 : Ext w2 w2 := Upd.refl _ _
  refine CW.seq (CW.lw 1 rfl (pu 1 rfl (RW.done (NW.next ?_))))
  refine CW.seq ?_
  by_cases c1 : it8_0 < (y1.length : Int)
  ·rw [if_pos c1] at H
   refine CW.cond_t rfl (decide_eq_true c1) (CW.skip (NW.next (CW.seq (CW.block ?_))))
   refine CW.seq (CW.lw 2 rfl (pu 2 rfl (RW.done (NW.next ?_))))
   refine CW.ord [0, 0, 0, 0, 0, 0, 48, 112, 240, 496, 0, 0, 3072, 7168, 15360, 32752, 65523, 131059, 262131, 524287, 1048575, 2097151] (ofL [(0, .W), (1, .W), (2, .W), (3, .W), (4, .W), (5, .W), (6, .W), (7, .W), (10, .W), (11, .W), (12, .W), (13, .W), (8, .L), (14, .L), (9, .X), (15, .X), (16, .W), (17, .W), (18, .M), (19, .W), (20, .W), (21, .M)] .nil) mixed (by kernel_rfl) ?_
   intro w3 x2
   have sx2 := x2.size
   refine pu 6 rfl ?_
   obtain ⟨g1, H⟩ := guard_some H
   have h7 := h6.ext x2
   obtain ⟨ad1, A3, c_3, A4, c_4, e1, a1, l1, h8, l2, h9⟩ := kDeviceR_ato h7 g1.1 g1.2
   refine RW.ix tk g1 e1 ?_
   refine pu 3 rfl ?_
   obtain ⟨g2, H⟩ := guard_some H
   obtain ⟨ad2, A5, c_5, A6, c_6, e2, a2, l3, h10, l4, h11⟩ := kDeviceR_ato h7 g2.1 g2.2
   refine RW.ix tk g2 e2 ?_
   refine pu 1 rfl (RW.ld tk [.slice A3 ((rd lt0_0 it8_0).Free).length c_3] ((a1.fld 2).take 1 rfl) ?_)
   refine RW.ld tk [.slice A6 ((rd lt0_0 it8_0).Late).length c_6] (a2.fld 3) ?_
   obtain ⟨y2, h12, H⟩ := bind_some H
   refine RW.cl ent123 (slices_Clone_Seg.calls A3 c_3 ((rd lt0_0 it8_0).Free) _ _ h8.all l1 h12) ?_
   rintro _ w4 ⟨A7, c_7, rfl, x3, h13⟩
   refine ⟨_, rfl, x3, ?_⟩
   have sx3 := x3.size
   have h14 : Ow kSeg 105 w4.heap (okL [(w3.heap.size, some w4.heap.size, some 105)]) (okL []) A7 c_7 y2 := h13.close
   have h15 := h11.ext x3
   obtain ⟨y3, h16, H⟩ := bind_some H
   refine RW.cl ent123 (slices_Clone_Seg.calls A6 c_6 ((rd lt0_0 it8_0).Late) _ _ h15.all l4 h16) ?_
   rintro _ w5 ⟨A8, c_8, rfl, x4, h17⟩
   refine ⟨_, rfl, x4, ?_⟩
   have sx4 := x4.size
   have h18 : Ow kSeg 105 w5.heap (okL [(w4.heap.size, some w5.heap.size, some 105)]) (okL []) A8 c_8 y3 := h17.close
   obtain ⟨g3, H⟩ := guard_some H
   have h19 := (h7.ext x3).ext x4
   obtain ⟨ad3, A9, c_9, A10, c_10, e3, a3, l5, h20, l6, h21⟩ := kDeviceR_ato h19 g3.1 g3.2
   refine RW.ix tk g3 e3 ?_
   refine pu 1 rfl ?_
   have h22 := h14.ext x4
   refine RW.storeElX (y := (⟨(rd lt0_0 it8_0).ID, (rd lt0_0 it8_0).Size, y2, (rd lt0_0 it8_0).Late⟩ : Device)) (lv := [(w3.heap.size, some w4.heap.size, some 105)]) (k := 2) tk h19 (j := it8_0.toNat) (by have := g3; omega) default [.slice A7 y2.length c_7] (fun cs ok' hr => by obtain ⟨qa1, qc1, qa2, qc2, rfl, ql1, q1, ql2, q2⟩ := kDeviceR_open hr; exact ⟨by simp, kDeviceR_mk (⟨(rd lt0_0 it8_0).ID, (rd lt0_0 it8_0).Size, y2, (rd lt0_0 it8_0).Late⟩ : Device) h22.len (Sl.mono h22.slL fun _ _ ho => Or.inr (okL_sub (l := [(w3.heap.size, some w4.heap.size, some 105)]) (l' := [(w3.heap.size, some w4.heap.size, some 105)]) ⟨(.inl ⟨by omega, by omega, rfl⟩), trivial⟩ ho)) ql2 (q2.mono fun _ _ ho => Or.inl ho)⟩) ⟨⟨.inl (nq rfl), trivial⟩, trivial⟩ ⟨rfl, rfl, rfl⟩ rfl rfl e3 rfl rfl rfl rfl rfl ?_
   intro w6 x5 Xx5 h23
   have sx5 := x5.size
   have h24 := h23.close.sub (l' := [(w.heap.size, some w2.heap.size, some 40)]) (li' := [(0, some w.heap.size, none), (w.heap.size, some w4.heap.size, some 105)]) ⟨(.inl ⟨by omega, by omega, rfl⟩), trivial⟩ ⟨(.inl ⟨by omega, by omega, trivial⟩), ⟨(.inr (.inl ⟨by omega, by omega, rfl⟩)), ⟨(.inr (.inl ⟨by omega, by omega, rfl⟩)), trivial⟩⟩⟩
   refine RW.tell 0 (v' := .slice A2 (lt0_0.set it8_0.toNat (⟨(rd lt0_0 it8_0).ID, (rd lt0_0 it8_0).Size, y2, (rd lt0_0 it8_0).Late⟩ : Device)).length c_2) (by simp only [List.length_set]) rfl (RW.tell 13 (v' := .slice A2 (lt0_0.set it8_0.toNat (⟨(rd lt0_0 it8_0).ID, (rd lt0_0 it8_0).Size, y2, (rd lt0_0 it8_0).Late⟩ : Device)).length c_2) (by simp only [List.length_set]) rfl ?_)
   obtain ⟨g4, H⟩ := guard_some H
   obtain ⟨ad4, A11, c_11, A12, c_12, e4, a4, l7, h25, l8, h26⟩ := kDeviceR_ato h24 g4.1 g4.2
   refine RW.ix tk g4 e4 ?_
   refine pu 1 rfl ?_
   have h27 := h18.tL x5
   refine RW.storeElX (y := (⟨(rd (lt0_0.set it8_0.toNat (⟨(rd lt0_0 it8_0).ID, (rd lt0_0 it8_0).Size, y2, (rd lt0_0 it8_0).Late⟩ : Device)) it8_0).ID, (rd (lt0_0.set it8_0.toNat (⟨(rd lt0_0 it8_0).ID, (rd lt0_0 it8_0).Size, y2, (rd lt0_0 it8_0).Late⟩ : Device)) it8_0).Size, (rd (lt0_0.set it8_0.toNat (⟨(rd lt0_0 it8_0).ID, (rd lt0_0 it8_0).Size, y2, (rd lt0_0 it8_0).Late⟩ : Device)) it8_0).Free, y3⟩ : Device)) (lv := [(w4.heap.size, some w5.heap.size, some 105)]) (k := 3) tk h24 (j := it8_0.toNat) (by have := g4; omega) default [.slice A8 y3.length c_8] (fun cs ok' hr => by obtain ⟨qa1, qc1, qa2, qc2, rfl, ql1, q1, ql2, q2⟩ := kDeviceR_open hr; exact ⟨by simp, kDeviceR_mk (⟨(rd (lt0_0.set it8_0.toNat (⟨(rd lt0_0 it8_0).ID, (rd lt0_0 it8_0).Size, y2, (rd lt0_0 it8_0).Late⟩ : Device)) it8_0).ID, (rd (lt0_0.set it8_0.toNat (⟨(rd lt0_0 it8_0).ID, (rd lt0_0 it8_0).Size, y2, (rd lt0_0 it8_0).Late⟩ : Device)) it8_0).Size, (rd (lt0_0.set it8_0.toNat (⟨(rd lt0_0 it8_0).ID, (rd lt0_0 it8_0).Size, y2, (rd lt0_0 it8_0).Late⟩ : Device)) it8_0).Free, y3⟩ : Device) ql1 (q1.mono fun _ _ ho => Or.inl ho) h27.len (Sl.mono h27.slL fun _ _ ho => Or.inr (okL_sub (l := [(w4.heap.size, some w5.heap.size, some 105)]) (l' := [(w4.heap.size, some w5.heap.size, some 105)]) ⟨(.inl ⟨by omega, by omega, rfl⟩), trivial⟩ ho))⟩) ⟨⟨.inl (nq rfl), trivial⟩, trivial⟩ ⟨rfl, rfl, rfl⟩ rfl rfl e4 rfl rfl rfl rfl rfl ?_
   intro w7 x6 Xx6 h28
   have sx6 := x6.size
   have h29 := h28.close.sub (l' := [(w.heap.size, some w2.heap.size, some 40)]) (li' := [(0, some w.heap.size, none), (w.heap.size, some w5.heap.size, some 105)]) ⟨(.inl ⟨by omega, by omega, rfl⟩), trivial⟩ ⟨(.inl ⟨by omega, by omega, trivial⟩), ⟨(.inr (.inl ⟨by omega, by omega, rfl⟩)), ⟨(.inr (.inl ⟨by omega, by omega, rfl⟩)), trivial⟩⟩⟩
   refine RW.tell 0 (v' := .slice A2 ((lt0_0.set it8_0.toNat (⟨(rd lt0_0 it8_0).ID, (rd lt0_0 it8_0).Size, y2, (rd lt0_0 it8_0).Late⟩ : Device)).set it8_0.toNat (⟨(rd (lt0_0.set it8_0.toNat (⟨(rd lt0_0 it8_0).ID, (rd lt0_0 it8_0).Size, y2, (rd lt0_0 it8_0).Late⟩ : Device)) it8_0).ID, (rd (lt0_0.set it8_0.toNat (⟨(rd lt0_0 it8_0).ID, (rd lt0_0 it8_0).Size, y2, (rd lt0_0 it8_0).Late⟩ : Device)) it8_0).Size, (rd (lt0_0.set it8_0.toNat (⟨(rd lt0_0 it8_0).ID, (rd lt0_0 it8_0).Size, y2, (rd lt0_0 it8_0).Late⟩ : Device)) it8_0).Free, y3⟩ : Device)).length c_2) (by simp only [List.length_set]) rfl (RW.done ?_)
   refine NW.norm_block (NW.next ?_)
   refine CW.lw 2 rfl (pu 2 rfl (RW.done ?_))
   have h30 := Ext.turn (Ext.turn (((x0_0.tr x2).tr x3).tr x4) x5 ⟨by omega, trivial⟩) x6 ⟨by omega, trivial⟩
   have hno : ∀ b, okL [(w.heap.size, none, some 105)] b (some 40) → False := fun b h => by rcases h with ⟨_, _, h⟩ | h; exact absurd h (show ¬ ((some 40 : Option TypeId) = some 105) by decide); exact h.elim
   have Xx5' : Laid kDeviceO _ _ _ _ _ 2 _ := Xx5
   have Xx6' : Laid kDeviceO _ _ _ _ _ 3 _ := Xx6
   have pt := ((((hpt.ext x2).ext x3).ext x4).store (y := (⟨(rd lt0_0 it8_0).ID, (rd lt0_0 it8_0).Size, y2, (rd lt0_0 it8_0).Late⟩ : Device)) x5 Xx5' (Nat.le_refl _) hno).store (y := (⟨(rd (lt0_0.set it8_0.toNat (⟨(rd lt0_0 it8_0).ID, (rd lt0_0 it8_0).Size, y2, (rd lt0_0 it8_0).Late⟩ : Device)) it8_0).ID, (rd (lt0_0.set it8_0.toNat (⟨(rd lt0_0 it8_0).ID, (rd lt0_0 it8_0).Size, y2, (rd lt0_0 it8_0).Late⟩ : Device)) it8_0).Size, (rd (lt0_0.set it8_0.toNat (⟨(rd lt0_0 it8_0).ID, (rd lt0_0 it8_0).Size, y2, (rd lt0_0 it8_0).Late⟩ : Device)) it8_0).Free, y3⟩ : Device)) x6 Xx6' (Nat.le_refl _) hno
   have at1 := ((((a1.ext x3).ext x4).here Xx5 (d := kDeviceR) e1 (Nat.le_of_ble_eq_true rfl)).here Xx6 (d := kDeviceR) e1 (Nat.le_of_ble_eq_true rfl))
   have q1 := ((h14.ext x4).tL x5).tL x6
   have q2 := (h18.tL x5).tL x6
   have lj : it8_0.toNat < lt0_0.length := by have := g1; omega
   have er : rd (lt0_0.set it8_0.toNat (⟨(rd lt0_0 it8_0).ID, (rd lt0_0 it8_0).Size, y2, (rd lt0_0 it8_0).Late⟩ : Device)) it8_0 = (⟨(rd lt0_0 it8_0).ID, (rd lt0_0 it8_0).Size, y2, (rd lt0_0 it8_0).Late⟩ : Device) := by unfold rd; rw [List.getD_eq_getElem?_getD, List.getElem?_set_self lj]; rfl
   have eg : ((lt0_0.set it8_0.toNat (⟨(rd lt0_0 it8_0).ID, (rd lt0_0 it8_0).Size, y2, (rd lt0_0 it8_0).Late⟩ : Device)).set it8_0.toNat (⟨(rd (lt0_0.set it8_0.toNat (⟨(rd lt0_0 it8_0).ID, (rd lt0_0 it8_0).Size, y2, (rd lt0_0 it8_0).Late⟩ : Device)) it8_0).ID, (rd (lt0_0.set it8_0.toNat (⟨(rd lt0_0 it8_0).ID, (rd lt0_0 it8_0).Size, y2, (rd lt0_0 it8_0).Late⟩ : Device)) it8_0).Size, (rd (lt0_0.set it8_0.toNat (⟨(rd lt0_0 it8_0).ID, (rd lt0_0 it8_0).Size, y2, (rd lt0_0 it8_0).Late⟩ : Device)) it8_0).Free, y3⟩ : Device)).getD it8_0.toNat default = (⟨(rd lt0_0 it8_0).ID, (rd lt0_0 it8_0).Size, y2, y3⟩ : Device) := by rw [List.getD_eq_getElem?_getD, List.getElem?_set_self (by rw [List.length_set]; exact lj), er]; rfl
   have rp : kDeviceO.rep w7.heap (okL [(w.heap.size, none, some 105)]) [iv (rd lt0_0 it8_0).ID, iv (rd lt0_0 it8_0).Size, .slice A7 y2.length c_7, .slice A8 y3.length c_8] (((lt0_0.set it8_0.toNat (⟨(rd lt0_0 it8_0).ID, (rd lt0_0 it8_0).Size, y2, (rd lt0_0 it8_0).Late⟩ : Device)).set it8_0.toNat (⟨(rd (lt0_0.set it8_0.toNat (⟨(rd lt0_0 it8_0).ID, (rd lt0_0 it8_0).Size, y2, (rd lt0_0 it8_0).Late⟩ : Device)) it8_0).ID, (rd (lt0_0.set it8_0.toNat (⟨(rd lt0_0 it8_0).ID, (rd lt0_0 it8_0).Size, y2, (rd lt0_0 it8_0).Late⟩ : Device)) it8_0).Size, (rd (lt0_0.set it8_0.toNat (⟨(rd lt0_0 it8_0).ID, (rd lt0_0 it8_0).Size, y2, (rd lt0_0 it8_0).Late⟩ : Device)) it8_0).Free, y3⟩ : Device)).getD it8_0.toNat default) := by rw [eg]; exact kDeviceO_mk (⟨(rd lt0_0 it8_0).ID, (rd lt0_0 it8_0).Size, y2, y3⟩ : Device) (q1.sub (l' := [(w.heap.size, none, some 105)]) (li' := [(w.heap.size, none, some 105)]) ⟨(.inl ⟨by omega, trivial, rfl⟩), trivial⟩ trivial) (q2.sub (l' := [(w.heap.size, none, some 105)]) (li' := [(w.heap.size, none, some 105)]) ⟨(.inl ⟨by omega, trivial, rfl⟩), trivial⟩ trivial)
   have sh := h6.short
   have ew : w64 (it8_0 + 1) = it8_0 + 1 := w64_id (by omega) (by simp only [maxLen] at sh; omega)
   exact NW.J fun a ha => ⟨n1, Nat.lt_succ_self n1, ((lt0_0.set it8_0.toNat (⟨(rd lt0_0 it8_0).ID, (rd lt0_0 it8_0).Size, y2, (rd lt0_0 it8_0).Late⟩ : Device)).set it8_0.toNat (⟨(rd (lt0_0.set it8_0.toNat (⟨(rd lt0_0 it8_0).ID, (rd lt0_0 it8_0).Size, y2, (rd lt0_0 it8_0).Late⟩ : Device)) it8_0).ID, (rd (lt0_0.set it8_0.toNat (⟨(rd lt0_0 it8_0).ID, (rd lt0_0 it8_0).Size, y2, (rd lt0_0 it8_0).Late⟩ : Device)) it8_0).Size, (rd (lt0_0.set it8_0.toNat (⟨(rd lt0_0 it8_0).ID, (rd lt0_0 it8_0).Size, y2, (rd lt0_0 it8_0).Late⟩ : Device)) it8_0).Free, y3⟩ : Device)), (w64 (it8_0 + 1)), ha.sb, by omega, (h29.sub ⟨(.inl ⟨by omega, trivial, rfl⟩), trivial⟩ ⟨(.inl ⟨by omega, by omega, trivial⟩), ⟨(.inr (.inl ⟨by omega, trivial, rfl⟩)), trivial⟩⟩), h30, (by (try simp only [List.length_set]) <;> omega), by simp only [List.length_set]; exact hln, by omega, (by rw [show (w64 (it8_0 + 1)).toNat = it8_0.toNat + 1 by omega]; exact pt.snoc e1 rp at1), H⟩
  rw [if_neg c1] at H
  refine CW.cond_f rfl (decide_eq_false c1) (CW.exit ?_)
  refine NW.exit_then (NW.exit_then (NW.exit_hit ?_))
  refine NW.next (CW.seq (CW.lw 2 rfl (pu 2 rfl (RW.done ?_))))
  refine NW.next (CW.ret ?_)
  obtain rfl := Option.some.inj H
  have hno : ∀ b, okL [(w.heap.size, none, some 105)] b (some 40) → False := fun b h => by rcases h with ⟨_, _, h⟩ | h; exact absurd h (show ¬ ((some 40 : Option TypeId) = some 105) by decide); exact h.elim
  exact NW.ret1 rfl (by rfl) ⟨A2, c_2, rfl, x0_0, ((h6.sub (l' := [(w.heap.size, none, some 40)]) (li' := [(0, some w.heap.size, none), (w.heap.size, none, some 105)]) ⟨(.inl ⟨by omega, trivial, rfl⟩), trivial⟩ ⟨(.inl ⟨by omega, by omega, trivial⟩), ⟨(.inr (.inl ⟨by omega, trivial, rfl⟩)), trivial⟩⟩).upgrade (d := kDeviceO) rfl hpt (by omega) hno)⟩
theorem slices_Clone_Table.calls (A1 : Option Addr) (c_1 : Nat) (p0 : List Table) (r : (List Table)) (w : World) {n0 : Nat} (hs1 : Sl kTableR w.heap (okL [(0, some n0, none)]) A1 p0) (hl1 : p0.length ≤ c_1) (hn0 : n0 ≤ w.heap.size) (H : slices_Clone_Table.f p0 = some r) :
    Calls Tryz.prog 85 #[.slice A1 p0.length c_1] w fun e w' => ∃ (B1 : Option Addr) (d1 : Nat), e = .returned (.slice B1 r.length d1) ∧ Ext w w' ∧ Ow kTableR 26 w'.heap (okL [(w.heap.size, none, some 26)]) (okL [(0, some n0, none), (w.heap.size, none, some 66)]) B1 d1 r := by
 have x0 : Ext w w := Upd.refl _ w
 unfold slices_Clone_Table.f at H
 refine calls_start Tryz.func85 rfl 8 rfl [.slice A1 p0.length c_1] rfl ?_
 refine CW.seq (CW.lw 1 rfl (pu 1 rfl (RW.done (NW.next ?_))))
 refine CW.seq (CW.seq (CW.lw 2 rfl (pu 1 rfl (RW.eqNil tk ⟨rfl, rfl, rfl, rfl⟩ rfl rfl rfl rfl rfl ?_))))
 refine RW.done (NW.next ?_)
 by_cases c1 : A1.isNone = true
 ·obtain rfl : p0 = [] := sl_none hs1 c1
  replace H : (some ([] : List Table)) = some r := by first | exact H | simpa using H
  refine CW.cond_t rfl (c1) (CW.seq (CW.lw 1 rfl (pu 1 rfl (RW.done ?_))))
  refine NW.next (CW.ret (NW.ret_then ?_))
  obtain rfl := Option.some.inj H
  exact NW.ret1 rfl (by rfl) ⟨none, 0, rfl, x0, Ow.nil⟩
 refine CW.cond_f rfl (bool_f c1) (CW.skip (NW.next (CW.seq (CW.lex [.X, .W, .M, .W] rfl ?_))))
 refine RW.buildSlice (cs := []) tk (.inl rfl) ⟨rfl, rfl, rfl, rfl⟩ rfl rfl rfl rfl rfl rfl rfl ?_
 intro b1 w1 x1 l1 h2
 have sx1 := x1.size
 have ltb1 := h2.lt
 refine pu 1 rfl ?_
 have h3 := hs1.ext x1
 obtain ⟨y1, h4, h5⟩ := Sl.ch h3
 obtain ⟨g1, H⟩ := guard_some H
 refine RW.appendL (d := kTableR) (l := []) (li := []) (ly := [(0, some n0, none)]) (xs := ([] : List Table)) (ys := p0) tk Ow.nil h4 h5 ⟨trivial, trivial⟩ (by simp only [maxLen]; omega) g1 ⟨rfl, rfl, rfl, rfl⟩ rfl rfl rfl rfl rfl rfl rfl rfl ?_
 intro A2 c_2 w2 x2 h6
 have sx2 := x2.size
 have h7 := h6.close.sub (l' := [(w1.heap.size, some w2.heap.size, some 26)]) (li' := [(0, some n0, none)]) ⟨(.inl ⟨by omega, by omega, rfl⟩), trivial⟩ ⟨(.inl ⟨by omega, by omega, trivial⟩), trivial⟩
 refine pu 1 rfl (RW.done (NW.next (CW.ret ?_)))
 obtain rfl := Option.some.inj H
 have h8 := Ext.turn (x0.tr x1) x2 trivial
 exact NW.ret1 rfl (by rfl) ⟨A2, c_2, rfl, h8, (h7.sub (l' := [(w.heap.size, none, some 26)]) (li' := [(0, some n0, none), (w.heap.size, none, some 66)]) ⟨(.inl ⟨by omega, trivial, rfl⟩), trivial⟩ ⟨(.inl ⟨by omega, by omega, trivial⟩), trivial⟩)⟩
theorem slices_Clone_Entry.calls (A1 : Option Addr) (c_1 : Nat) (p0 : List Entry) (r : (List Entry)) (w : World) (hs1 : Sl kEntry w.heap okAll A1 p0) (hl1 : p0.length ≤ c_1) (H : slices_Clone_Entry.f p0 = some r) :
    Calls Tryz.prog 124 #[.slice A1 p0.length c_1] w fun e w' => ∃ (B1 : Option Addr) (d1 : Nat), e = .returned (.slice B1 r.length d1) ∧ Ext w w' ∧ Ow kEntry 66 w'.heap (okL [(w.heap.size, none, some 66)]) (okL []) B1 d1 r := by
 have h1 : Sl kEntry w.heap (okL [(0, some w.heap.size, none)]) A1 p0 := hs1.old _ rfl
 have x0 : Ext w w := Upd.refl _ w
 unfold slices_Clone_Entry.f at H
 refine calls_start Tryz.func124 rfl 8 rfl [.slice A1 p0.length c_1] rfl ?_
 refine CW.seq (CW.lw 1 rfl (pu 1 rfl (RW.done (NW.next ?_))))
 refine CW.seq (CW.seq (CW.lw 2 rfl (pu 1 rfl (RW.eqNil tk ⟨rfl, rfl, rfl, rfl⟩ rfl rfl rfl rfl rfl ?_))))
 refine RW.done (NW.next ?_)
 by_cases c1 : A1.isNone = true
 ·obtain rfl : p0 = [] := sl_none h1 c1
  replace H : (some ([] : List Entry)) = some r := by first | exact H | simpa using H
  refine CW.cond_t rfl (c1) (CW.seq (CW.lw 1 rfl (pu 1 rfl (RW.done ?_))))
  refine NW.next (CW.ret (NW.ret_then ?_))
  obtain rfl := Option.some.inj H
  exact NW.ret1 rfl (by rfl) ⟨none, 0, rfl, x0, Ow.nil⟩
 refine CW.cond_f rfl (bool_f c1) (CW.skip (NW.next (CW.seq (CW.lex [.X, .W, .M, .W] rfl ?_))))
 refine RW.buildSlice (cs := []) tk (.inl rfl) ⟨rfl, rfl, rfl, rfl⟩ rfl rfl rfl rfl rfl rfl rfl ?_
 intro b1 w1 x1 l1 h2
 have sx1 := x1.size
 have ltb1 := h2.lt
 refine pu 1 rfl ?_
 have h3 := h1.ext x1
 obtain ⟨y1, h4, h5⟩ := Sl.ch h3
 have h6 := h4.flat (h' := w1.heap) (ok' := okL []) fun e => e
 obtain ⟨g1, H⟩ := guard_some H
 refine RW.appendL (d := kEntry) (l := []) (li := []) (ly := []) (xs := ([] : List Entry)) (ys := p0) tk Ow.nil h6 h5 trivial (by simp only [maxLen]; omega) g1 ⟨rfl, rfl, rfl, rfl⟩ rfl rfl rfl rfl rfl rfl rfl rfl ?_
 intro A2 c_2 w2 x2 h7
 have sx2 := x2.size
 have h8 := h7.close.sub (l' := [(w1.heap.size, some w2.heap.size, some 66)]) (li' := []) ⟨(.inl ⟨by omega, by omega, rfl⟩), trivial⟩ trivial
 refine pu 1 rfl (RW.done (NW.next (CW.ret ?_)))
 obtain rfl := Option.some.inj H
 have h9 := Ext.turn (x0.tr x1) x2 trivial
 exact NW.ret1 rfl (by rfl) ⟨A2, c_2, rfl, h9, (h8.sub (l' := [(w.heap.size, none, some 66)]) (li' := []) ⟨(.inl ⟨by omega, trivial, rfl⟩), trivial⟩ trivial)⟩
theorem table_Own.calls (p0 : Table) (A1 : Option Addr) (c_1 : Nat) (r : Table) (w : World) (hs1 : Sl kEntry w.heap okAll A1 p0.List_) (hl1 : p0.List_.length ≤ c_1) (H : table_Own.f p0 = some r) :
    Calls Tryz.prog 86 #[.agg #[iv p0.Dev, iv p0.Size, .slice A1 p0.List_.length c_1]] w fun e w' => ∃ (B1 : Option Addr) (d1 : Nat), e = .returned (.agg #[iv r.Dev, iv r.Size, .slice B1 r.List_.length d1]) ∧ Ext w w' ∧ Ow kEntry 66 w'.heap (okL [(w.heap.size, none, some 66)]) (okL []) B1 d1 r.List_ := by
 have h1 : Sl kEntry w.heap (okL [(0, some w.heap.size, none)]) A1 p0.List_ := hs1.old _ rfl
 have x0 : Ext w w := Upd.refl _ w
 unfold table_Own.f at H
 refine calls_start Tryz.func86 rfl 8 rfl [.agg #[iv p0.Dev, iv p0.Size, .slice A1 p0.List_.length c_1]] rfl ?_
 refine CW.seq (CW.lex [.X, .X] rfl (RW.box (cs := [iv p0.Dev, iv p0.Size, .slice A1 p0.List_.length c_1]) (.inl rfl) ⟨rfl, rfl, rfl, rfl⟩ rfl rfl rfl ?_))
 intro b1 w1 x1 l1 h2
 have sx1 := x1.size
 have ltb1 := h2.lt
 refine RW.alloc tk (.inl rfl) ⟨rfl, rfl, rfl, rfl⟩ rfl rfl ?_
 intro b2 w2 x2 l2 h3
 have sx2 := x2.size
 have ltb2 := h3.lt
 refine RW.done (NW.next (CW.seq (CW.lex [.W, .L, .X, .W, .M] rfl (pu 1 rfl ?_))))
 have h4 := h2.ext x2
 refine RW.ld tk [.slice A1 p0.List_.length c_1] (h4.at 2) ?_
 have h5 := (h1.ext x1).ext x2
 obtain ⟨y1, h6, H⟩ := bind_some H
 refine RW.cl ent124 (slices_Clone_Entry.calls A1 c_1 p0.List_ _ _ h5.all hl1 h6) ?_
 rintro _ w3 ⟨A2, c_2, rfl, x3, h7⟩
 refine ⟨_, rfl, x3, ?_⟩
 have sx3 := x3.size
 have h8 : Ow kEntry 66 w3.heap (okL [(w2.heap.size, some w3.heap.size, some 66)]) (okL []) A2 c_2 y1 := h7.close
 refine pu 1 rfl ?_
 have h9 := h4.ext x3
 refine RW.sb tk h9 [.slice A2 y1.length c_2] ?_
 intro w4 x4 h10
 have h11 : Box w4.heap b1 26 [iv p0.Dev, iv p0.Size, .slice A2 y1.length c_2] := h10
 have sx4 := x4.size
 refine RW.done (NW.next (CW.seq (CW.lex [.L, .M] rfl (RW.ld tk [iv p0.Dev, iv p0.Size, .slice A2 y1.length c_2] (h11.at 0) ?_))))
 have h12 := (h3.ext x3).tB x4
 refine RW.sb tk h12 [iv p0.Dev, iv p0.Size, .slice A2 y1.length c_2] ?_
 intro w5 x5 h13
 have h14 : Box w5.heap b2 26 [iv p0.Dev, iv p0.Size, .slice A2 y1.length c_2] := h13
 have sx5 := x5.size
 refine RW.done (NW.next (CW.ret ?_))
 have h15 := (h8.tB x4 h9).tB x5 h12
 obtain rfl := Option.some.inj H
 have h16 := ((((x0.tr x1).tr x2).tr x3).tB x4).tB x5
 exact NW.ret1 rfl (resOne_cell tk (h14.at 0) rfl rfl rfl) ⟨A2, c_2, rfl, h16, (h15.sub (l' := [(w.heap.size, none, some 66)]) (li' := []) ⟨(.inl ⟨by omega, trivial, rfl⟩), trivial⟩ trivial)⟩
theorem chain_Own.calls (k : Nat) (p0 : Pool) (A1 : Option Addr) (c_1 : Nat) (A2 : Option Addr) (c_2 : Nat) (A3 : Option Addr) (c_3 : Nat) (r : Pool) (w : World) (hs1 : Sl kDeviceR w.heap okAll A1 p0.Devices) (hl1 : p0.Devices.length ≤ c_1) (hs2 : Sl kTableR w.heap okAll A2 p0.Tables) (hl2 : p0.Tables.length ≤ c_2) (hs3 : Sl kEntry w.heap okAll A3 p0.Job.Table.List_) (hl3 : p0.Job.Table.List_.length ≤ c_3) (H : chain_Own.f k p0 = some r) :
    Calls Tryz.prog 54 #[.agg #[.slice A1 p0.Devices.length c_1, .slice A2 p0.Tables.length c_2, iv p0.Job.Dev, iv p0.Job.At, iv p0.Job.Table.Dev, iv p0.Job.Table.Size, .slice A3 p0.Job.Table.List_.length c_3, iv p0.Next]] w fun e w' => ∃ (m : Nat) (B1 : Option Addr) (d1 : Nat) (B2 : Option Addr) (d2 : Nat) (B3 : Option Addr) (d3 : Nat), e = .returned (.agg #[.slice B1 r.Devices.length d1, .slice B2 r.Tables.length d2, iv r.Job.Dev, iv r.Job.At, iv r.Job.Table.Dev, iv r.Job.Table.Size, .slice B3 r.Job.Table.List_.length d3, iv r.Next]) ∧ Ext w w' ∧ w.heap.size ≤ m ∧ m ≤ w'.heap.size ∧ Ow kDeviceO 40 w'.heap (okL [(w.heap.size, none, some 40)]) (okL [(w.heap.size, none, some 105)]) B1 d1 r.Devices ∧ Ow kTableO 26 w'.heap (okL [(w.heap.size, none, some 26)]) (okL [(m, none, some 66)]) B2 d2 r.Tables ∧ Ow kEntry 66 w'.heap (okL [(w.heap.size, some m, some 66)]) (okL []) B3 d3 r.Job.Table.List_ := by
 have h1 : Sl kDeviceR w.heap (okL [(0, some w.heap.size, none)]) A1 p0.Devices := hs1.old _ rfl
 have h2 : Sl kTableR w.heap (okL [(0, some w.heap.size, none)]) A2 p0.Tables := hs2.old _ rfl
 have h3 : Sl kEntry w.heap (okL [(0, some w.heap.size, none)]) A3 p0.Job.Table.List_ := hs3.old _ rfl
 have x0 : Ext w w := Upd.refl _ w
 unfold chain_Own.f at H
 refine calls_start Tryz.func54 rfl 36 rfl [.agg #[.slice A1 p0.Devices.length c_1, .slice A2 p0.Tables.length c_2, iv p0.Job.Dev, iv p0.Job.At, iv p0.Job.Table.Dev, iv p0.Job.Table.Size, .slice A3 p0.Job.Table.List_.length c_3, iv p0.Next]] rfl ?_
 refine CW.seq (CW.lex [.X, .X] rfl (RW.box (cs := [.slice A1 p0.Devices.length c_1, .slice A2 p0.Tables.length c_2, iv p0.Job.Dev, iv p0.Job.At, iv p0.Job.Table.Dev, iv p0.Job.Table.Size, .slice A3 p0.Job.Table.List_.length c_3, iv p0.Next]) (.inl rfl) ⟨rfl, rfl, rfl, rfl⟩ rfl rfl rfl ?_))
 intro b1 w1 x1 l1 h4
 have sx1 := x1.size
 have ltb1 := h4.lt
 refine RW.alloc tk (.inl rfl) ⟨rfl, rfl, rfl, rfl⟩ rfl rfl ?_
 intro b2 w2 x2 l2 h5
 have sx2 := x2.size
 have ltb2 := h5.lt
 refine RW.done (NW.next (CW.seq (CW.ord [0, 1, 3, 0, 8, 31, 0, 64, 192, 511, 479, 2047, 4095, 8191, 16383, 32767, 65535] (ofL [(0, .W), (3, .W), (6, .W), (7, .W), (1, .L), (4, .L), (8, .L), (2, .X), (10, .W), (5, .X), (9, .X), (11, .M), (12, .W), (13, .M), (14, .W), (15, .W), (16, .M)] .nil) mixed (by kernel_rfl) ?_)))
 intro w3 x3
 have sx3 := x3.size
 refine pu 4 rfl ?_
 have h6 := (h4.ext x2).ext x3
 refine RW.lb tk [.slice A1 p0.Devices.length c_1] h6 0 ?_
 refine RW.lb tk [.slice A2 p0.Tables.length c_2] h6 1 ?_
 refine RW.lb tk [iv p0.Job.Table.Dev, iv p0.Job.Table.Size, .slice A3 p0.Job.Table.List_.length c_3] h6 4 ?_
 have h7 := ((h1.ext x1).ext x2).ext x3
 obtain ⟨y1, h8, H⟩ := bind_some H
 refine RW.cl ent84 (room_Own.calls k A1 c_1 p0.Devices _ _ h7.all hl1 h8) ?_
 rintro _ w4 ⟨A4, c_4, rfl, x4, h9⟩
 refine ⟨_, rfl, x4, ?_⟩
 have sx4 := x4.size
 have h10 : Ow kDeviceO 40 w4.heap (okL [(w3.heap.size, some w4.heap.size, some 40)]) (okL [(w3.heap.size, some w4.heap.size, some 105)]) A4 c_4 y1 := h9.close
 refine pu 1 rfl ?_
 have h11 := (((h2.ext x1).ext x2).ext x3).ext x4
 obtain ⟨y2, h12, H⟩ := bind_some H
 refine RW.cl ent85 (slices_Clone_Table.calls A2 c_2 p0.Tables _ _ h11 hl2 (by omega) h12) ?_
 rintro _ w5 ⟨A5, c_5, rfl, x5, h13⟩
 refine ⟨_, rfl, x5, ?_⟩
 have sx5 := x5.size
 have h14 : Ow kTableR 26 w5.heap (okL [(w4.heap.size, some w5.heap.size, some 26)]) (okL [(0, some w.heap.size, none), (w4.heap.size, some w5.heap.size, some 66)]) A5 c_5 y2 := h13.close
 have h15 := ((((h3.ext x1).ext x2).ext x3).ext x4).ext x5
 obtain ⟨y3, h16, H⟩ := bind_some H
 refine RW.cl ent86 (table_Own.calls p0.Job.Table A3 c_3 _ _ h15.all hl3 h16) ?_
 rintro _ w6 ⟨A6, c_6, rfl, x6, h17⟩
 refine ⟨_, rfl, x6, ?_⟩
 have sx6 := x6.size
 have h18 : Ow kEntry 66 w6.heap (okL [(w5.heap.size, some w6.heap.size, some 66)]) (okL []) A6 c_6 y3.List_ := h17.close
 have h19 := ((h6.ext x4).ext x5).ext x6
 refine RW.sb tk h19 [.slice A4 y1.length c_4] ?_
 intro w7 x7 h20
 have h21 : Box w7.heap b1 30 [.slice A4 y1.length c_4, .slice A2 p0.Tables.length c_2, iv p0.Job.Dev, iv p0.Job.At, iv p0.Job.Table.Dev, iv p0.Job.Table.Size, .slice A3 p0.Job.Table.List_.length c_3, iv p0.Next] := h20
 have sx7 := x7.size
 refine pu 1 rfl (RW.sb tk h21 [.slice A5 y2.length c_5] ?_)
 intro w8 x8 h22
 have h23 : Box w8.heap b1 30 [.slice A4 y1.length c_4, .slice A5 y2.length c_5, iv p0.Job.Dev, iv p0.Job.At, iv p0.Job.Table.Dev, iv p0.Job.Table.Size, .slice A3 p0.Job.Table.List_.length c_3, iv p0.Next] := h22
 have sx8 := x8.size
 refine pu 2 rfl (RW.sb tk h23 [iv y3.Dev, iv y3.Size, .slice A6 y3.List_.length c_6] ?_)
 intro w9 x9 h24
 have h25 : Box w9.heap b1 30 [.slice A4 y1.length c_4, .slice A5 y2.length c_5, iv p0.Job.Dev, iv p0.Job.At, iv y3.Dev, iv y3.Size, .slice A6 y3.List_.length c_6, iv p0.Next] := h24
 have sx9 := x9.size
 refine RW.done (NW.next (CW.seq (CW.seq (CW.lex [.W, .L, .W, .W] rfl ?_))))
 refine pu 1 rfl (RW.lb tk [.slice A5 y2.length c_5] h25 1 ?_)
 refine pu 2 rfl (RW.done (NW.next (CW.block ?_)))
 refine CW.loop (fun n1 a w10 => ∃ (it21_0 : Int) (lb1_1_0 : List Table) (Ab1_1_0 : Option Addr) (cb1_1_0 : Nat), Sat 36 [(1, .pointer (some ⟨b1, 0, none⟩)), (2, .pointer (some ⟨b2, 0, none⟩)), (20, iv (y2.length : Int)), (21, iv it21_0)] a ∧ w9.heap.size ≤ w10.heap.size ∧ Ow kTableR 26 w10.heap (okL [(w4.heap.size, none, some 26)]) (okL [(0, some w.heap.size, none), (w4.heap.size, none, some 66)]) Ab1_1_0 cb1_1_0 lb1_1_0 ∧ Ow kDeviceO 40 w10.heap (okL [(w3.heap.size, some w4.heap.size, some 40)]) (okL [(w3.heap.size, some w4.heap.size, some 105)]) A4 c_4 y1 ∧ Ow kEntry 66 w10.heap (okL [(w5.heap.size, some w6.heap.size, some 66)]) (okL []) A6 c_6 y3.List_ ∧ Ext w w10 ∧ Box w10.heap b1 30 [.slice A4 y1.length c_4, .slice Ab1_1_0 lb1_1_0.length cb1_1_0, iv p0.Job.Dev, iv p0.Job.At, iv y3.Dev, iv y3.Size, .slice A6 y3.List_.length c_6, iv p0.Next] ∧ Box w10.heap b2 30 [.slice none 0 0, .slice none 0 0, iv 0, iv 0, iv 0, iv 0, .slice none 0 0, iv 0] ∧ lb1_1_0.length = y2.length ∧ 0 ≤ it21_0 ∧ OwPart kTableO w10.heap (okL [(w9.heap.size, none, some 66)]) Ab1_1_0 lb1_1_0 default it21_0.toNat ∧ chain_Own.l0 p0 y1 y2 y3 n1 it21_0 lb1_1_0 = some r) k ?_ ?_
 have h26 := (((h14.ext x6).turnB x7 h19 ⟨.inl (nq rfl), trivial⟩ ⟨.inr (by omega), ⟨.inl (nq rfl), trivial⟩⟩).turnB x8 h21 ⟨.inl (nq rfl), trivial⟩ ⟨.inr (by omega), ⟨.inl (nq rfl), trivial⟩⟩).turnB x9 h23 ⟨.inl (nq rfl), trivial⟩ ⟨.inr (by omega), ⟨.inl (nq rfl), trivial⟩⟩
 have h27 := ((((h10.ext x5).ext x6).tB x7 h19).tB x8 h21).tB x9 h23
 have h28 := ((h18.tB x7 h19).tB x8 h21).tB x9 h23
 have h29 := ((((((((x0.tr x1).tr x2).tr x3).tr x4).tr x5).tr x6).tB x7).tB x8).tB x9
 have h30 := ((((((h5.ext x3).ext x4).ext x5).ext x6).tB x7).tB x8).tB x9
 ·exact fun a ha => ⟨0, y2, A5, c_5, ha.sb, by omega, (h26.sub ⟨(.inl ⟨by omega, trivial, rfl⟩), trivial⟩ ⟨(.inl ⟨by omega, by omega, trivial⟩), ⟨(.inr (.inl ⟨by omega, trivial, rfl⟩)), trivial⟩⟩), h27, h28, h29, h25, h30, rfl, Int.le_refl 0, OwPart.zero, H⟩
 intro n1 a w10 hI hp
 obtain ⟨it21_0, lb1_1_0, Ab1_1_0, cb1_1_0, hS, hle, fb1_1_0, gF4_0, gF6_0, x0_0, gb1_0, gb2_0, hln, hi0, hpt, H⟩ := hI
 cases n1 with
 | zero => cases H
 | succ n1 =>
  rw [chain_Own.l0] at H
  refine CW.go hp hS ?_
  have h31 : Ow kTableR 26 w10.heap (okL [(w4.heap.size, some w10.heap.size, some 26)]) (okL [(0, some w.heap.size, none), (w4.heap.size, some w10.heap.size, some 66)]) Ab1_1_0 cb1_1_0 lb1_1_0 := fb1_1_0.close
  have xt1 : Ext w10 w10 := Upd.refl _ _
  refine CW.seq (CW.lw 1 rfl (pu 1 rfl (RW.done (NW.next ?_))))
  refine CW.seq ?_
  by_cases c1 : it21_0 < (y2.length : Int)
  ·rw [if_pos c1] at H
   refine CW.cond_t rfl (decide_eq_true c1) (CW.skip (NW.next (CW.seq (CW.block ?_))))
   refine CW.seq (CW.lw 2 rfl (pu 2 rfl (RW.done (NW.next ?_))))
   refine CW.ord [0, 1, 0, 0, 8, 0, 56, 120, 248, 511, 1023] (ofL [(0, .W), (2, .W), (3, .W), (5, .W), (1, .L), (4, .L), (6, .W), (7, .L), (8, .X), (9, .W), (10, .M)] .nil) mixed (by kernel_rfl) ?_
   intro w11 x10
   have sx10 := x10.size
   refine pu 4 rfl ?_
   have h32 := gb1_0.ext x10
   refine RW.lb tk [.slice Ab1_1_0 lb1_1_0.length cb1_1_0] h32 1 ?_
   refine RW.lb tk [.slice Ab1_1_0 lb1_1_0.length cb1_1_0] h32 1 ?_
   obtain ⟨g1, H⟩ := guard_some H
   have h33 := h31.ext x10
   obtain ⟨ad1, A7, c_7, e1, a1, l3, h34⟩ := kTableR_ato h33 g1.1 g1.2
   refine RW.ix tk g1 e1 ?_
   refine RW.ld tk [iv ((rd lb1_1_0 it21_0).Dev), iv ((rd lb1_1_0 it21_0).Size), .slice A7 ((rd lb1_1_0 it21_0).List_).length c_7] a1 ?_
   obtain ⟨y4, h35, H⟩ := bind_some H
   refine RW.cl ent86 (table_Own.calls (rd lb1_1_0 it21_0) A7 c_7 _ _ h34.all l3 h35) ?_
   rintro _ w12 ⟨A8, c_8, rfl, x11, h36⟩
   refine ⟨_, rfl, x11, ?_⟩
   have sx11 := x11.size
   have h37 : Ow kEntry 66 w12.heap (okL [(w11.heap.size, some w12.heap.size, some 66)]) (okL []) A8 c_8 y4.List_ := h36.close
   obtain ⟨g2, H⟩ := guard_some H
   have h38 := h33.ext x11
   obtain ⟨ad2, A9, c_9, e2, a2, l4, h39⟩ := kTableR_ato h38 g2.1 g2.2
   refine RW.ix tk g2 e2 ?_
   refine RW.storeElX0 (y := y4) (lv := [(w11.heap.size, some w12.heap.size, some 66)]) tk h38 (j := it21_0.toNat) (by have := g2; omega) default [iv y4.Dev, iv y4.Size, .slice A8 y4.List_.length c_8] (fun cs ok' hr => by obtain ⟨qa1, qc1, rfl, ql1, q1⟩ := kTableR_open hr; exact ⟨by simp, kTableR_mk y4 h37.len (Sl.mono h37.slL fun _ _ ho => Or.inr (okL_sub (l := [(w11.heap.size, some w12.heap.size, some 66)]) (l' := [(w11.heap.size, some w12.heap.size, some 66)]) ⟨(.inl ⟨by omega, by omega, rfl⟩), trivial⟩ ho))⟩) ⟨⟨.inl (nq rfl), trivial⟩, trivial⟩ ⟨rfl, rfl, rfl⟩ rfl rfl e2 rfl rfl rfl rfl rfl ?_
   intro w13 x12 Xx12 h40
   have sx12 := x12.size
   have h41 := h40.close.sub (l' := [(w4.heap.size, some w10.heap.size, some 26)]) (li' := [(0, some w.heap.size, none), (w4.heap.size, some w12.heap.size, some 66)]) ⟨(.inl ⟨by omega, by omega, rfl⟩), trivial⟩ ⟨(.inl ⟨by omega, by omega, trivial⟩), ⟨(.inr (.inl ⟨by omega, by omega, rfl⟩)), ⟨(.inr (.inl ⟨by omega, by omega, rfl⟩)), trivial⟩⟩⟩
   have h42 := (h32.ext x11).tL x12
   have h43 : Box w13.heap b1 30 [.slice A4 y1.length c_4, .slice Ab1_1_0 (lb1_1_0.set it21_0.toNat y4).length cb1_1_0, iv p0.Job.Dev, iv p0.Job.At, iv y3.Dev, iv y3.Size, .slice A6 y3.List_.length c_6, iv p0.Next] := by simpa only [List.length_set] using h42
   refine RW.done ?_
   refine NW.norm_block (NW.next ?_)
   refine CW.lw 2 rfl (pu 2 rfl (RW.done ?_))
   have h44 := ((gF4_0.ext x10).ext x11).tL x12
   have h45 := ((gF6_0.ext x10).ext x11).tL x12
   have h46 := Ext.turn ((x0_0.tr x10).tr x11) x12 ⟨by omega, trivial⟩
   have h47 := ((gb2_0.ext x10).ext x11).tL x12
   have hno : ∀ b, okL [(w9.heap.size, none, some 66)] b (some 26) → False := fun b h => by rcases h with ⟨_, _, h⟩ | h; exact absurd h (show ¬ ((some 26 : Option TypeId) = some 66) by decide); exact h.elim
   have Xx12' : Laid kTableO _ _ _ _ _ 0 _ := Xx12
   have pt := ((hpt.ext x10).ext x11).store (y := y4) x12 Xx12' (Nat.le_refl _) hno
   have at1 := a2.here Xx12 (d := kTableR) e2 (Nat.le_of_ble_eq_true rfl)
   have q1 := h37.tL x12
   have lj : it21_0.toNat < lb1_1_0.length := by have := g1; omega
   have eg : (lb1_1_0.set it21_0.toNat y4).getD it21_0.toNat default = y4 := by rw [List.getD_eq_getElem?_getD, List.getElem?_set_self lj]; rfl
   have rp : kTableO.rep w13.heap (okL [(w9.heap.size, none, some 66)]) [iv y4.Dev, iv y4.Size, .slice A8 y4.List_.length c_8] ((lb1_1_0.set it21_0.toNat y4).getD it21_0.toNat default) := by rw [eg]; exact kTableO_mk y4 (q1.sub (l' := [(w9.heap.size, none, some 66)]) (li' := [(w9.heap.size, none, some 66)]) ⟨(.inl ⟨by omega, trivial, rfl⟩), trivial⟩ trivial)
   have sh := h31.short
   have ew : w64 (it21_0 + 1) = it21_0 + 1 := w64_id (by omega) (by simp only [maxLen] at sh; omega)
   exact NW.J fun a ha => ⟨n1, Nat.lt_succ_self n1, (w64 (it21_0 + 1)), (lb1_1_0.set it21_0.toNat y4), Ab1_1_0, cb1_1_0, ha.sb, by omega, (h41.sub ⟨(.inl ⟨by omega, trivial, rfl⟩), trivial⟩ ⟨(.inl ⟨by omega, by omega, trivial⟩), ⟨(.inr (.inl ⟨by omega, trivial, rfl⟩)), trivial⟩⟩), h44, h45, h46, h43, h47, by simp only [List.length_set]; exact hln, by omega, (by rw [show (w64 (it21_0 + 1)).toNat = it21_0.toNat + 1 by omega]; exact pt.snoc e2 rp at1), H⟩
  rw [if_neg c1] at H
  refine CW.cond_f rfl (decide_eq_false c1) ?_
  have hno : ∀ b, okL [(w9.heap.size, none, some 66)] b (some 26) → False := fun b h => by rcases h with ⟨_, _, h⟩ | h; exact absurd h (show ¬ ((some 26 : Option TypeId) = some 66) by decide); exact h.elim
  have hU : Ow kTableO 26 w10.heap (okL [(w.heap.size, none, some 26)]) (okL [(w9.heap.size, none, some 66)]) Ab1_1_0 cb1_1_0 lb1_1_0 := (h31.upgrade (d := kTableO) rfl hpt (by omega) hno).sub ⟨(.inl ⟨by omega, trivial, rfl⟩), trivial⟩ ⟨(.inl ⟨by omega, trivial, rfl⟩), trivial⟩
  refine CW.exit ?_
  refine NW.exit_then (NW.exit_then (NW.exit_hit ?_))
  refine NW.next (CW.seq (CW.lex [.L, .M] rfl (RW.ld tk [.slice A4 y1.length c_4, .slice Ab1_1_0 lb1_1_0.length cb1_1_0, iv p0.Job.Dev, iv p0.Job.At, iv y3.Dev, iv y3.Size, .slice A6 y3.List_.length c_6, iv p0.Next] (gb1_0.at 0) ?_)))
  refine RW.sb tk gb2_0 [.slice A4 y1.length c_4, .slice Ab1_1_0 lb1_1_0.length cb1_1_0, iv p0.Job.Dev, iv p0.Job.At, iv y3.Dev, iv y3.Size, .slice A6 y3.List_.length c_6, iv p0.Next] ?_
  intro w14 x13 h48
  have h49 : Box w14.heap b2 30 [.slice A4 y1.length c_4, .slice Ab1_1_0 lb1_1_0.length cb1_1_0, iv p0.Job.Dev, iv p0.Job.At, iv y3.Dev, iv y3.Size, .slice A6 y3.List_.length c_6, iv p0.Next] := h48
  have sx13 := x13.size
  refine RW.done (NW.next (CW.ret ?_))
  have h50 := gF4_0.tB x13 gb2_0
  have h51 := hU.tB x13 gb2_0
  have h52 := gF6_0.tB x13 gb2_0
  obtain rfl := Option.some.inj H
  have h53 := x0_0.tB x13
  exact NW.ret1 rfl (resOne_cell tk (h49.at 0) rfl rfl rfl) ⟨w9.heap.size, A4, c_4, Ab1_1_0, cb1_1_0, A6, c_6, rfl, h53, by omega, by omega, (h50.sub (l' := [(w.heap.size, none, some 40)]) (li' := [(w.heap.size, none, some 105)]) ⟨(.inl ⟨by omega, trivial, rfl⟩), trivial⟩ ⟨(.inl ⟨by omega, trivial, rfl⟩), trivial⟩), h51, (h52.sub (l' := [(w.heap.size, some w9.heap.size, some 66)]) (li' := []) ⟨(.inl ⟨by omega, by omega, rfl⟩), trivial⟩ trivial)⟩
theorem room_Busy.calls (k : Nat) (p0 : Device) (A1 : Option Addr) (c_1 : Nat) (A2 : Option Addr) (c_2 : Nat) (r : Int) (w : World) (hs1 : Sl kSeg w.heap okAll A1 p0.Free) (hl1 : p0.Free.length ≤ c_1) (hs2 : Sl kSeg w.heap okAll A2 p0.Late) (hl2 : p0.Late.length ≤ c_2) (H : room_Busy.f k p0 = some r) :
    Calls Tryz.prog 33 #[.agg #[iv p0.ID, iv p0.Size, .slice A1 p0.Free.length c_1, .slice A2 p0.Late.length c_2]] w fun e w' => e = .returned (.int .u64 r) ∧ Ext w w' := by
 have h1 : Sl kSeg w.heap (okL [(0, some w.heap.size, none)]) A1 p0.Free := hs1.old _ rfl
 have h2 : Sl kSeg w.heap (okL [(0, some w.heap.size, none)]) A2 p0.Late := hs2.old _ rfl
 have x0 : Ext w w := Upd.refl _ w
 unfold room_Busy.f at H
 refine calls_start Tryz.func33 rfl 14 rfl [.agg #[iv p0.ID, iv p0.Size, .slice A1 p0.Free.length c_1, .slice A2 p0.Late.length c_2]] rfl ?_
 refine CW.seq (CW.lex [.X, .W] rfl (RW.box (cs := [iv p0.ID, iv p0.Size, .slice A1 p0.Free.length c_1, .slice A2 p0.Late.length c_2]) (.inl rfl) ⟨rfl, rfl, rfl, rfl⟩ rfl rfl rfl ?_))
 intro b1 w1 x1 l1 h3
 have sx1 := x1.size
 have ltb1 := h3.lt
 refine pu 1 rfl (RW.done (NW.next (CW.seq (CW.ord [0, 1, 3, 0, 8, 31, 0, 64, 255, 511, 1023, 2047] (ofL [(0, .W), (3, .W), (6, .W), (1, .L), (4, .L), (7, .L), (2, .X), (5, .X), (8, .X), (9, .W), (10, .W), (11, .W)] .nil) mixed (by kernel_rfl) ?_))))
 intro w2 x2
 have sx2 := x2.size
 refine pu 3 rfl ?_
 have h4 := h3.ext x2
 refine RW.lb tk [iv p0.Size] h4 1 ?_
 refine RW.lb tk [.slice A1 p0.Free.length c_1] h4 2 ?_
 refine RW.ld tk [.slice A2 p0.Late.length c_2] (h4.at 3) ?_
 obtain ⟨y1, h5, H⟩ := bind_some H
 refine RW.cl ent39 (seg_To.calls p0.Size _ _ h5) ?_
 rintro _ w3 ⟨rfl, x3⟩
 refine ⟨_, rfl, x3, ?_⟩
 have sx3 := x3.size
 have h6 := ((h1.ext x1).ext x2).ext x3
 obtain ⟨y2, h7, H⟩ := bind_some H
 refine RW.cl ent57 (seg_Make.calls k A1 c_1 p0.Free _ _ h6.all hl1 h7) ?_
 rintro _ w4 ⟨rfl, x4⟩
 refine ⟨_, rfl, x4, ?_⟩
 have sx4 := x4.size
 have h8 := (((h2.ext x1).ext x2).ext x3).ext x4
 obtain ⟨y3, h9, H⟩ := bind_some H
 refine RW.cl ent57 (seg_Make.calls k A2 c_2 p0.Late _ _ h8.all hl2 h9) ?_
 rintro _ w5 ⟨rfl, x5⟩
 refine ⟨_, rfl, x5, ?_⟩
 have sx5 := x5.size
 refine pu 3 rfl (RW.done (NW.next (CW.ret ?_)))
 obtain rfl := Option.some.inj H
 have h10 := ((((x0.tr x1).tr x2).tr x3).tr x4).tr x5
 exact NW.ret1 rfl (by rfl) ⟨rfl, h10⟩
theorem math_bits_OnesCount64.calls (p0 : Int) (r : Int) (w : World) (H : math_bits_OnesCount64.f p0 = some r) :
    Calls Tryz.prog 58 #[.int .u64 p0] w fun e w' => e = .returned (iv r) ∧ Ext w w' := by
 have x0 : Ext w w := Upd.refl _ w
 unfold math_bits_OnesCount64.f at H
 refine calls_start Tryz.func58 rfl 35 rfl [.int .u64 p0] rfl ?_
 refine CW.seq (CW.lw 1 rfl (pu 1 rfl (RW.done (NW.next ?_))))
 refine CW.seq (CW.lw 7 rfl (pu 1 rfl (RW.shift (by omega) ⟨rfl, rfl, rfl, rfl⟩ rfl rfl rfl rfl (pu 5 rfl ?_))))
 refine RW.done (NW.next (CW.seq (CW.lw 7 rfl (pu 1 rfl ?_))))
 refine RW.shift (by omega) ⟨rfl, rfl, rfl, rfl⟩ rfl rfl rfl rfl (pu 5 rfl (RW.done (NW.next (CW.seq ?_))))
 refine CW.lw 6 rfl (pu 1 rfl (RW.shift (by omega) ⟨rfl, rfl, rfl, rfl⟩ rfl rfl rfl rfl (pu 4 rfl (RW.done ?_))))
 refine NW.next (CW.seq (CW.lw 5 rfl (pu 2 rfl (RW.shift (by omega) ⟨rfl, rfl, rfl, rfl⟩ rfl rfl rfl rfl ?_))))
 refine pu 2 rfl (RW.done (NW.next (CW.seq (CW.lw 5 rfl ?_))))
 refine pu 2 rfl (RW.shift (by omega) ⟨rfl, rfl, rfl, rfl⟩ rfl rfl rfl rfl (pu 2 rfl (RW.done (NW.next ?_))))
 refine CW.seq (CW.lw 5 rfl (pu 2 rfl (RW.shift (by omega) ⟨rfl, rfl, rfl, rfl⟩ rfl rfl rfl rfl (pu 2 rfl ?_))))
 refine RW.done (NW.next (CW.seq (CW.lw 4 rfl (pu 4 rfl ?_))))
 refine RW.done (NW.next (CW.ret ?_))
 obtain rfl := Option.some.inj H
 exact NW.ret1 rfl (by rfl) ⟨rfl, x0⟩
theorem seg_Set_Count.calls (p0 : Int) (r : Int) (w : World) (H : seg_Set_Count.f p0 = some r) :
    Calls Tryz.prog 34 #[.int .u64 p0] w fun e w' => e = .returned (iv r) ∧ Ext w w' := by
 have x0 : Ext w w := Upd.refl _ w
 unfold seg_Set_Count.f at H
 refine calls_start Tryz.func34 rfl 5 rfl [.int .u64 p0] rfl ?_
 refine CW.seq (CW.lw 1 rfl (pu 1 rfl (RW.done (NW.next ?_))))
 refine CW.seq (CW.lex [.W, .X, .W] rfl (pu 1 rfl ?_))
 obtain ⟨y1, h1, H⟩ := bind_some H
 refine RW.cl ent58 (math_bits_OnesCount64.calls p0 _ _ h1) ?_
 rintro _ w1 ⟨rfl, x1⟩
 refine ⟨_, rfl, x1, ?_⟩
 have sx1 := x1.size
 refine pu 1 rfl (RW.done (NW.next (CW.ret ?_)))
 obtain rfl := Option.some.inj H
 have h2 := x0.tr x1
 exact NW.ret1 rfl (by rfl) ⟨rfl, h2⟩
theorem move_Loose.calls (k : Nat) (A1 : Option Addr) (c_1 : Nat) (p0 : List Device) (p1 : Int) (r : Int) (w : World) (hs1 : Sl kDeviceR w.heap okAll A1 p0) (hl1 : p0.length ≤ c_1) (H : move_Loose.f k p0 p1 = some r) :
    Calls Tryz.prog 32 #[.slice A1 p0.length c_1, iv p1] w fun e w' => e = .returned (iv r) ∧ Ext w w' := by
 have h1 : Sl kDeviceR w.heap (okL [(0, some w.heap.size, none)]) A1 p0 := hs1.old _ rfl
 have x0 : Ext w w := Upd.refl _ w
 unfold move_Loose.f at H
 refine calls_start Tryz.func32 rfl 28 rfl [.slice A1 p0.length c_1, iv p1] rfl ?_
 refine CW.seq (CW.lw 1 rfl (pu 1 rfl (RW.done (NW.next ?_))))
 refine CW.seq (CW.lw 1 rfl (pu 1 rfl (RW.done (NW.next ?_))))
 refine CW.seq (CW.seq (CW.lw 3 rfl (pu 3 rfl (RW.done ?_))))
 refine NW.next (CW.block ?_)
 refine CW.loop (fun n1 a w1 => ∃ (it5_0 : Int) (it10_0 : Int), Sat 28 [(1, iv p1), (5, iv it5_0), (8, .slice A1 p0.length c_1), (9, iv (p0.length : Int)), (10, iv it10_0)] a ∧ w.heap.size ≤ w1.heap.size ∧ Ext w w1 ∧ move_Loose.l0 p0 p1 k n1 it5_0 it10_0 = some r) k ?_ ?_
 ·exact fun a ha => ⟨0, 0, ha.sb, by omega, x0, H⟩
 intro n1 a w1 hI hp
 obtain ⟨it5_0, it10_0, hS, hle, x0_0, H⟩ := hI
 cases n1 with
 | zero => cases H
 | succ n1 =>
  rw [move_Loose.l0] at H
  refine CW.go hp hS (CW.seq (CW.lw 1 rfl (pu 1 rfl (RW.done ?_))))
  refine NW.next (CW.seq ?_)
  by_cases c1 : it10_0 < (p0.length : Int)
  ·rw [if_pos c1] at H
   refine CW.cond_t rfl (decide_eq_true c1) (CW.skip (NW.next ?_))
   refine CW.seqJ (fun a w2 => ∃ (it5_1 : Int), Sat 28 [(1, iv p1), (5, iv it5_1), (8, .slice A1 p0.length c_1), (9, iv (p0.length : Int)), (10, iv it10_0)] a ∧ w1.heap.size ≤ w2.heap.size ∧ Ext w w2 ∧ move_Loose.j0 it10_0 (move_Loose.l0 p0 p1 k n1) it5_1 = some r) ?_ ?_
   ·refine CW.block (CW.seq (CW.lex [.W, .L, .X, .M] rfl ?_))
    obtain ⟨g1, H⟩ := guard_some H
    obtain ⟨ad1, A2, c_2, A3, c_3, e1, a1, l1, h2, l2, h3⟩ := kDeviceR_at (h1.ext x0_0) g1.1 g1.2
    refine RW.ix tk g1 e1 ?_
    refine RW.ld tk [iv ((rd p0 it10_0).ID), iv ((rd p0 it10_0).Size), .slice A2 ((rd p0 it10_0).Free).length c_2, .slice A3 ((rd p0 it10_0).Late).length c_3] a1 ?_
    refine RW.alloc tk (.inl rfl) ⟨rfl, rfl, rfl, rfl⟩ rfl rfl ?_
    intro b1 w3 x1 l3 h4
    have sx1 := x1.size
    have ltb1 := h4.lt
    refine RW.sb tk h4 [iv ((rd p0 it10_0).ID), iv ((rd p0 it10_0).Size), .slice A2 ((rd p0 it10_0).Free).length c_2, .slice A3 ((rd p0 it10_0).Late).length c_3] ?_
    intro w4 x2 h5
    have h6 : Box w4.heap b1 40 [iv ((rd p0 it10_0).ID), iv ((rd p0 it10_0).Size), .slice A2 ((rd p0 it10_0).Free).length c_2, .slice A3 ((rd p0 it10_0).Late).length c_3] := h5
    have sx2 := x2.size
    refine RW.done (NW.next (CW.seq (CW.lex [.W, .L, .W, .W] rfl (pu 1 rfl ?_))))
    refine RW.lb tk [iv ((rd p0 it10_0).ID)] h6 0 ?_
    refine pu 2 rfl (RW.done (NW.next ?_))
    have j1 := (x0_0.tr x1).tB x2
    by_cases c2 : (rd p0 it10_0).ID = p1
    ·rw [if_pos c2] at H
     refine CW.cond_f rfl (bne_f c2) (CW.skip (NW.norm_block ?_))
     exact NW.J fun a ha => ⟨it5_0, ha.sb, by omega, j1, H⟩
    rw [if_neg c2] at H
    refine CW.cond_t rfl (bne_t c2) (CW.ord [0, 0, 2, 0, 8, 24, 62, 127, 255] (ofL [(0, .W), (1, .W), (2, .L), (3, .L), (4, .X), (5, .X), (6, .W), (7, .W), (8, .W)] .nil) mixed (by kernel_rfl) ?_)
    intro w5 x3
    have sx3 := x3.size
    refine pu 2 rfl ?_
    have h8 := h6.ext x3
    refine RW.lb tk [iv ((rd p0 it10_0).Size)] h8 1 ?_
    refine RW.ld tk [iv ((rd p0 it10_0).ID), iv ((rd p0 it10_0).Size), .slice A2 ((rd p0 it10_0).Free).length c_2, .slice A3 ((rd p0 it10_0).Late).length c_3] (h8.at 0) ?_
    have h9 := ((h2.ext x1).turnB x2 h4 ⟨.inr (by omega), trivial⟩).ext x3
    have h10 := ((h3.ext x1).turnB x2 h4 ⟨.inr (by omega), trivial⟩).ext x3
    obtain ⟨y1, h11, H⟩ := bind_some H
    refine RW.cl ent33 (room_Busy.calls k (rd p0 it10_0) A2 c_2 A3 c_3 _ _ h9.all l1 h10.all l2 h11) ?_
    rintro _ w6 ⟨rfl, x4⟩
    refine ⟨_, rfl, x4, ?_⟩
    have sx4 := x4.size
    obtain ⟨y2, h12, H⟩ := bind_some H
    refine RW.cl ent34 (seg_Set_Count.calls y1 _ _ h12) ?_
    rintro _ w7 ⟨rfl, x5⟩
    refine ⟨_, rfl, x5, ?_⟩
    have sx5 := x5.size
    refine pu 3 rfl (RW.done (NW.norm_block ?_))
    have h13 := ((j1.tr x3).tr x4).tr x5
    exact NW.J fun a ha => ⟨(w64 (it5_0 + (w64 (((rd p0 it10_0).Size) - y2)))), ha.sb, by omega, h13, H⟩
   intro a w2 hJ hp
   obtain ⟨it5_1, hS, hle, x0_1, H⟩ := hJ
   unfold move_Loose.j0 at H
   refine CW.go hp hS (CW.lw 2 rfl (pu 2 rfl (RW.done ?_)))
   exact NW.J fun a ha => ⟨n1, Nat.lt_succ_self n1, it5_1, (w64 (it10_0 + 1)), ha.sb, by omega, x0_1, H⟩
  rw [if_neg c1] at H
  refine CW.cond_f rfl (decide_eq_false c1) (CW.exit ?_)
  refine NW.exit_then (NW.exit_then (NW.exit_hit ?_))
  refine NW.next (CW.seq (CW.lw 2 rfl (pu 2 rfl (RW.done ?_))))
  refine NW.next (CW.ret ?_)
  obtain rfl := Option.some.inj H
  exact NW.ret1 rfl (by rfl) ⟨rfl, x0_0⟩
theorem math_bits_TrailingZeros64.calls (p0 : Int) (r : Int) (w : World) {gT : Nat} (hG : Box w.heap 0 gT (arrI .u8 64 tz)) (H : math_bits_TrailingZeros64.f p0 = some r) :
    Calls Tryz.prog 126 #[.int .u64 p0] w fun e w' => e = .returned (iv r) ∧ Ext w w' := by
 have hG0 : 0 < w.heap.size := hG.lt
 have x0 : Ext w w := Upd.refl _ w
 unfold math_bits_TrailingZeros64.f at H
 refine calls_start Tryz.func126 rfl 14 rfl [.int .u64 p0] rfl ?_
 refine CW.seq (CW.lw 1 rfl (pu 1 rfl (RW.done (NW.next ?_))))
 refine CW.seq (CW.seq (CW.lw 2 rfl (pu 2 rfl (RW.done ?_))))
 refine NW.next ?_
 by_cases c1 : p0 = 0
 ·rw [if_pos c1] at H
  refine CW.cond_t rfl (beq_t c1) (CW.seq (CW.lw 1 rfl (pu 1 rfl (RW.done ?_))))
  refine NW.next (CW.ret (NW.ret_then ?_))
  obtain rfl := Option.some.inj H
  exact NW.ret1 rfl (by rfl) ⟨rfl, x0⟩
 rw [if_neg c1] at H
 refine CW.cond_f rfl (beq_f c1) (CW.skip (NW.next (CW.seq (CW.lex [.W, .W, .W, .W, .W, .W, .W, .L, .W, .W] rfl ?_))))
 refine pu 2 rfl (RW.neg ⟨rfl, rfl, rfl, rfl⟩ rfl rfl (pu 2 rfl (RW.shift (by omega) ⟨rfl, rfl, rfl, rfl⟩ rfl rfl rfl rfl ?_)))
 obtain ⟨g1, H⟩ := guard_some H
 refine RW.indexBox tk g1.1 g1.2 ⟨rfl, rfl, rfl, rfl⟩ rfl rfl rfl rfl rfl rfl rfl (RW.ld tk [.int .u8 (tz ((wu64 ((uand p0 (wu64 (0 - p0))) * 285870213051353865)).fdiv (2 ^ min (58 : Int).toNat 64)).toNat)] (hG.elF (by have := g1; omega)) ?_)
 refine pu 2 rfl (RW.done (NW.next (CW.ret ?_)))
 obtain rfl := Option.some.inj H
 exact NW.ret1 rfl (by rfl) ⟨rfl, x0⟩
theorem seg_Set_Least.calls (p0 : Int) (r : Int) (w : World) {gT : Nat} (hG : Box w.heap 0 gT (arrI .u8 64 tz)) (H : seg_Set_Least.f p0 = some r) :
    Calls Tryz.prog 90 #[.int .u64 p0] w fun e w' => e = .returned (iv r) ∧ Ext w w' := by
 have hG0 : 0 < w.heap.size := hG.lt
 have x0 : Ext w w := Upd.refl _ w
 unfold seg_Set_Least.f at H
 refine calls_start Tryz.func90 rfl 5 rfl [.int .u64 p0] rfl ?_
 refine CW.seq (CW.lw 1 rfl (pu 1 rfl (RW.done (NW.next ?_))))
 refine CW.seq (CW.lex [.W, .X, .W] rfl (pu 1 rfl ?_))
 obtain ⟨y1, h1, H⟩ := bind_some H
 refine RW.cl ent126 (math_bits_TrailingZeros64.calls p0 _ _ hG h1) ?_
 rintro _ w1 ⟨rfl, x1⟩
 refine ⟨_, rfl, x1, ?_⟩
 have sx1 := x1.size
 refine pu 1 rfl (RW.done (NW.next (CW.ret ?_)))
 obtain rfl := Option.some.inj H
 have h2 := x0.tr x1
 exact NW.ret1 rfl (by rfl) ⟨rfl, h2⟩
theorem seg_Set_Sectors.calls (k : Nat) (p0 : Int) (r : (List Int)) (w : World) {gT : Nat} (hG : Box w.heap 0 gT (arrI .u8 64 tz)) (H : seg_Set_Sectors.f k p0 = some r) :
    Calls Tryz.prog 64 #[.int .u64 p0] w fun e w' => ∃ (B1 : Option Addr) (d1 : Nat), e = .returned (.slice B1 r.length d1) ∧ Ext w w' ∧ Ow (Kd.int .i64) 3 w'.heap (okL [(w.heap.size, none, some 3)]) (okL []) B1 d1 r := by
 have hG0 : 0 < w.heap.size := hG.lt
 have x0 : Ext w w := Upd.refl _ w
 unfold seg_Set_Sectors.f at H
 refine calls_start Tryz.func64 rfl 15 rfl [.int .u64 p0] rfl ?_
 refine CW.seq (CW.lw 1 rfl (pu 1 rfl (RW.done (NW.next ?_))))
 refine CW.seq (CW.block ?_)
 refine CW.loop (fun n1 a w1 => ∃ (it0_0 : Int) (lt2_0 : List Int) (At2_0 : Option Addr) (ct2_0 : Nat), Sat 15 [(0, .int .u64 it0_0), (2, .slice At2_0 lt2_0.length ct2_0)] a ∧ w.heap.size ≤ w1.heap.size ∧ Ow (Kd.int .i64) 3 w1.heap (okL [(w.heap.size, none, some 3)]) (okL []) At2_0 ct2_0 lt2_0 ∧ Ext w w1 ∧ seg_Set_Sectors.l0 n1 it0_0 lt2_0 = some r) k ?_ ?_
 ·exact fun a ha => ⟨p0, ([] : List Int), none, 0, ha.sb, by omega, Ow.nil, x0, H⟩
 intro n1 a w1 hI hp
 obtain ⟨it0_0, lt2_0, At2_0, ct2_0, hS, hle, ft2_0, x0_0, H⟩ := hI
 cases n1 with
 | zero => cases H
 | succ n1 =>
  rw [seg_Set_Sectors.l0] at H
  refine CW.go hp hS ?_
  have h1 : Ow (Kd.int .i64) 3 w1.heap (okL [(w.heap.size, some w1.heap.size, some 3)]) (okL []) At2_0 ct2_0 lt2_0 := ft2_0.close
  have xt1 : Ext w1 w1 := Upd.refl _ _
  refine CW.seq (CW.seq (CW.lw 2 rfl (pu 2 rfl (RW.done ?_))))
  refine NW.next ?_
  by_cases c1 : it0_0 = 0
  ·rw [if_pos c1] at H
   refine CW.cond_f rfl (bne_f c1) (CW.exit ?_)
   refine NW.exit_then (NW.exit_then (NW.exit_hit ?_))
   refine NW.next (CW.seq (CW.lw 2 rfl (pu 2 rfl (RW.done ?_))))
   refine NW.next (CW.ret ?_)
   obtain rfl := Option.some.inj H
   exact NW.ret1 rfl (by rfl) ⟨At2_0, ct2_0, rfl, x0_0, (h1.sub (l' := [(w.heap.size, none, some 3)]) (li' := []) ⟨(.inl ⟨by omega, trivial, rfl⟩), trivial⟩ trivial)⟩
  rw [if_neg c1] at H
  refine CW.cond_t rfl (bne_t c1) (CW.skip (NW.next (CW.seq (CW.block ?_))))
  refine CW.lex [.W, .W, .X, .X, .M, .W] rfl (pu 2 rfl ?_)
  obtain ⟨y1, h2, H⟩ := bind_some H
  refine RW.cl ent90 (seg_Set_Least.calls it0_0 _ _ (hG.ext x0_0) h2) ?_
  rintro _ w2 ⟨rfl, x1⟩
  refine ⟨_, rfl, x1, ?_⟩
  have sx1 := x1.size
  refine RW.buildSlice (cs := [iv y1]) tk (.inl rfl) ⟨rfl, rfl, rfl, rfl⟩ rfl rfl rfl rfl rfl rfl rfl ?_
  intro b1 w3 x2 l1 h3
  have sx2 := x2.size
  have ltb1 := h3.lt
  have h4 := (h1.ext x1).ext x2
  obtain ⟨g1, H⟩ := guard_some H
  refine RW.append1L (d := (Kd.int .i64)) (v := y1) (l := [(w.heap.size, some w1.heap.size, some 3)]) (li := []) (ly := []) (xs := lt2_0) tk h4 h3 rfl trivial (by simp only [maxLen]; omega) g1 ⟨rfl, rfl, rfl, rfl⟩ rfl rfl rfl rfl rfl rfl rfl ?_
  intro A1 c_1 w4 x3 h5
  have sx3 := x3.size
  have h6 := h5.close.sub (l' := [(w.heap.size, some w4.heap.size, some 3)]) (li' := []) ⟨(.inl ⟨by omega, by omega, rfl⟩), ⟨(.inl ⟨by omega, by omega, rfl⟩), trivial⟩⟩ trivial
  refine pu 1 rfl (RW.done ?_)
  refine NW.norm_block (NW.next ?_)
  refine CW.lw 5 rfl (pu 5 rfl (RW.done ?_))
  have h7 := Ext.turn ((x0_0.tr x1).tr x2) x3 ⟨by omega, trivial⟩
  exact NW.J fun a ha => ⟨n1, Nat.lt_succ_self n1, (uand it0_0 (wu64 (it0_0 - 1))), (lt2_0 ++ [y1]), A1, c_1, ha.sb, by omega, (h6.sb), h7, H⟩
theorem seg_Set_Segs.calls (k : Nat) (p0 : Int) (r : (List Seg)) (w : World) {gT : Nat} (hG : Box w.heap 0 gT (arrI .u8 64 tz)) (H : seg_Set_Segs.f k p0 = some r) :
    Calls Tryz.prog 40 #[.int .u64 p0] w fun e w' => ∃ (B1 : Option Addr) (d1 : Nat), e = .returned (.slice B1 r.length d1) ∧ Ext w w' ∧ Ow kSeg 105 w'.heap (okL [(w.heap.size, none, some 105)]) (okL []) B1 d1 r := by
 have hG0 : 0 < w.heap.size := hG.lt
 have x0 : Ext w w := Upd.refl _ w
 unfold seg_Set_Segs.f at H
 refine calls_start Tryz.func40 rfl 50 rfl [.int .u64 p0] rfl ?_
 refine CW.seq (CW.lw 1 rfl (pu 1 rfl (RW.done (NW.next ?_))))
 refine CW.seq (CW.seq (CW.lex [.W, .X, .W, .W] rfl (pu 1 rfl ?_)))
 obtain ⟨y1, h1, H⟩ := bind_some H
 refine RW.cl ent64 (seg_Set_Sectors.calls k p0 _ _ hG h1) ?_
 rintro _ w1 ⟨A1, c_1, rfl, x1, h2⟩
 refine ⟨_, rfl, x1, ?_⟩
 have sx1 := x1.size
 have h3 : Ow (Kd.int .i64) 3 w1.heap (okL [(w.heap.size, some w1.heap.size, some 3)]) (okL []) A1 c_1 y1 := h2.close
 refine pu 2 rfl (RW.done (NW.next (CW.block ?_)))
 refine CW.loop (fun n1 a w2 => ∃ (lt2_0 : List Seg) (At2_0 : Option Addr) (ct2_0 : Nat) (it9_0 : Int), Sat 50 [(2, .slice At2_0 lt2_0.length ct2_0), (7, .slice A1 y1.length c_1), (8, iv (y1.length : Int)), (9, iv it9_0)] a ∧ w1.heap.size ≤ w2.heap.size ∧ Ow kSeg 105 w2.heap (okL [(w1.heap.size, none, some 105)]) (okL []) At2_0 ct2_0 lt2_0 ∧ Ow (Kd.int .i64) 3 w2.heap (okL [(w.heap.size, some w1.heap.size, some 3)]) (okL []) A1 c_1 y1 ∧ Ext w w2 ∧ seg_Set_Segs.l0 y1 n1 lt2_0 it9_0 = some r) k ?_ ?_
 have h4 := x0.tr x1
 ·exact fun a ha => ⟨([] : List Seg), none, 0, 0, ha.sb, by omega, Ow.nil, h3, h4, H⟩
 intro n1 a w2 hI hp
 obtain ⟨lt2_0, At2_0, ct2_0, it9_0, hS, hle, ft2_0, gF1_0, x0_0, H⟩ := hI
 cases n1 with
 | zero => cases H
 | succ n1 =>
  rw [seg_Set_Segs.l0] at H
  refine CW.go hp hS ?_
  have h5 : Ow kSeg 105 w2.heap (okL [(w1.heap.size, some w2.heap.size, some 105)]) (okL []) At2_0 ct2_0 lt2_0 := ft2_0.close
  have xt1 : Ext w2 w2 := Upd.refl _ _
  refine CW.seq (CW.lw 1 rfl (pu 1 rfl (RW.done (NW.next ?_))))
  refine CW.seq ?_
  by_cases c1 : it9_0 < (y1.length : Int)
  ·rw [if_pos c1] at H
   refine CW.cond_t rfl (decide_eq_true c1) (CW.skip (NW.next ?_))
   refine CW.seqJ (fun a w3 => ∃ (lt2_1 : List Seg) (At2_1 : Option Addr) (ct2_1 : Nat), Sat 50 [(2, .slice At2_1 lt2_1.length ct2_1), (7, .slice A1 y1.length c_1), (8, iv (y1.length : Int)), (9, iv it9_0)] a ∧ w2.heap.size ≤ w3.heap.size ∧ Ow kSeg 105 w3.heap (okL [(w1.heap.size, none, some 105)]) (okL []) At2_1 ct2_1 lt2_1 ∧ Ow (Kd.int .i64) 3 w3.heap (okL [(w.heap.size, some w1.heap.size, some 3)]) (okL []) A1 c_1 y1 ∧ Ext w w3 ∧ seg_Set_Segs.j0 it9_0 (seg_Set_Segs.l0 y1 n1) lt2_1 = some r) ?_ ?_
   ·refine CW.block (CW.seq (CW.lex [.W, .L, .W] rfl ?_))
    obtain ⟨g1, H⟩ := guard_some H
    obtain ⟨ad1, e1, a1⟩ := at_i64 gF1_0.slL g1.1 g1.2
    refine RW.ix tk g1 e1 ?_
    refine RW.ld tk [iv (rd y1 it9_0)] a1 ?_
    refine pu 1 rfl (RW.done (NW.next (CW.seq (CW.seq ?_))))
    refine CW.lw 3 rfl (pu 3 rfl (RW.done (NW.next ?_)))
    refine CW.seqJ (fun a w4 => ∃ (bt33_2 : Bool), Sat 50 [(2, .slice At2_0 lt2_0.length ct2_0), (4, iv (rd y1 it9_0)), (5, iv (lt2_0.length : Int)), (7, .slice A1 y1.length c_1), (8, iv (y1.length : Int)), (9, iv it9_0), (33, .bool bt33_2)] a ∧ w2.heap.size ≤ w4.heap.size ∧ Ext w w4 ∧ Ext w2 w4 ∧ seg_Set_Segs.j1 y1 lt2_0 it9_0 (seg_Set_Segs.l0 y1 n1) bt33_2 = some r) ?_ ?_
    ·refine CW.ord [0, 1, 3, 7, 7, 23, 63, 127, 255, 7, 7, 1031, 3591, 7687, 15879, 32767, 7, 131071, 262143] (ofL [(0, .W), (1, .W), (2, .W), (3, .W), (4, .W), (5, .W), (6, .W), (7, .W), (9, .W), (10, .W), (11, .W), (12, .W), (13, .W), (16, .W), (8, .L), (14, .L), (15, .W), (17, .W), (18, .W)] .nil) mixed (by kernel_rfl) ?_
     intro w5 x2
     have sx2 := x2.size
     refine pu 3 rfl ?_
     have j1 := x0_0.tr x2
     have j2 := xt1.tr x2
     by_cases c2 : 0 < (lt2_0.length : Int)
     ·rw [if_pos c2] at H
      refine RW.bool 17 (b' := true) (decide_eq_true c2) rfl (pu 3 rfl ?_)
      obtain ⟨g2, H⟩ := guard_some H
      have h6 := h5.ext x2
      obtain ⟨ad2, e2, a2⟩ := kSeg_at h6.slL g2.1 g2.2
      refine RW.ix tk g2 e2 ?_
      refine pu 4 rfl ?_
      obtain ⟨g3, H⟩ := guard_some H
      obtain ⟨ad3, e3, a3⟩ := kSeg_at h6.slL g3.1 g3.2
      refine RW.ix tk g3 e3 ?_
      refine pu 2 rfl (RW.ld tk [iv ((rd lt2_0 (w64 ((lt2_0.length : Int) - 1))).At)] ((a2.fld 0).take 1 rfl) ?_)
      refine RW.ld tk [iv ((rd lt2_0 (w64 ((lt2_0.length : Int) - 1))).Len)] (a3.fld 1) ?_
      refine pu 3 rfl (RW.done ?_)
      exact NW.J fun a ha => ⟨((w64 (((rd lt2_0 (w64 ((lt2_0.length : Int) - 1))).At) + ((rd lt2_0 (w64 ((lt2_0.length : Int) - 1))).Len))) == (rd y1 it9_0)), ha.sb, by omega, j1, j2, H⟩
     rw [if_neg c2] at H
     refine RW.bool 17 (b' := false) (decide_eq_false c2) rfl (pu 16 rfl (RW.done ?_))
     exact NW.J fun a ha => ⟨false, ha.sb, by omega, j1, j2, H⟩
    intro a w4 hJ hp
    obtain ⟨bt33_2, hS, hle, x0_2, x_xt1_2, H⟩ := hJ
    unfold seg_Set_Segs.j1 at H
    refine CW.go hp hS ?_
    by_cases c3 : bt33_2 = true
    ·rw [if_pos c3] at H
     refine CW.cond_t rfl (c3) (CW.seq (CW.lex [.W, .W, .W, .W, .W, .L, .W, .W, .W, .M] rfl (pu 3 rfl ?_)))
     obtain ⟨g4, H⟩ := guard_some H
     obtain ⟨ad4, e4, a4⟩ := kSeg_at ((h5.ext x_xt1_2).slL) g4.1 g4.2
     refine RW.ix tk g4 e4 ?_
     refine pu 1 rfl (RW.ld tk [iv ((rd lt2_0 (w64 ((lt2_0.length : Int) - 1))).Len)] (a4.fld 1) ?_)
     refine pu 1 rfl ?_
     obtain ⟨g5, H⟩ := guard_some H
     obtain ⟨ad5, e5, a5⟩ := kSeg_at ((h5.ext x_xt1_2).slL) g5.1 g5.2
     refine RW.ix tk g5 e5 ?_
     refine pu 1 rfl ?_
     refine RW.storeElL (y := (⟨(rd lt2_0 (w64 ((lt2_0.length : Int) - 1))).At, w64 (((rd lt2_0 (w64 ((lt2_0.length : Int) - 1))).Len) + 1)⟩ : Seg)) (lv := []) (k := 1) tk (h5.ext x_xt1_2) (j := (w64 ((lt2_0.length : Int) - 1)).toNat) (by have := g5; omega) default [iv (w64 (((rd lt2_0 (w64 ((lt2_0.length : Int) - 1))).Len) + 1))] (fun cs ok' hr => by obtain rfl := kSeg_open hr; exact ⟨by simp, kSeg_mk (⟨(rd lt2_0 (w64 ((lt2_0.length : Int) - 1))).At, w64 (((rd lt2_0 (w64 ((lt2_0.length : Int) - 1))).Len) + 1)⟩ : Seg)⟩) trivial ⟨rfl, rfl, rfl⟩ rfl rfl e5 rfl rfl rfl rfl rfl ?_
     intro w6 x3 h11
     have sx3 := x3.size
     have h12 := h11.sub (l' := [(w1.heap.size, some w2.heap.size, some 105)]) (li' := []) ⟨(.inl ⟨by omega, by omega, rfl⟩), trivial⟩ trivial
     refine RW.tell 2 (v' := .slice At2_0 (lt2_0.set (w64 ((lt2_0.length : Int) - 1)).toNat (⟨(rd lt2_0 (w64 ((lt2_0.length : Int) - 1))).At, w64 (((rd lt2_0 (w64 ((lt2_0.length : Int) - 1))).Len) + 1)⟩ : Seg)).length ct2_0) (by simp only [List.length_set]) rfl (RW.done (NW.next (CW.exit ?_)))
     refine NW.exit_then (NW.exit_hit ?_)
     have h13 := (gF1_0.ext x_xt1_2).tL x3
     have h14 := Ext.turn x0_2 x3 ⟨by omega, trivial⟩
     exact NW.J fun a ha => ⟨(lt2_0.set (w64 ((lt2_0.length : Int) - 1)).toNat (⟨(rd lt2_0 (w64 ((lt2_0.length : Int) - 1))).At, w64 (((rd lt2_0 (w64 ((lt2_0.length : Int) - 1))).Len) + 1)⟩ : Seg)), At2_0, ct2_0, ha.sb, by omega, (h12.sb), h13, h14, H⟩
    rw [if_neg c3] at H
    refine CW.cond_f rfl (bool_f c3) (CW.skip (NW.next (CW.lex [.W, .W, .W, .X, .M, .W] rfl (pu 3 rfl ?_))))
    refine RW.buildSlice (cs := [iv (rd y1 it9_0), iv 1]) tk (.inl rfl) ⟨rfl, rfl, rfl, rfl⟩ rfl rfl rfl rfl rfl rfl rfl ?_
    intro b1 w7 x4 l1 h15
    have sx4 := x4.size
    have ltb1 := h15.lt
    have h16 := (h5.ext x_xt1_2).ext x4
    obtain ⟨g6, H⟩ := guard_some H
    refine RW.append1L (d := kSeg) (v := (⟨rd y1 it9_0, 1⟩ : Seg)) (l := [(w1.heap.size, some w2.heap.size, some 105)]) (li := []) (ly := []) (xs := lt2_0) tk h16 h15 (kSeg_mk (⟨rd y1 it9_0, 1⟩ : Seg)) trivial (by simp only [maxLen]; omega) g6 ⟨rfl, rfl, rfl, rfl⟩ rfl rfl rfl rfl rfl rfl rfl ?_
    intro A2 c_2 w8 x5 h17
    have sx5 := x5.size
    have h18 := h17.close.sub (l' := [(w1.heap.size, some w8.heap.size, some 105)]) (li' := []) ⟨(.inl ⟨by omega, by omega, rfl⟩), ⟨(.inl ⟨by omega, by omega, rfl⟩), trivial⟩⟩ trivial
    refine pu 1 rfl (RW.done (NW.norm_block ?_))
    have h19 := ((gF1_0.ext x_xt1_2).ext x4).tL x5
    have h20 := Ext.turn (x0_2.tr x4) x5 ⟨by omega, trivial⟩
    exact NW.J fun a ha => ⟨(lt2_0 ++ [(⟨rd y1 it9_0, 1⟩ : Seg)]), A2, c_2, ha.sb, by omega, (h18.sb), h19, h20, H⟩
   intro a w3 hJ hp
   obtain ⟨lt2_1, At2_1, ct2_1, hS, hle, ft2_1, gF1_1, x0_1, H⟩ := hJ
   unfold seg_Set_Segs.j0 at H
   refine CW.go hp hS ?_
   have h21 : Ow kSeg 105 w3.heap (okL [(w1.heap.size, some w3.heap.size, some 105)]) (okL []) At2_1 ct2_1 lt2_1 := ft2_1.close
   have xt2 : Ext w3 w3 := Upd.refl _ _
   refine CW.lw 2 rfl (pu 2 rfl (RW.done ?_))
   exact NW.J fun a ha => ⟨n1, Nat.lt_succ_self n1, lt2_1, At2_1, ct2_1, (w64 (it9_0 + 1)), ha.sb, by omega, (h21.sb), gF1_1, x0_1, H⟩
  rw [if_neg c1] at H
  refine CW.cond_f rfl (decide_eq_false c1) (CW.exit ?_)
  refine NW.exit_then (NW.exit_then (NW.exit_hit ?_))
  refine NW.next (CW.seq (CW.lw 2 rfl (pu 2 rfl (RW.done ?_))))
  refine NW.next (CW.ret ?_)
  obtain rfl := Option.some.inj H
  exact NW.ret1 rfl (by rfl) ⟨At2_0, ct2_0, rfl, x0_0, (h5.sub (l' := [(w.heap.size, none, some 105)]) (li' := []) ⟨(.inl ⟨by omega, trivial, rfl⟩), trivial⟩ trivial)⟩
end Go.Proofs.YtnaajldlloglkaaGreatDoor.W
