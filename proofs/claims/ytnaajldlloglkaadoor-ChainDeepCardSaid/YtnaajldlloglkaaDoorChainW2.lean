/- Walks; printed by a program of the claim. -/
import Derived.Test.YtnaajldlloglkaaDoorChainW1
set_option linter.unusedVariables false
set_option linter.unusedSimpArgs false
namespace Go.Proofs.YtnaajldlloglkaaDoor.W
open Go.H Go.Proofs
set_option maxHeartbeats 20000000 in
set_option maxRecDepth 100000 in
theorem chain_Trace.calls (k : Nat) (p0 : Pool) (A1 : Option Addr) (c_1 : Nat) (A2 : Option Addr) (c_2 : Nat) (A3 : Option Addr) (c_3 : Nat) (p1 : Ptr) (p2 : Bool) (r : Trail × Bool) (w : World) (hs1 : Sl kDeviceR w.heap okAll A1 p0.Devices) (hl1 : p0.Devices.length ≤ c_1) (hs2 : Sl kTableR w.heap okAll A2 p0.Tables) (hl2 : p0.Tables.length ≤ c_2) (hs3 : Sl kEntry w.heap okAll A3 p0.Job.Table.List_) (hl3 : p0.Job.Table.List_.length ≤ c_3) (H : chain_Trace.f k p0 p1 p2 = some r) :
    Calls Tryd.prog 90 #[.agg #[.slice A1 p0.Devices.length c_1, .slice A2 p0.Tables.length c_2, .int .i64 p0.Job.Dev, .int .i64 p0.Job.At, .int .i64 p0.Job.Table.Dev, .int .i64 p0.Job.Table.Size, .slice A3 p0.Job.Table.List_.length c_3, .int .i64 p0.Next], .agg #[.int .i64 p1.Dev, .int .i64 p1.At], .bool p2] w fun e w' => ∃ (B1 : Option Addr) (d1 : Nat), e = .returned (.tuple #[.agg #[.int .i64 r.1.Ptr_.Dev, .int .i64 r.1.Ptr_.At, .slice B1 r.1.Way.length d1], .bool r.2]) ∧ Ext w w' ∧ Ow kPtr 70 w'.heap (okL [(w.heap.size, none, some 70)]) (okL []) B1 d1 r.1.Way := by
 have h1 : Sl kDeviceR w.heap (okL [(0, some w.heap.size, none)]) A1 p0.Devices := hs1.old _ rfl
 have h2 : Sl kTableR w.heap (okL [(0, some w.heap.size, none)]) A2 p0.Tables := hs2.old _ rfl
 have h3 : Sl kEntry w.heap (okL [(0, some w.heap.size, none)]) A3 p0.Job.Table.List_ := hs3.old _ rfl
 have x0 : Ext w w := Upd.refl _ w
 unfold chain_Trace.f at H
 refine calls_start Tryd.func90 rfl 92 rfl [.agg #[.slice A1 p0.Devices.length c_1, .slice A2 p0.Tables.length c_2, .int .i64 p0.Job.Dev, .int .i64 p0.Job.At, .int .i64 p0.Job.Table.Dev, .int .i64 p0.Job.Table.Size, .slice A3 p0.Job.Table.List_.length c_3, .int .i64 p0.Next], .agg #[.int .i64 p1.Dev, .int .i64 p1.At], .bool p2] rfl ?_
 refine CW.seq ?_
 refine CW.lex [.X, .X, .X, .W] rfl ?_
 refine RW.box (cs := [.slice A1 p0.Devices.length c_1, .slice A2 p0.Tables.length c_2, .int .i64 p0.Job.Dev, .int .i64 p0.Job.At, .int .i64 p0.Job.Table.Dev, .int .i64 p0.Job.Table.Size, .slice A3 p0.Job.Table.List_.length c_3, .int .i64 p0.Next]) (.inl rfl) ⟨rfl, rfl, rfl, rfl⟩ rfl rfl rfl ?_
 intro b1 w1 x1 l1 h4
 have sx1 := x1.size
 have ltb1 := h4.lt
 refine RW.box (cs := [.int .i64 p1.Dev, .int .i64 p1.At]) (.inl rfl) ⟨rfl, rfl, rfl, rfl⟩ rfl rfl rfl ?_
 intro b2 w2 x2 l2 h5
 have sx2 := x2.size
 have ltb2 := h5.lt
 refine RW.alloc tabOk (.inl rfl) ⟨rfl, rfl, rfl, rfl⟩ rfl rfl ?_
 intro b3 w3 x3 l3 h6
 have sx3 := x3.size
 have ltb3 := h6.lt
 refine RW.pure tabOk 1 rfl ?_
 refine RW.done ?_
 refine NW.next ?_
 refine CW.seq ?_
 refine CW.lex [.L, .W, .X, .M] rfl ?_
 have h7 := h5.ext x3
 refine RW.load tabOk [.int .i64 p1.Dev, .int .i64 p1.At] (h7.at 0) ⟨rfl, rfl, rfl, rfl⟩ rfl rfl rfl rfl ?_
 refine RW.pure tabOk 1 rfl ?_
 refine RW.alloc tabOk (.inl rfl) ⟨rfl, rfl, rfl, rfl⟩ rfl rfl ?_
 intro b4 w4 x4 l4 h8
 have sx4 := x4.size
 have ltb4 := h8.lt
 refine RW.storeBox tabOk h8 [.int .i64 p1.Dev, .int .i64 p1.At, .slice none 0 0] ⟨rfl, rfl, rfl⟩ rfl rfl rfl rfl rfl rfl rfl rfl ?_
 intro w5 x5 h9
 have h10 : Box w5.heap b4 121 [.int .i64 p1.Dev, .int .i64 p1.At, .slice none 0 0] := h9
 have sx5 := x5.size
 refine RW.done ?_
 refine NW.next ?_
 refine CW.seq ?_
 refine CW.block ?_
 refine CW.loop (fun n1 a w6 => ∃ (ib4_0_0 : Int) (ib4_1_0 : Int) (lb4_2_0 : List Ptr) (Ab4_2_0 : Option Addr) (cb4_2_0 : Nat), Sat 92 [(2, .bool p2), (3, .pointer (some ⟨b1, 0, none⟩)), (6, .pointer (some ⟨b3, 0, none⟩)), (8, .pointer (some ⟨b4, 0, none⟩))] a ∧ w5.heap.size ≤ w6.heap.size ∧ Sl kDeviceR w6.heap (okL [(0, some w.heap.size, none)]) A1 p0.Devices ∧ Sl kTableR w6.heap (okL [(0, some w.heap.size, none)]) A2 p0.Tables ∧ Sl kEntry w6.heap (okL [(0, some w.heap.size, none)]) A3 p0.Job.Table.List_ ∧ Ow kPtr 70 w6.heap (okL [(w5.heap.size, none, some 70)]) (okL []) Ab4_2_0 cb4_2_0 lb4_2_0 ∧ Ext w w6 ∧ Box w6.heap b1 79 [.slice A1 p0.Devices.length c_1, .slice A2 p0.Tables.length c_2, .int .i64 p0.Job.Dev, .int .i64 p0.Job.At, .int .i64 p0.Job.Table.Dev, .int .i64 p0.Job.Table.Size, .slice A3 p0.Job.Table.List_.length c_3, .int .i64 p0.Next] ∧ Box w6.heap b3 121 [.int .i64 0, .int .i64 0, .slice none 0 0] ∧ Box w6.heap b4 121 [.int .i64 ib4_0_0, .int .i64 ib4_1_0, .slice Ab4_2_0 lb4_2_0.length cb4_2_0] ∧ chain_Trace.l0 p0 p2 k n1 ib4_0_0 ib4_1_0 lb4_2_0 = some r) k ?_ ?_
 have h11 := ((((h1.ext x1).ext x2).ext x3).ext x4).turnB x5 h8 ⟨.inr (by omega), trivial⟩
 have h12 := ((((h2.ext x1).ext x2).ext x3).ext x4).turnB x5 h8 ⟨.inr (by omega), trivial⟩
 have h13 := ((((h3.ext x1).ext x2).ext x3).ext x4).turnB x5 h8 ⟨.inr (by omega), trivial⟩
 have h14 := Ext.turnB (Ext.trans (Ext.trans (Ext.trans (Ext.trans x0 x1) x2) x3) x4) x5 (by omega)
 have h15 := (((h4.ext x2).ext x3).ext x4).turnB x5 (by omega)
 have h16 := (h6.ext x4).turnB x5 (by omega)
 · exact fun a ha => ⟨p1.Dev, p1.At, ([] : List Ptr), none, 0, ha.sub ⟨rfl, rfl, rfl, rfl, trivial⟩, by omega, h11, h12, h13, Ow.nil, h14, h15, h16, h10, H⟩
 intro n1 a w6 hI hp
 obtain ⟨ib4_0_0, ib4_1_0, lb4_2_0, Ab4_2_0, cb4_2_0, hS, hle, gF1_0, gF2_0, gF3_0, fb4_2_0, x0_0, gb1_0, gb3_0, gb4_0, H⟩ := hI
 cases n1 with
 | zero => cases H
 | succ n1 =>
  rw [chain_Trace.l0] at H
  refine CW.go hp hS ?_
  have h17 : Ow kPtr 70 w6.heap (okL [(w5.heap.size, some w6.heap.size, some 70)]) (okL []) Ab4_2_0 cb4_2_0 lb4_2_0 := fb4_2_0.close
  refine CW.seq ?_
  refine CW.seq ?_
  refine CW.lex [.L, .W, .W, .L, .X, .W] rfl ?_
  refine RW.load tabOk [.slice A1 p0.Devices.length c_1, .slice A2 p0.Tables.length c_2, .int .i64 p0.Job.Dev, .int .i64 p0.Job.At, .int .i64 p0.Job.Table.Dev, .int .i64 p0.Job.Table.Size, .slice A3 p0.Job.Table.List_.length c_3, .int .i64 p0.Next] (gb1_0.at 0) ⟨rfl, rfl, rfl, rfl⟩ rfl rfl rfl rfl ?_
  refine RW.pure tabOk 2 rfl ?_
  refine RW.load tabOk [.int .i64 ib4_0_0] ((gb4_0.at 0).take 1 rfl) ⟨rfl, rfl, rfl, rfl⟩ rfl rfl rfl rfl ?_
  obtain ⟨y1, h18, H⟩ := bind_some H
  refine RW.callF (.inl rfl) ent117 ⟨rfl, rfl, rfl, rfl⟩ rfl rfl (chain_device.calls k p0 A1 c_1 A2 c_2 A3 c_3 ib4_0_0 _ _ gF1_0.all hl1 gF2_0.all hl2 gF3_0.all hl3 h18) ?_
  rintro _ w7 ⟨rfl, x6⟩
  refine ⟨_, rfl, x6, ?_⟩
  have sx6 := x6.size
  refine RW.pure tabOk 1 rfl ?_
  refine RW.done ?_
  refine NW.next ?_
  by_cases c1 : y1 = true
  ·
   rw [if_pos c1] at H
   refine CW.cond_f rfl (not_f (c1)) ?_
   refine CW.exit ?_
   refine NW.exit_then (NW.exit_then (NW.exit_hit ?_))
   refine NW.next ?_
   refine CW.seq ?_
   refine CW.seq ?_
   refine CW.lex [.L, .X, .W] rfl ?_
   have h19 := gb1_0.ext x6
   refine RW.load tabOk [.slice A1 p0.Devices.length c_1, .slice A2 p0.Tables.length c_2, .int .i64 p0.Job.Dev, .int .i64 p0.Job.At, .int .i64 p0.Job.Table.Dev, .int .i64 p0.Job.Table.Size, .slice A3 p0.Job.Table.List_.length c_3, .int .i64 p0.Next] (h19.at 0) ⟨rfl, rfl, rfl, rfl⟩ rfl rfl rfl rfl ?_
   have xc1 : Ext w7 w7 := Upd.refl _ _
   refine RW.callV (R := fun e w8 => ∃ (bt59_1 : Bool), e = .returned (.bool bt59_1) ∧ w7.heap.size ≤ w8.heap.size ∧ Sl kDeviceR w8.heap (okL [(0, some w.heap.size, none)]) A1 p0.Devices ∧ Sl kTableR w8.heap (okL [(0, some w.heap.size, none)]) A2 p0.Tables ∧ Sl kEntry w8.heap (okL [(0, some w.heap.size, none)]) A3 p0.Job.Table.List_ ∧ Ow kPtr 70 w8.heap (okL [(w5.heap.size, some w6.heap.size, some 70)]) (okL []) Ab4_2_0 cb4_2_0 lb4_2_0 ∧ Ext w w8 ∧ Ext w7 w8 ∧ Box w8.heap b1 79 [.slice A1 p0.Devices.length c_1, .slice A2 p0.Tables.length c_2, .int .i64 p0.Job.Dev, .int .i64 p0.Job.At, .int .i64 p0.Job.Table.Dev, .int .i64 p0.Job.Table.Size, .slice A3 p0.Job.Table.List_.length c_3, .int .i64 p0.Next] ∧ Box w8.heap b3 121 [.int .i64 0, .int .i64 0, .slice none 0 0] ∧ Box w8.heap b4 121 [.int .i64 ib4_0_0, .int .i64 ib4_1_0, .slice Ab4_2_0 lb4_2_0.length cb4_2_0] ∧ chain_Trace.j0 p0 p2 k ib4_0_0 ib4_1_0 lb4_2_0 bt59_1 = some r) (.inl rfl) ent119 ⟨rfl, rfl, rfl, rfl⟩ rfl rfl rfl ?_ ?_
   ·
    refine calls_start Tryd.func119 rfl 41 rfl [.pointer (some ⟨b4, 0, none⟩), .agg #[.slice A1 p0.Devices.length c_1, .slice A2 p0.Tables.length c_2, .int .i64 p0.Job.Dev, .int .i64 p0.Job.At, .int .i64 p0.Job.Table.Dev, .int .i64 p0.Job.Table.Size, .slice A3 p0.Job.Table.List_.length c_3, .int .i64 p0.Next]] rfl ?_
    refine CW.seq ?_
    refine CW.lex [.X, .W] rfl ?_
    refine RW.box (cs := [.slice A1 p0.Devices.length c_1, .slice A2 p0.Tables.length c_2, .int .i64 p0.Job.Dev, .int .i64 p0.Job.At, .int .i64 p0.Job.Table.Dev, .int .i64 p0.Job.Table.Size, .slice A3 p0.Job.Table.List_.length c_3, .int .i64 p0.Next]) (.inl rfl) ⟨rfl, rfl, rfl, rfl⟩ rfl rfl rfl ?_
    intro b5 w9 x7 l5 h20
    have sx7 := x7.size
    have ltb5 := h20.lt
    refine RW.pure tabOk 1 rfl ?_
    refine RW.done ?_
    refine NW.next ?_
    refine CW.seq ?_
    refine CW.ord [0, 1, 0, 4, 12, 28, 60, 127, 255, 511, 511, 1023, 4095] (ofL [(0, .W), (2, .W), (3, .W), (4, .W), (5, .W), (1, .L), (6, .L), (7, .X), (8, .W), (9, .W), (10, .W), (11, .W), (12, .W)] .nil) mixed (by kernel_rfl) ?_
    intro w10 x8
    have sx8 := x8.size
    refine RW.pure tabOk 5 rfl ?_
    have h21 := h20.ext x8
    refine RW.load tabOk [.slice A1 p0.Devices.length c_1] ((h21.at 0).take 1 rfl) ⟨rfl, rfl, rfl, rfl⟩ rfl rfl rfl rfl ?_
    have h22 := ((gb4_0.ext x6).ext x7).ext x8
    refine RW.load tabOk [.int .i64 ib4_0_0] ((h22.at 0).take 1 rfl) ⟨rfl, rfl, rfl, rfl⟩ rfl rfl rfl rfl ?_
    have h23 := ((gF1_0.ext x6).ext x7).ext x8
    obtain ⟨y2, h24, H⟩ := bind_some H
    refine RW.callF (.inl rfl) ent86 ⟨rfl, rfl, rfl, rfl⟩ rfl rfl (room_Find.calls k A1 c_1 p0.Devices ib4_0_0 _ _ h23.all hl1 h24) ?_
    rintro _ w11 ⟨rfl, x9⟩
    refine ⟨_, rfl, x9, ?_⟩
    have sx9 := x9.size
    refine RW.pure tabOk 5 rfl ?_
    refine RW.done ?_
    refine NW.next ?_
    refine CW.seq ?_
    refine CW.ord [0, 1, 3, 7, 15, 31, 63, 127, 255, 511, 1023, 2047, 4095, 8191, 16383, 1023, 33791, 1023, 230399, 492543, 1016831, 2097151, 4194303, 8388607] (ofL [(0, .W), (1, .W), (2, .W), (3, .W), (4, .W), (5, .W), (6, .L), (7, .W), (8, .W), (9, .W), (10, .W), (11, .W), (12, .W), (13, .W), (15, .W), (17, .W), (14, .L), (16, .L), (18, .W), (19, .W), (20, .L), (21, .W), (22, .W), (23, .W)] .nil) mixed (by kernel_rfl) ?_
    intro w12 x10
    have sx10 := x10.size
    refine RW.pure tabOk 2 rfl ?_
    by_cases c2 : y2.2 = true
    ·
     rw [if_pos c2] at H
     refine RW.bool 19 (b' := true) (c2) rfl ?_
     refine RW.pure tabOk 4 rfl ?_
     have h25 := (h22.ext x9).ext x10
     refine RW.load tabOk [.int .i64 ib4_1_0] ((h25.at 1).take 1 rfl) ⟨rfl, rfl, rfl, rfl⟩ rfl rfl rfl rfl ?_
     refine RW.pure tabOk 3 rfl ?_
     by_cases c3 : 0 ≤ ib4_1_0
     ·
      rw [if_pos c3] at H
      refine RW.bool 27 (b' := true) (decide_eq_true c3) rfl ?_
      refine RW.pure tabOk 6 rfl ?_
      refine RW.load tabOk [.int .i64 ib4_1_0] ((h25.at 1).take 1 rfl) ⟨rfl, rfl, rfl, rfl⟩ rfl rfl rfl rfl ?_
      have h26 := (h21.ext x9).ext x10
      refine RW.load tabOk [.slice A1 p0.Devices.length c_1] ((h26.at 0).take 1 rfl) ⟨rfl, rfl, rfl, rfl⟩ rfl rfl rfl rfl ?_
      obtain ⟨g1, H⟩ := guard_some H
      have h27 := (h23.ext x9).ext x10
      obtain ⟨ad1, A4, c_4, A5, c_5, e1, a1, l6, h28, l7, h29⟩ := kDeviceR_at h27 g1.1 g1.2
      refine RW.index tabOk g1.1 g1.2 e1 ⟨rfl, rfl, rfl, rfl⟩ rfl rfl rfl rfl rfl rfl ?_
      refine RW.pure tabOk 1 rfl ?_
      refine RW.load tabOk [.int .i64 ((rd p0.Devices y2.1).Size)] ((a1.fld 1).take 1 rfl) ⟨rfl, rfl, rfl, rfl⟩ rfl rfl rfl rfl ?_
      refine RW.pure tabOk 3 rfl ?_
      refine RW.done ?_
      refine NW.next ?_
      refine CW.ret ?_
      have h30 := ((((gF2_0.ext x6).ext x7).ext x8).ext x9).ext x10
      have h31 := ((((gF3_0.ext x6).ext x7).ext x8).ext x9).ext x10
      have h32 := ((((h17.ext x6).ext x7).ext x8).ext x9).ext x10
      have h33 := Ext.trans (Ext.trans (Ext.trans (Ext.trans (Ext.trans x0_0 x6) x7) x8) x9) x10
      have h34 := Ext.trans (Ext.trans (Ext.trans (Ext.trans xc1 x7) x8) x9) x10
      have h35 := (((h19.ext x7).ext x8).ext x9).ext x10
      have h36 := ((((gb3_0.ext x6).ext x7).ext x8).ext x9).ext x10
      exact NW.ret1 rfl (by rfl) ⟨(decide (ib4_1_0 < ((rd p0.Devices y2.1).Size))), rfl, by omega, h27, h30, h31, h32, h33, h34, h35, h36, h25, H⟩
     ·
      rw [if_neg c3] at H
      refine RW.bool 27 (b' := false) (decide_eq_false c3) rfl ?_
      refine RW.pure tabOk 14 rfl ?_
      refine RW.done ?_
      refine NW.next ?_
      refine CW.ret ?_
      have h37 := (h23.ext x9).ext x10
      have h38 := ((((gF2_0.ext x6).ext x7).ext x8).ext x9).ext x10
      have h39 := ((((gF3_0.ext x6).ext x7).ext x8).ext x9).ext x10
      have h40 := ((((h17.ext x6).ext x7).ext x8).ext x9).ext x10
      have h41 := Ext.trans (Ext.trans (Ext.trans (Ext.trans (Ext.trans x0_0 x6) x7) x8) x9) x10
      have h42 := Ext.trans (Ext.trans (Ext.trans (Ext.trans xc1 x7) x8) x9) x10
      have h43 := (((h19.ext x7).ext x8).ext x9).ext x10
      have h44 := ((((gb3_0.ext x6).ext x7).ext x8).ext x9).ext x10
      exact NW.ret1 rfl (by rfl) ⟨false, rfl, by omega, h37, h38, h39, h40, h41, h42, h43, h44, h25, H⟩
    ·
     rw [if_neg c2] at H
     refine RW.bool 19 (b' := false) (bool_f c2) rfl ?_
     refine RW.pure tabOk 22 rfl ?_
     refine RW.done ?_
     refine NW.next ?_
     refine CW.ret ?_
     have h45 := (h23.ext x9).ext x10
     have h46 := ((((gF2_0.ext x6).ext x7).ext x8).ext x9).ext x10
     have h47 := ((((gF3_0.ext x6).ext x7).ext x8).ext x9).ext x10
     have h48 := ((((h17.ext x6).ext x7).ext x8).ext x9).ext x10
     have h49 := Ext.trans (Ext.trans (Ext.trans (Ext.trans (Ext.trans x0_0 x6) x7) x8) x9) x10
     have h50 := Ext.trans (Ext.trans (Ext.trans (Ext.trans xc1 x7) x8) x9) x10
     have h51 := (((h19.ext x7).ext x8).ext x9).ext x10
     have h52 := ((((gb3_0.ext x6).ext x7).ext x8).ext x9).ext x10
     have h53 := (h22.ext x9).ext x10
     exact NW.ret1 rfl (by rfl) ⟨false, rfl, by omega, h45, h46, h47, h48, h49, h50, h51, h52, h53, H⟩
   rintro _ w8 ⟨bt59_1, rfl, hle, gF1_1, gF2_1, gF3_1, gL0_b4_2_1, x0_1, x_xc1_1, gb1_1, gb3_1, gb4_1, H⟩
   refine ⟨_, rfl, x_xc1_1, ?_⟩
   unfold chain_Trace.j0 at H
   refine RW.pure tabOk 1 rfl ?_
   refine RW.done ?_
   refine NW.next ?_
   by_cases c4 : bt59_1 = true
   ·
    rw [if_pos c4] at H
    refine CW.cond_f rfl (not_f (c4)) ?_
    refine CW.skip ?_
    refine NW.next ?_
    refine CW.seq ?_
    refine CW.seqJ (fun a w13 => ∃ (bt80_2 : Bool), Sat 92 [(3, .pointer (some ⟨b1, 0, none⟩)), (6, .pointer (some ⟨b3, 0, none⟩)), (8, .pointer (some ⟨b4, 0, none⟩)), (80, .bool bt80_2)] a ∧ w8.heap.size ≤ w13.heap.size ∧ Sl kDeviceR w13.heap (okL [(0, some w.heap.size, none)]) A1 p0.Devices ∧ Sl kTableR w13.heap (okL [(0, some w.heap.size, none)]) A2 p0.Tables ∧ Sl kEntry w13.heap (okL [(0, some w.heap.size, none)]) A3 p0.Job.Table.List_ ∧ Ow kPtr 70 w13.heap (okL [(w5.heap.size, some w6.heap.size, some 70)]) (okL []) Ab4_2_0 cb4_2_0 lb4_2_0 ∧ Ext w w13 ∧ Box w13.heap b1 79 [.slice A1 p0.Devices.length c_1, .slice A2 p0.Tables.length c_2, .int .i64 p0.Job.Dev, .int .i64 p0.Job.At, .int .i64 p0.Job.Table.Dev, .int .i64 p0.Job.Table.Size, .slice A3 p0.Job.Table.List_.length c_3, .int .i64 p0.Next] ∧ Box w13.heap b3 121 [.int .i64 0, .int .i64 0, .slice none 0 0] ∧ Box w13.heap b4 121 [.int .i64 ib4_0_0, .int .i64 ib4_1_0, .slice Ab4_2_0 lb4_2_0.length cb4_2_0] ∧ chain_Trace.j1 p0 k ib4_0_0 ib4_1_0 lb4_2_0 bt80_2 = some r) ?_ ?_
    ·
     refine CW.lex [.W, .W, .W, .W, .L, .W, .W, .L, .W, .W, .W, .W, .W, .L, .W, .W, .L, .W, .W] rfl ?_
     refine RW.pure tabOk 2 rfl ?_
     by_cases c5 : p2 = true
     ·
      rw [if_pos c5] at H
      refine RW.bool 63 (b' := true) (c5) rfl ?_
      refine RW.pure tabOk 2 rfl ?_
      refine RW.load tabOk [.int .i64 ib4_0_0] ((gb4_1.at 0).take 1 rfl) ⟨rfl, rfl, rfl, rfl⟩ rfl rfl rfl rfl ?_
      refine RW.pure tabOk 2 rfl ?_
      refine RW.load tabOk [.int .i64 p0.Job.Dev] ((gb1_1.at 2).take 1 rfl) ⟨rfl, rfl, rfl, rfl⟩ rfl rfl rfl rfl ?_
      refine RW.pure tabOk 3 rfl ?_
      by_cases c6 : ib4_0_0 = p0.Job.Dev
      ·
       rw [if_pos c6] at H
       refine RW.bool 72 (b' := true) (beq_t c6) rfl ?_
       refine RW.pure tabOk 2 rfl ?_
       refine RW.load tabOk [.int .i64 ib4_1_0] ((gb4_1.at 1).take 1 rfl) ⟨rfl, rfl, rfl, rfl⟩ rfl rfl rfl rfl ?_
       refine RW.pure tabOk 2 rfl ?_
       refine RW.load tabOk [.int .i64 p0.Job.At] ((gb1_1.at 3).take 1 rfl) ⟨rfl, rfl, rfl, rfl⟩ rfl rfl rfl rfl ?_
       refine RW.pure tabOk 2 rfl ?_
       refine RW.done ?_
       exact NW.J fun a ha => ⟨(decide (ib4_1_0 < p0.Job.At)), ha.sub ⟨rfl, rfl, rfl, rfl, trivial⟩, by omega, gF1_1, gF2_1, gF3_1, gL0_b4_2_1, x0_1, gb1_1, gb3_1, gb4_1, H⟩
      ·
       rw [if_neg c6] at H
       refine RW.bool 72 (b' := false) (beq_f c6) rfl ?_
       refine RW.pure tabOk 8 rfl ?_
       refine RW.done ?_
       exact NW.J fun a ha => ⟨false, ha.sub ⟨rfl, rfl, rfl, rfl, trivial⟩, by omega, gF1_1, gF2_1, gF3_1, gL0_b4_2_1, x0_1, gb1_1, gb3_1, gb4_1, H⟩
     ·
      rw [if_neg c5] at H
      refine RW.bool 63 (b' := false) (bool_f c5) rfl ?_
      refine RW.pure tabOk 17 rfl ?_
      refine RW.done ?_
      exact NW.J fun a ha => ⟨false, ha.sub ⟨rfl, rfl, rfl, rfl, trivial⟩, by omega, gF1_1, gF2_1, gF3_1, gL0_b4_2_1, x0_1, gb1_1, gb3_1, gb4_1, H⟩
    intro a w13 hJ hp
    obtain ⟨bt80_2, hS, hle, gF1_2, gF2_2, gF3_2, gL0_b4_2_2, x0_2, gb1_2, gb3_2, gb4_2, H⟩ := hJ
    unfold chain_Trace.j1 at H
    refine CW.go hp hS ?_
    by_cases c7 : bt80_2 = true
    ·
     rw [if_pos c7] at H
     refine CW.cond_t rfl (c7) ?_
     refine CW.seqJ (fun a w14 => ∃ (bt11_3 : Bool) (ib4_0_3 : Int) (ib4_1_3 : Int) (lb4_2_3 : List Ptr) (Ab4_2_3 : Option Addr) (cb4_2_3 : Nat), Sat 92 [(6, .pointer (some ⟨b3, 0, none⟩)), (8, .pointer (some ⟨b4, 0, none⟩)), (11, .bool bt11_3)] a ∧ w13.heap.size ≤ w14.heap.size ∧ Ow kPtr 70 w14.heap (okL [(w5.heap.size, none, some 70)]) (okL []) Ab4_2_3 cb4_2_3 lb4_2_3 ∧ Ext w w14 ∧ Box w14.heap b3 121 [.int .i64 0, .int .i64 0, .slice none 0 0] ∧ Box w14.heap b4 121 [.int .i64 ib4_0_3, .int .i64 ib4_1_3, .slice Ab4_2_3 lb4_2_3.length cb4_2_3] ∧ chain_Trace.j2 bt11_3 ib4_0_3 ib4_1_3 lb4_2_3 = some r) ?_ ?_
     ·
      refine CW.lex [.W, .W, .L, .M, .W, .L, .X, .W, .W] rfl ?_
      refine RW.pure tabOk 2 rfl ?_
      refine RW.load tabOk [.int .i64 p0.Job.Table.Dev, .int .i64 p0.Job.Table.Size, .slice A3 p0.Job.Table.List_.length c_3] ((gb1_2.at 4).take 3 rfl) ⟨rfl, rfl, rfl, rfl⟩ rfl rfl rfl rfl ?_
      refine RW.callKM ent118 ⟨rfl, rfl, rfl, rfl⟩ rfl rfl rfl ?_
      refine calls_start Tryd.func118 rfl 35 rfl [.pointer (some ⟨b4, 0, none⟩), .agg #[.int .i64 p0.Job.Table.Dev, .int .i64 p0.Job.Table.Size, .slice A3 p0.Job.Table.List_.length c_3]] rfl ?_
      refine CW.seq ?_
      refine CW.lex [.X, .W] rfl ?_
      refine RW.box (cs := [.int .i64 p0.Job.Table.Dev, .int .i64 p0.Job.Table.Size, .slice A3 p0.Job.Table.List_.length c_3]) (.inl rfl) ⟨rfl, rfl, rfl, rfl⟩ rfl rfl rfl ?_
      intro b6 w15 x11 l8 h54
      have sx11 := x11.size
      have ltb6 := h54.lt
      refine RW.pure tabOk 1 rfl ?_
      refine RW.done ?_
      refine NW.next ?_
      refine CW.seq ?_
      refine CW.ord [0, 0, 2, 6, 14, 0, 32, 96, 224, 480, 1022, 2047, 4095, 8191] (ofL [(0, .W), (1, .W), (2, .W), (3, .W), (5, .W), (6, .W), (7, .W), (4, .L), (8, .L), (9, .X), (10, .M), (11, .W), (12, .W), (13, .M)] .nil) mixed (by kernel_rfl) ?_
      intro w16 x12
      have sx12 := x12.size
      refine RW.pure tabOk 7 rfl ?_
      have h55 := (gb4_2.ext x11).ext x12
      refine RW.load tabOk [.slice Ab4_2_0 lb4_2_0.length cb4_2_0] (h55.at 2) ⟨rfl, rfl, rfl, rfl⟩ rfl rfl rfl rfl ?_
      refine RW.load tabOk [.int .i64 ib4_0_0, .int .i64 ib4_1_0] ((h55.at 0).take 2 rfl) ⟨rfl, rfl, rfl, rfl⟩ rfl rfl rfl rfl ?_
      refine RW.buildSlice (cs := [.int .i64 ib4_0_0, .int .i64 ib4_1_0]) tabOk (.inl rfl) ⟨rfl, rfl, rfl, rfl⟩ rfl rfl rfl rfl rfl rfl rfl ?_
      intro b7 w17 x13 l9 h56
      have sx13 := x13.size
      have ltb7 := h56.lt
      have h57 := ((gL0_b4_2_2.ext x11).ext x12).ext x13
      obtain ⟨g2, H⟩ := guard_some H
      refine RW.append1L (d := kPtr) (v := (⟨ib4_0_0, ib4_1_0⟩ : Ptr)) (l := [(w5.heap.size, some w6.heap.size, some 70)]) (li := []) (ly := []) (xs := lb4_2_0) tabOk h57 h56 (kPtr_mk (⟨ib4_0_0, ib4_1_0⟩ : Ptr)) trivial (by simp only [maxLen]; omega) g2 ⟨rfl, rfl, rfl, rfl⟩ rfl rfl rfl rfl rfl rfl rfl ?_
      intro A6 c_6 w18 x14 h58
      have sx14 := x14.size
      have h59 := h58.close.sub (l' := [(w5.heap.size, some w18.heap.size, some 70)]) (li' := []) ⟨(.inl ⟨by omega, by omega, rfl⟩), ⟨(.inl ⟨by omega, by omega, rfl⟩), trivial⟩⟩ trivial
      refine RW.pure tabOk 2 rfl ?_
      have h60 := (h55.ext x13).turnL x14 (.inl (by decide))
      refine RW.storeBox tabOk h60 [.slice A6 (lb4_2_0 ++ [(⟨ib4_0_0, ib4_1_0⟩ : Ptr)]).length c_6] ⟨rfl, rfl, rfl⟩ rfl rfl rfl rfl rfl rfl rfl rfl ?_
      intro w19 x15 h61
      have h62 : Box w19.heap b4 121 [.int .i64 ib4_0_0, .int .i64 ib4_1_0, .slice A6 (lb4_2_0 ++ [(⟨ib4_0_0, ib4_1_0⟩ : Ptr)]).length c_6] := h61
      have sx15 := x15.size
      refine RW.done ?_
      refine NW.next ?_
      refine CW.seqJ (fun a w20 => ∃ (bt6_4 : Bool) (bk5_4 : Nat) (ibk5_4_0_4 : Int) (ibk5_4_1_4 : Int), Sat 35 [(0, .pointer (some ⟨b4, 0, none⟩)), (5, .pointer (some ⟨bk5_4, 0, none⟩)), (6, .bool bt6_4)] a ∧ w19.heap.size ≤ w20.heap.size ∧ Ow kPtr 70 w20.heap (okL [(w5.heap.size, some w18.heap.size, some 70)]) (okL []) A6 c_6 (lb4_2_0 ++ [(⟨ib4_0_0, ib4_1_0⟩ : Ptr)]) ∧ Sl kDeviceR w20.heap (okL [(0, some w.heap.size, none)]) A1 p0.Devices ∧ Sl kTableR w20.heap (okL [(0, some w.heap.size, none)]) A2 p0.Tables ∧ Sl kEntry w20.heap (okL [(0, some w.heap.size, none)]) A3 p0.Job.Table.List_ ∧ Ext w w20 ∧ Box w20.heap b4 121 [.int .i64 ib4_0_0, .int .i64 ib4_1_0, .slice A6 (lb4_2_0 ++ [(⟨ib4_0_0, ib4_1_0⟩ : Ptr)]).length c_6] ∧ Box w20.heap b1 79 [.slice A1 p0.Devices.length c_1, .slice A2 p0.Tables.length c_2, .int .i64 p0.Job.Dev, .int .i64 p0.Job.At, .int .i64 p0.Job.Table.Dev, .int .i64 p0.Job.Table.Size, .slice A3 p0.Job.Table.List_.length c_3, .int .i64 p0.Next] ∧ Box w20.heap b3 121 [.int .i64 0, .int .i64 0, .slice none 0 0] ∧ Box w20.heap bk5_4 70 [.int .i64 ibk5_4_0_4, .int .i64 ibk5_4_1_4] ∧ w19.heap.size ≤ bk5_4 ∧ chain_Trace.j3 p0 k ib4_0_0 ib4_1_0 lb4_2_0 bt6_4 ibk5_4_0_4 ibk5_4_1_4 = some r) ?_ ?_
      ·
       refine CW.ord [0, 0, 2, 6, 14, 30, 63, 127, 255, 255, 0, 1535, 4095] (ofL [(1, .W), (2, .W), (3, .W), (4, .W), (0, .L), (5, .L)] (.two 6 .X (ofL [(7, .W), (8, .W), (9, .W), (10, .X), (11, .M), (12, .W)] .nil) 10 .X (ofL [(6, .X), (7, .W), (8, .W), (9, .W), (11, .M), (12, .W)] .nil))) mixed (by kernel_rfl) ?_
       intro w21 x16
       have sx16 := x16.size
       refine RW.pure tabOk 4 rfl ?_
       have h63 := ((((h54.ext x12).ext x13).turnL x14 (.inl (by decide))).turnB x15 (by omega)).ext x16
       refine RW.load tabOk [.int .i64 p0.Job.Table.Dev, .int .i64 p0.Job.Table.Size, .slice A3 p0.Job.Table.List_.length c_3] (h63.at 0) ⟨rfl, rfl, rfl, rfl⟩ rfl rfl rfl rfl ?_
       have h64 := h62.ext x16
       refine RW.load tabOk [.int .i64 ib4_1_0] ((h64.at 1).take 1 rfl) ⟨rfl, rfl, rfl, rfl⟩ rfl rfl rfl rfl ?_
       refine RW.two ?_ ?_
       ·
        have h65 := (((((gF3_2.ext x11).ext x12).ext x13).turnL x14 ⟨⟨.inr (.inl (by omega)), trivial⟩, trivial⟩).turnB x15 h60 ⟨.inr (by omega), trivial⟩).ext x16
        obtain ⟨y3, h66, H⟩ := bind_some H
        refine RW.callF (.inl rfl) ent134 ⟨rfl, rfl, rfl, rfl⟩ rfl rfl (table_Find.calls k p0.Job.Table A3 c_3 ib4_1_0 _ _ h65.all hl3 h66) ?_
        rintro _ w22 ⟨rfl, x17⟩
        refine ⟨_, rfl, x17, ?_⟩
        have sx17 := x17.size
        refine RW.pure tabOk 3 rfl ?_
        refine RW.alloc tabOk (.inl rfl) ⟨rfl, rfl, rfl, rfl⟩ rfl rfl ?_
        intro b8 w23 x18 l10 h67
        have sx18 := x18.size
        have ltb8 := h67.lt
        refine RW.storeBox tabOk h67 [.int .i64 y3.1.Dev, .int .i64 y3.1.At] ⟨rfl, rfl, rfl⟩ rfl rfl rfl rfl rfl rfl rfl rfl ?_
        intro w24 x19 h68
        have h69 : Box w24.heap b8 70 [.int .i64 y3.1.Dev, .int .i64 y3.1.At] := h68
        have sx19 := x19.size
        refine RW.pure tabOk 1 rfl ?_
        refine RW.done ?_
        have h70 := ((((h59.turnB x15 h60 ⟨.inl (show (70 : Nat) ≠ 121 by decide), trivial⟩ trivial).ext x16).ext x17).ext x18).turnB x19 h67 ⟨.inr (by omega), trivial⟩ trivial
        have h71 := ((((((((gF1_2.ext x11).ext x12).ext x13).turnL x14 ⟨⟨.inr (.inl (by omega)), trivial⟩, trivial⟩).turnB x15 h60 ⟨.inr (by omega), trivial⟩).ext x16).ext x17).ext x18).turnB x19 h67 ⟨.inr (by omega), trivial⟩
        have h72 := ((((((((gF2_2.ext x11).ext x12).ext x13).turnL x14 ⟨⟨.inr (.inl (by omega)), trivial⟩, trivial⟩).turnB x15 h60 ⟨.inr (by omega), trivial⟩).ext x16).ext x17).ext x18).turnB x19 h67 ⟨.inr (by omega), trivial⟩
        have h73 := ((h65.ext x17).ext x18).turnB x19 h67 ⟨.inr (by omega), trivial⟩
        have h74 := Ext.turnB (Ext.trans (Ext.trans (Ext.trans (Ext.turnB (Ext.turn (Ext.trans (Ext.trans (Ext.trans x0_2 x11) x12) x13) x14 ⟨by omega, trivial⟩) x15 (by omega)) x16) x17) x18) x19 (by omega)
        have h75 := ((h64.ext x17).ext x18).turnB x19 (by omega)
        have h76 := ((((((((gb1_2.ext x11).ext x12).ext x13).turnL x14 (.inl (by decide))).turnB x15 (by omega)).ext x16).ext x17).ext x18).turnB x19 (by omega)
        have h77 := ((((((((gb3_2.ext x11).ext x12).ext x13).turnL x14 (.inl (by decide))).turnB x15 (by omega)).ext x16).ext x17).ext x18).turnB x19 (by omega)
        exact NW.J fun a ha => ⟨y3.2, b8, y3.1.Dev, y3.1.At, ha.sub ⟨rfl, rfl, rfl, trivial⟩, by omega, h70, h71, h72, h73, h74, h75, h76, h77, h69, by omega, H⟩
       ·
        refine RW.alloc tabOk (.inl rfl) ⟨rfl, rfl, rfl, rfl⟩ rfl rfl ?_
        intro b8 w22 x17 l10 h65
        have sx17 := x17.size
        have ltb8 := h65.lt
        have h66 := ((((((gF3_2.ext x11).ext x12).ext x13).turnL x14 ⟨⟨.inr (.inl (by omega)), trivial⟩, trivial⟩).turnB x15 h60 ⟨.inr (by omega), trivial⟩).ext x16).ext x17
        obtain ⟨y3, h67, H⟩ := bind_some H
        refine RW.callF (.inl rfl) ent134 ⟨rfl, rfl, rfl, rfl⟩ rfl rfl (table_Find.calls k p0.Job.Table A3 c_3 ib4_1_0 _ _ h66.all hl3 h67) ?_
        rintro _ w23 ⟨rfl, x18⟩
        refine ⟨_, rfl, x18, ?_⟩
        have sx18 := x18.size
        refine RW.pure tabOk 3 rfl ?_
        have h68 := h65.ext x18
        refine RW.storeBox tabOk h68 [.int .i64 y3.1.Dev, .int .i64 y3.1.At] ⟨rfl, rfl, rfl⟩ rfl rfl rfl rfl rfl rfl rfl rfl ?_
        intro w24 x19 h69
        have h70 : Box w24.heap b8 70 [.int .i64 y3.1.Dev, .int .i64 y3.1.At] := h69
        have sx19 := x19.size
        refine RW.pure tabOk 1 rfl ?_
        refine RW.done ?_
        have h71 := ((((h59.turnB x15 h60 ⟨.inl (show (70 : Nat) ≠ 121 by decide), trivial⟩ trivial).ext x16).ext x17).ext x18).turnB x19 h68 ⟨.inr (by omega), trivial⟩ trivial
        have h72 := ((((((((gF1_2.ext x11).ext x12).ext x13).turnL x14 ⟨⟨.inr (.inl (by omega)), trivial⟩, trivial⟩).turnB x15 h60 ⟨.inr (by omega), trivial⟩).ext x16).ext x17).ext x18).turnB x19 h68 ⟨.inr (by omega), trivial⟩
        have h73 := ((((((((gF2_2.ext x11).ext x12).ext x13).turnL x14 ⟨⟨.inr (.inl (by omega)), trivial⟩, trivial⟩).turnB x15 h60 ⟨.inr (by omega), trivial⟩).ext x16).ext x17).ext x18).turnB x19 h68 ⟨.inr (by omega), trivial⟩
        have h74 := (h66.ext x18).turnB x19 h68 ⟨.inr (by omega), trivial⟩
        have h75 := Ext.turnB (Ext.trans (Ext.trans (Ext.trans (Ext.turnB (Ext.turn (Ext.trans (Ext.trans (Ext.trans x0_2 x11) x12) x13) x14 ⟨by omega, trivial⟩) x15 (by omega)) x16) x17) x18) x19 (by omega)
        have h76 := ((h64.ext x17).ext x18).turnB x19 (by omega)
        have h77 := ((((((((gb1_2.ext x11).ext x12).ext x13).turnL x14 (.inl (by decide))).turnB x15 (by omega)).ext x16).ext x17).ext x18).turnB x19 (by omega)
        have h78 := ((((((((gb3_2.ext x11).ext x12).ext x13).turnL x14 (.inl (by decide))).turnB x15 (by omega)).ext x16).ext x17).ext x18).turnB x19 (by omega)
        exact NW.J fun a ha => ⟨y3.2, b8, y3.1.Dev, y3.1.At, ha.sub ⟨rfl, rfl, rfl, trivial⟩, by omega, h71, h72, h73, h74, h75, h76, h77, h78, h70, by omega, H⟩
      intro a w20 hJ hp
      obtain ⟨bt6_4, bk5_4, ibk5_4_0_4, ibk5_4_1_4, hS, hle, gF6_4, gF1_4, gF2_4, gF3_4, x0_4, gb4_4, gb1_4, gb3_4, gbk5_4_4, lobk5_4, H⟩ := hJ
      have ltbk5_4 := gbk5_4_4.lt
      unfold chain_Trace.j3 at H
      refine CW.go hp hS ?_
      refine CW.seq ?_
      refine CW.lex [.W, .L, .W, .W, .M] rfl ?_
      refine RW.pure tabOk 1 rfl ?_
      refine RW.load tabOk [.int .i64 ibk5_4_0_4, .int .i64 ibk5_4_1_4] (gbk5_4_4.at 0) ⟨rfl, rfl, rfl, rfl⟩ rfl rfl rfl rfl ?_
      refine RW.pure tabOk 2 rfl ?_
      refine RW.storeBox tabOk gb4_4 [.int .i64 ibk5_4_0_4, .int .i64 ibk5_4_1_4] ⟨rfl, rfl, rfl⟩ rfl rfl rfl rfl rfl rfl rfl rfl ?_
      intro w25 x20 h79
      have h80 : Box w25.heap b4 121 [.int .i64 ibk5_4_0_4, .int .i64 ibk5_4_1_4, .slice A6 (lb4_2_0 ++ [(⟨ib4_0_0, ib4_1_0⟩ : Ptr)]).length c_6] := h79
      have sx20 := x20.size
      refine RW.done ?_
      refine NW.next ?_
      refine CW.seq ?_
      refine CW.lex [.W, .W] rfl ?_
      refine RW.pure tabOk 2 rfl ?_
      refine RW.done ?_
      refine NW.next ?_
      refine CW.ret ?_
      refine NW.ret1 rfl (by rfl) ⟨_, rfl, ?_⟩
      refine RW.pure tabOk 1 rfl ?_
      by_cases c8 : bt6_4 = true
      ·
       rw [if_pos c8] at H
       refine RW.bool 85 (b' := true) (c8) rfl ?_
       have h81 := gb1_4.turnB x20 (by omega)
       refine RW.load tabOk [.slice A1 p0.Devices.length c_1, .slice A2 p0.Tables.length c_2, .int .i64 p0.Job.Dev, .int .i64 p0.Job.At, .int .i64 p0.Job.Table.Dev, .int .i64 p0.Job.Table.Size, .slice A3 p0.Job.Table.List_.length c_3, .int .i64 p0.Next] (h81.at 0) ⟨rfl, rfl, rfl, rfl⟩ rfl rfl rfl rfl ?_
       have xc2 : Ext w25 w25 := Upd.refl _ _
       refine RW.callV (R := fun e w26 => ∃ (bt87_5 : Bool), e = .returned (.bool bt87_5) ∧ w25.heap.size ≤ w26.heap.size ∧ Ow kPtr 70 w26.heap (okL [(w5.heap.size, some w18.heap.size, some 70)]) (okL []) A6 c_6 (lb4_2_0 ++ [(⟨ib4_0_0, ib4_1_0⟩ : Ptr)]) ∧ Ext w w26 ∧ Ext w25 w26 ∧ Box w26.heap b3 121 [.int .i64 0, .int .i64 0, .slice none 0 0] ∧ Box w26.heap b4 121 [.int .i64 ibk5_4_0_4, .int .i64 ibk5_4_1_4, .slice A6 (lb4_2_0 ++ [(⟨ib4_0_0, ib4_1_0⟩ : Ptr)]).length c_6] ∧ chain_Trace.j4 ib4_0_0 ib4_1_0 lb4_2_0 ibk5_4_0_4 ibk5_4_1_4 bt87_5 = some r) (.inl rfl) ent119 ⟨rfl, rfl, rfl, rfl⟩ rfl rfl rfl ?_ ?_
       ·
        refine calls_start Tryd.func119 rfl 41 rfl [.pointer (some ⟨b4, 0, none⟩), .agg #[.slice A1 p0.Devices.length c_1, .slice A2 p0.Tables.length c_2, .int .i64 p0.Job.Dev, .int .i64 p0.Job.At, .int .i64 p0.Job.Table.Dev, .int .i64 p0.Job.Table.Size, .slice A3 p0.Job.Table.List_.length c_3, .int .i64 p0.Next]] rfl ?_
        refine CW.seq ?_
        refine CW.lex [.X, .W] rfl ?_
        refine RW.box (cs := [.slice A1 p0.Devices.length c_1, .slice A2 p0.Tables.length c_2, .int .i64 p0.Job.Dev, .int .i64 p0.Job.At, .int .i64 p0.Job.Table.Dev, .int .i64 p0.Job.Table.Size, .slice A3 p0.Job.Table.List_.length c_3, .int .i64 p0.Next]) (.inl rfl) ⟨rfl, rfl, rfl, rfl⟩ rfl rfl rfl ?_
        intro b9 w27 x21 l11 h82
        have sx21 := x21.size
        have ltb9 := h82.lt
        refine RW.pure tabOk 1 rfl ?_
        refine RW.done ?_
        refine NW.next ?_
        refine CW.seq ?_
        refine CW.ord [0, 1, 0, 4, 12, 28, 60, 127, 255, 511, 511, 1023, 4095] (ofL [(0, .W), (2, .W), (3, .W), (4, .W), (5, .W), (1, .L), (6, .L), (7, .X), (8, .W), (9, .W), (10, .W), (11, .W), (12, .W)] .nil) mixed (by kernel_rfl) ?_
        intro w28 x22
        have sx22 := x22.size
        refine RW.pure tabOk 5 rfl ?_
        have h83 := h82.ext x22
        refine RW.load tabOk [.slice A1 p0.Devices.length c_1] ((h83.at 0).take 1 rfl) ⟨rfl, rfl, rfl, rfl⟩ rfl rfl rfl rfl ?_
        have h84 := (h80.ext x21).ext x22
        refine RW.load tabOk [.int .i64 ibk5_4_0_4] ((h84.at 0).take 1 rfl) ⟨rfl, rfl, rfl, rfl⟩ rfl rfl rfl rfl ?_
        have h85 := ((gF1_4.turnB x20 gb4_4 ⟨.inr (by omega), trivial⟩).ext x21).ext x22
        obtain ⟨y4, h86, H⟩ := bind_some H
        refine RW.callF (.inl rfl) ent86 ⟨rfl, rfl, rfl, rfl⟩ rfl rfl (room_Find.calls k A1 c_1 p0.Devices ibk5_4_0_4 _ _ h85.all hl1 h86) ?_
        rintro _ w29 ⟨rfl, x23⟩
        refine ⟨_, rfl, x23, ?_⟩
        have sx23 := x23.size
        refine RW.pure tabOk 5 rfl ?_
        refine RW.done ?_
        refine NW.next ?_
        refine CW.seq ?_
        refine CW.ord [0, 1, 3, 7, 15, 31, 63, 127, 255, 511, 1023, 2047, 4095, 8191, 16383, 1023, 33791, 1023, 230399, 492543, 1016831, 2097151, 4194303, 8388607] (ofL [(0, .W), (1, .W), (2, .W), (3, .W), (4, .W), (5, .W), (6, .L), (7, .W), (8, .W), (9, .W), (10, .W), (11, .W), (12, .W), (13, .W), (15, .W), (17, .W), (14, .L), (16, .L), (18, .W), (19, .W), (20, .L), (21, .W), (22, .W), (23, .W)] .nil) mixed (by kernel_rfl) ?_
        intro w30 x24
        have sx24 := x24.size
        refine RW.pure tabOk 2 rfl ?_
        by_cases c9 : y4.2 = true
        ·
         rw [if_pos c9] at H
         refine RW.bool 19 (b' := true) (c9) rfl ?_
         refine RW.pure tabOk 4 rfl ?_
         have h87 := (h84.ext x23).ext x24
         refine RW.load tabOk [.int .i64 ibk5_4_1_4] ((h87.at 1).take 1 rfl) ⟨rfl, rfl, rfl, rfl⟩ rfl rfl rfl rfl ?_
         refine RW.pure tabOk 3 rfl ?_
         by_cases c10 : 0 ≤ ibk5_4_1_4
         ·
          rw [if_pos c10] at H
          refine RW.bool 27 (b' := true) (decide_eq_true c10) rfl ?_
          refine RW.pure tabOk 6 rfl ?_
          refine RW.load tabOk [.int .i64 ibk5_4_1_4] ((h87.at 1).take 1 rfl) ⟨rfl, rfl, rfl, rfl⟩ rfl rfl rfl rfl ?_
          have h88 := (h83.ext x23).ext x24
          refine RW.load tabOk [.slice A1 p0.Devices.length c_1] ((h88.at 0).take 1 rfl) ⟨rfl, rfl, rfl, rfl⟩ rfl rfl rfl rfl ?_
          obtain ⟨g3, H⟩ := guard_some H
          have h89 := (h85.ext x23).ext x24
          obtain ⟨ad2, A7, c_7, A8, c_8, e2, a2, l12, h90, l13, h91⟩ := kDeviceR_at h89 g3.1 g3.2
          refine RW.index tabOk g3.1 g3.2 e2 ⟨rfl, rfl, rfl, rfl⟩ rfl rfl rfl rfl rfl rfl ?_
          refine RW.pure tabOk 1 rfl ?_
          refine RW.load tabOk [.int .i64 ((rd p0.Devices y4.1).Size)] ((a2.fld 1).take 1 rfl) ⟨rfl, rfl, rfl, rfl⟩ rfl rfl rfl rfl ?_
          refine RW.pure tabOk 3 rfl ?_
          refine RW.done ?_
          refine NW.next ?_
          refine CW.ret ?_
          have h92 := ((((gF6_4.turnB x20 gb4_4 ⟨.inl (show (70 : Nat) ≠ 121 by decide), trivial⟩ trivial).ext x21).ext x22).ext x23).ext x24
          have h93 := Ext.trans (Ext.trans (Ext.trans (Ext.trans (Ext.turnB x0_4 x20 (by omega)) x21) x22) x23) x24
          have h94 := Ext.trans (Ext.trans (Ext.trans (Ext.trans xc2 x21) x22) x23) x24
          have h95 := ((((gb3_4.turnB x20 (by omega)).ext x21).ext x22).ext x23).ext x24
          exact NW.ret1 rfl (by rfl) ⟨(decide (ibk5_4_1_4 < ((rd p0.Devices y4.1).Size))), rfl, by omega, h92, h93, h94, h95, h87, H⟩
         ·
          rw [if_neg c10] at H
          refine RW.bool 27 (b' := false) (decide_eq_false c10) rfl ?_
          refine RW.pure tabOk 14 rfl ?_
          refine RW.done ?_
          refine NW.next ?_
          refine CW.ret ?_
          have h96 := ((((gF6_4.turnB x20 gb4_4 ⟨.inl (show (70 : Nat) ≠ 121 by decide), trivial⟩ trivial).ext x21).ext x22).ext x23).ext x24
          have h97 := Ext.trans (Ext.trans (Ext.trans (Ext.trans (Ext.turnB x0_4 x20 (by omega)) x21) x22) x23) x24
          have h98 := Ext.trans (Ext.trans (Ext.trans (Ext.trans xc2 x21) x22) x23) x24
          have h99 := ((((gb3_4.turnB x20 (by omega)).ext x21).ext x22).ext x23).ext x24
          exact NW.ret1 rfl (by rfl) ⟨false, rfl, by omega, h96, h97, h98, h99, h87, H⟩
        ·
         rw [if_neg c9] at H
         refine RW.bool 19 (b' := false) (bool_f c9) rfl ?_
         refine RW.pure tabOk 22 rfl ?_
         refine RW.done ?_
         refine NW.next ?_
         refine CW.ret ?_
         have h100 := ((((gF6_4.turnB x20 gb4_4 ⟨.inl (show (70 : Nat) ≠ 121 by decide), trivial⟩ trivial).ext x21).ext x22).ext x23).ext x24
         have h101 := Ext.trans (Ext.trans (Ext.trans (Ext.trans (Ext.turnB x0_4 x20 (by omega)) x21) x22) x23) x24
         have h102 := Ext.trans (Ext.trans (Ext.trans (Ext.trans xc2 x21) x22) x23) x24
         have h103 := ((((gb3_4.turnB x20 (by omega)).ext x21).ext x22).ext x23).ext x24
         have h104 := (h84.ext x23).ext x24
         exact NW.ret1 rfl (by rfl) ⟨false, rfl, by omega, h100, h101, h102, h103, h104, H⟩
       rintro _ w26 ⟨bt87_5, rfl, hle, gF6_5, x0_5, x_xc2_5, gb3_5, gb4_5, H⟩
       refine ⟨_, rfl, x_xc2_5, ?_⟩
       unfold chain_Trace.j4 at H
       refine RW.pure tabOk 2 rfl ?_
       refine RW.done ?_
       exact NW.J fun a ha => ⟨bt87_5, ibk5_4_0_4, ibk5_4_1_4, (lb4_2_0 ++ [(⟨ib4_0_0, ib4_1_0⟩ : Ptr)]), A6, c_6, ha.sub ⟨rfl, rfl, rfl, trivial⟩, by omega, (gF6_5.sub ⟨(.inl ⟨by omega, trivial, rfl⟩), trivial⟩ trivial), x0_5, gb3_5, gb4_5, H⟩
      ·
       rw [if_neg c8] at H
       refine RW.bool 85 (b' := false) (bool_f c8) rfl ?_
       refine RW.pure tabOk 4 rfl ?_
       refine RW.done ?_
       have h105 := gF6_4.turnB x20 gb4_4 ⟨.inl (show (70 : Nat) ≠ 121 by decide), trivial⟩ trivial
       have h106 := Ext.turnB x0_4 x20 (by omega)
       have h107 := gb3_4.turnB x20 (by omega)
       exact NW.J fun a ha => ⟨false, ibk5_4_0_4, ibk5_4_1_4, (lb4_2_0 ++ [(⟨ib4_0_0, ib4_1_0⟩ : Ptr)]), A6, c_6, ha.sub ⟨rfl, rfl, rfl, trivial⟩, by omega, (h105.sub ⟨(.inl ⟨by omega, trivial, rfl⟩), trivial⟩ trivial), h106, h107, h80, H⟩
     intro a w14 hJ hp
     obtain ⟨bt11_3, ib4_0_3, ib4_1_3, lb4_2_3, Ab4_2_3, cb4_2_3, hS, hle, fb4_2_3, x0_3, gb3_3, gb4_3, H⟩ := hJ
     unfold chain_Trace.j2 at H
     refine CW.go hp hS ?_
     have h108 : Ow kPtr 70 w14.heap (okL [(w5.heap.size, some w14.heap.size, some 70)]) (okL []) Ab4_2_3 cb4_2_3 lb4_2_3 := fb4_2_3.close
     refine CW.seq ?_
     refine CW.lex [.L, .W, .M, .W] rfl ?_
     refine RW.load tabOk [.int .i64 ib4_0_3, .int .i64 ib4_1_3, .slice Ab4_2_3 lb4_2_3.length cb4_2_3] (gb4_3.at 0) ⟨rfl, rfl, rfl, rfl⟩ rfl rfl rfl rfl ?_
     refine RW.pure tabOk 1 rfl ?_
     refine RW.storeBox tabOk gb3_3 [.int .i64 ib4_0_3, .int .i64 ib4_1_3, .slice Ab4_2_3 lb4_2_3.length cb4_2_3] ⟨rfl, rfl, rfl⟩ rfl rfl rfl rfl rfl rfl rfl rfl ?_
     intro w31 x25 h109
     have h110 : Box w31.heap b3 121 [.int .i64 ib4_0_3, .int .i64 ib4_1_3, .slice Ab4_2_3 lb4_2_3.length cb4_2_3] := h109
     have sx25 := x25.size
     refine RW.pure tabOk 1 rfl ?_
     refine RW.done ?_
     refine NW.next ?_
     refine CW.ret ?_
     refine NW.ret_then ?_
     have h111 := h108.turnB x25 gb3_3 ⟨.inl (show (70 : Nat) ≠ 121 by decide), trivial⟩ trivial
     obtain rfl := Option.some.inj H
     have h112 := Ext.turnB x0_3 x25 (by omega)
     exact NW.ret2 rfl (resOne_cell tabOk (h110.at 0) rfl rfl rfl) (by rfl) ⟨Ab4_2_3, cb4_2_3, rfl, h112, (h111.sub (l' := [(w.heap.size, none, some 70)]) (li' := []) ⟨(.inl ⟨by omega, trivial, rfl⟩), trivial⟩ trivial)⟩
    ·
     rw [if_neg c7] at H
     refine CW.cond_f rfl (bool_f c7) ?_
     refine CW.skip ?_
     refine NW.next ?_
     refine CW.seq ?_
     refine CW.lex [.L, .M, .W] rfl ?_
     refine RW.load tabOk [.int .i64 ib4_0_0, .int .i64 ib4_1_0, .slice Ab4_2_0 lb4_2_0.length cb4_2_0] (gb4_2.at 0) ⟨rfl, rfl, rfl, rfl⟩ rfl rfl rfl rfl ?_
     refine RW.storeBox tabOk gb3_2 [.int .i64 ib4_0_0, .int .i64 ib4_1_0, .slice Ab4_2_0 lb4_2_0.length cb4_2_0] ⟨rfl, rfl, rfl⟩ rfl rfl rfl rfl rfl rfl rfl rfl ?_
     intro w32 x26 h113
     have h114 : Box w32.heap b3 121 [.int .i64 ib4_0_0, .int .i64 ib4_1_0, .slice Ab4_2_0 lb4_2_0.length cb4_2_0] := h113
     have sx26 := x26.size
     refine RW.pure tabOk 1 rfl ?_
     refine RW.done ?_
     refine NW.next ?_
     refine CW.ret ?_
     have h115 := gL0_b4_2_2.turnB x26 gb3_2 ⟨.inl (show (70 : Nat) ≠ 121 by decide), trivial⟩ trivial
     obtain rfl := Option.some.inj H
     have h116 := Ext.turnB x0_2 x26 (by omega)
     exact NW.ret2 rfl (resOne_cell tabOk (h114.at 0) rfl rfl rfl) (by rfl) ⟨Ab4_2_0, cb4_2_0, rfl, h116, (h115.sub (l' := [(w.heap.size, none, some 70)]) (li' := []) ⟨(.inl ⟨by omega, trivial, rfl⟩), trivial⟩ trivial)⟩
   ·
    rw [if_neg c4] at H
    refine CW.cond_t rfl (not_t (bool_f c4)) ?_
    refine CW.seq ?_
    refine CW.lex [.L, .M, .W] rfl ?_
    refine RW.load tabOk [.int .i64 ib4_0_0, .int .i64 ib4_1_0, .slice Ab4_2_0 lb4_2_0.length cb4_2_0] (gb4_1.at 0) ⟨rfl, rfl, rfl, rfl⟩ rfl rfl rfl rfl ?_
    refine RW.storeBox tabOk gb3_1 [.int .i64 ib4_0_0, .int .i64 ib4_1_0, .slice Ab4_2_0 lb4_2_0.length cb4_2_0] ⟨rfl, rfl, rfl⟩ rfl rfl rfl rfl rfl rfl rfl rfl ?_
    intro w33 x27 h117
    have h118 : Box w33.heap b3 121 [.int .i64 ib4_0_0, .int .i64 ib4_1_0, .slice Ab4_2_0 lb4_2_0.length cb4_2_0] := h117
    have sx27 := x27.size
    refine RW.pure tabOk 1 rfl ?_
    refine RW.done ?_
    refine NW.next ?_
    refine CW.ret ?_
    refine NW.ret_then ?_
    have h119 := gL0_b4_2_1.turnB x27 gb3_1 ⟨.inl (show (70 : Nat) ≠ 121 by decide), trivial⟩ trivial
    obtain rfl := Option.some.inj H
    have h120 := Ext.turnB x0_1 x27 (by omega)
    exact NW.ret2 rfl (resOne_cell tabOk (h118.at 0) rfl rfl rfl) (by rfl) ⟨Ab4_2_0, cb4_2_0, rfl, h120, (h119.sub (l' := [(w.heap.size, none, some 70)]) (li' := []) ⟨(.inl ⟨by omega, trivial, rfl⟩), trivial⟩ trivial)⟩
  ·
   rw [if_neg c1] at H
   refine CW.cond_t rfl (not_t (bool_f c1)) ?_
   refine CW.skip ?_
   refine NW.next ?_
   refine CW.block ?_
   refine CW.seq ?_
   refine CW.lex [.L, .W, .W, .L, .X, .W, .W, .W, .W, .W] rfl ?_
   have h121 := gb1_0.ext x6
   refine RW.load tabOk [.slice A1 p0.Devices.length c_1, .slice A2 p0.Tables.length c_2, .int .i64 p0.Job.Dev, .int .i64 p0.Job.At, .int .i64 p0.Job.Table.Dev, .int .i64 p0.Job.Table.Size, .slice A3 p0.Job.Table.List_.length c_3, .int .i64 p0.Next] (h121.at 0) ⟨rfl, rfl, rfl, rfl⟩ rfl rfl rfl rfl ?_
   refine RW.pure tabOk 2 rfl ?_
   have h122 := gb4_0.ext x6
   refine RW.load tabOk [.int .i64 ib4_0_0] ((h122.at 0).take 1 rfl) ⟨rfl, rfl, rfl, rfl⟩ rfl rfl rfl rfl ?_
   have h123 := gF1_0.ext x6
   have h124 := gF2_0.ext x6
   have h125 := gF3_0.ext x6
   obtain ⟨y5, h126, H⟩ := bind_some H
   refine RW.callF (.inl rfl) ent98 ⟨rfl, rfl, rfl, rfl⟩ rfl rfl (chain_Find.calls k p0 A1 c_1 A2 c_2 A3 c_3 ib4_0_0 _ _ h123.all hl1 h124.all hl2 h125.all hl3 h126) ?_
   rintro _ w34 ⟨rfl, x28⟩
   refine ⟨_, rfl, x28, ?_⟩
   have sx28 := x28.size
   refine RW.pure tabOk 5 rfl ?_
   refine RW.done ?_
   refine NW.next ?_
   refine CW.seqJ (fun a w35 => ∃ (bt56_6 : Bool) (ib4_0_6 : Int) (ib4_1_6 : Int) (lb4_2_6 : List Ptr) (Ab4_2_6 : Option Addr) (cb4_2_6 : Nat), Sat 92 [(2, .bool p2), (3, .pointer (some ⟨b1, 0, none⟩)), (6, .pointer (some ⟨b3, 0, none⟩)), (8, .pointer (some ⟨b4, 0, none⟩)), (56, .bool bt56_6)] a ∧ w34.heap.size ≤ w35.heap.size ∧ Sl kDeviceR w35.heap (okL [(0, some w.heap.size, none)]) A1 p0.Devices ∧ Sl kTableR w35.heap (okL [(0, some w.heap.size, none)]) A2 p0.Tables ∧ Sl kEntry w35.heap (okL [(0, some w.heap.size, none)]) A3 p0.Job.Table.List_ ∧ Ow kPtr 70 w35.heap (okL [(w5.heap.size, none, some 70)]) (okL []) Ab4_2_6 cb4_2_6 lb4_2_6 ∧ Ext w w35 ∧ Box w35.heap b1 79 [.slice A1 p0.Devices.length c_1, .slice A2 p0.Tables.length c_2, .int .i64 p0.Job.Dev, .int .i64 p0.Job.At, .int .i64 p0.Job.Table.Dev, .int .i64 p0.Job.Table.Size, .slice A3 p0.Job.Table.List_.length c_3, .int .i64 p0.Next] ∧ Box w35.heap b3 121 [.int .i64 0, .int .i64 0, .slice none 0 0] ∧ Box w35.heap b4 121 [.int .i64 ib4_0_6, .int .i64 ib4_1_6, .slice Ab4_2_6 lb4_2_6.length cb4_2_6] ∧ chain_Trace.j5 (chain_Trace.l0 p0 p2 k n1) bt56_6 ib4_0_6 ib4_1_6 lb4_2_6 = some r) ?_ ?_
   ·
    refine CW.ord [0, 1, 3, 7, 15, 31, 63, 127, 255, 511, 1023, 2047, 511, 4607, 511, 29183, 61951, 127487, 262143, 524287, 1048575, 2097151, 4194303, 2097151, 16777215, 33554431, 67108863, 134217727, 268435455] (ofL [(0, .W), (1, .W), (2, .W), (3, .W), (4, .W), (5, .L), (6, .W), (7, .W), (8, .W), (9, .W), (10, .W), (12, .W), (14, .W), (11, .L), (13, .L), (15, .W), (16, .W), (17, .L), (18, .W), (19, .W), (20, .W), (21, .W), (23, .W), (22, .L), (24, .W), (25, .L), (26, .M), (27, .W), (28, .W)] .nil) mixed (by kernel_rfl) ?_
    intro w36 x29
    have sx29 := x29.size
    refine RW.pure tabOk 3 rfl ?_
    by_cases c11 : y5.2 = true
    ·
     rw [if_pos c11] at H
     refine RW.bool 30 (b' := false) (not_f (c11)) rfl ?_
     refine RW.pure tabOk 2 rfl ?_
     have h127 := (h122.ext x28).ext x29
     refine RW.load tabOk [.int .i64 ib4_1_0] ((h127.at 1).take 1 rfl) ⟨rfl, rfl, rfl, rfl⟩ rfl rfl rfl rfl ?_
     refine RW.pure tabOk 3 rfl ?_
     by_cases c12 : ib4_1_0 < 0
     ·
      rw [if_pos c12] at H
      refine RW.bool 36 (b' := true) (decide_eq_true c12) rfl ?_
      refine RW.pure tabOk 20 rfl ?_
      refine RW.done ?_
      have h128 := (h123.ext x28).ext x29
      have h129 := (h124.ext x28).ext x29
      have h130 := (h125.ext x28).ext x29
      have h131 := ((h17.ext x6).ext x28).ext x29
      have h132 := Ext.trans (Ext.trans (Ext.trans x0_0 x6) x28) x29
      have h133 := (h121.ext x28).ext x29
      have h134 := ((gb3_0.ext x6).ext x28).ext x29
      exact NW.J fun a ha => ⟨true, ib4_0_0, ib4_1_0, lb4_2_0, Ab4_2_0, cb4_2_0, ha.sub ⟨rfl, rfl, rfl, rfl, rfl, trivial⟩, by omega, h128, h129, h130, (h131.sub ⟨(.inl ⟨by omega, trivial, rfl⟩), trivial⟩ trivial), h132, h133, h134, h127, H⟩
     ·
      rw [if_neg c12] at H
      refine RW.bool 36 (b' := false) (decide_eq_false c12) rfl ?_
      refine RW.pure tabOk 4 rfl ?_
      refine RW.load tabOk [.int .i64 ib4_1_0] ((h127.at 1).take 1 rfl) ⟨rfl, rfl, rfl, rfl⟩ rfl rfl rfl rfl ?_
      have h135 := (h121.ext x28).ext x29
      refine RW.load tabOk [.slice A2 p0.Tables.length c_2] ((h135.at 1).take 1 rfl) ⟨rfl, rfl, rfl, rfl⟩ rfl rfl rfl rfl ?_
      obtain ⟨g4, H⟩ := guard_some H
      have h136 := (h124.ext x28).ext x29
      obtain ⟨ad3, A9, c_9, e3, a3, l14, h137⟩ := kTableR_at h136 g4.1 g4.2
      refine RW.index tabOk g4.1 g4.2 e3 ⟨rfl, rfl, rfl, rfl⟩ rfl rfl rfl rfl rfl rfl ?_
      refine RW.pure tabOk 1 rfl ?_
      refine RW.load tabOk [.int .i64 ((rd p0.Tables y5.1).Size)] ((a3.fld 1).take 1 rfl) ⟨rfl, rfl, rfl, rfl⟩ rfl rfl rfl rfl ?_
      refine RW.pure tabOk 3 rfl ?_
      by_cases c13 : ((rd p0.Tables y5.1).Size) ≤ ib4_1_0
      ·
       rw [if_pos c13] at H
       refine RW.bool 48 (b' := true) (decide_eq_true c13) rfl ?_
       refine RW.pure tabOk 8 rfl ?_
       refine RW.done ?_
       have h138 := (h123.ext x28).ext x29
       have h139 := (h125.ext x28).ext x29
       have h140 := ((h17.ext x6).ext x28).ext x29
       have h141 := Ext.trans (Ext.trans (Ext.trans x0_0 x6) x28) x29
       have h142 := ((gb3_0.ext x6).ext x28).ext x29
       exact NW.J fun a ha => ⟨true, ib4_0_0, ib4_1_0, lb4_2_0, Ab4_2_0, cb4_2_0, ha.sub ⟨rfl, rfl, rfl, rfl, rfl, trivial⟩, by omega, h138, h136, h139, (h140.sub ⟨(.inl ⟨by omega, trivial, rfl⟩), trivial⟩ trivial), h141, h135, h142, h127, H⟩
      ·
       rw [if_neg c13] at H
       refine RW.bool 48 (b' := false) (decide_eq_false c13) rfl ?_
       refine RW.pure tabOk 2 rfl ?_
       refine RW.load tabOk [.slice A2 p0.Tables.length c_2] ((h135.at 1).take 1 rfl) ⟨rfl, rfl, rfl, rfl⟩ rfl rfl rfl rfl ?_
       obtain ⟨g5, H⟩ := guard_some H
       obtain ⟨ad4, A10, c_10, e4, a4, l15, h143⟩ := kTableR_at h136 g5.1 g5.2
       refine RW.index tabOk g5.1 g5.2 e4 ⟨rfl, rfl, rfl, rfl⟩ rfl rfl rfl rfl rfl rfl ?_
       refine RW.load tabOk [.int .i64 ((rd p0.Tables y5.1).Dev), .int .i64 ((rd p0.Tables y5.1).Size), .slice A10 ((rd p0.Tables y5.1).List_).length c_10] a4 ⟨rfl, rfl, rfl, rfl⟩ rfl rfl rfl rfl ?_
       refine RW.callKM ent118 ⟨rfl, rfl, rfl, rfl⟩ rfl rfl rfl ?_
       refine calls_start Tryd.func118 rfl 35 rfl [.pointer (some ⟨b4, 0, none⟩), .agg #[.int .i64 ((rd p0.Tables y5.1).Dev), .int .i64 ((rd p0.Tables y5.1).Size), .slice A10 ((rd p0.Tables y5.1).List_).length c_10]] rfl ?_
       refine CW.seq ?_
       refine CW.lex [.X, .W] rfl ?_
       refine RW.box (cs := [.int .i64 ((rd p0.Tables y5.1).Dev), .int .i64 ((rd p0.Tables y5.1).Size), .slice A10 ((rd p0.Tables y5.1).List_).length c_10]) (.inl rfl) ⟨rfl, rfl, rfl, rfl⟩ rfl rfl rfl ?_
       intro b10 w37 x30 l16 h144
       have sx30 := x30.size
       have ltb10 := h144.lt
       refine RW.pure tabOk 1 rfl ?_
       refine RW.done ?_
       refine NW.next ?_
       refine CW.seq ?_
       refine CW.ord [0, 0, 2, 6, 14, 0, 32, 96, 224, 480, 1022, 2047, 4095, 8191] (ofL [(0, .W), (1, .W), (2, .W), (3, .W), (5, .W), (6, .W), (7, .W), (4, .L), (8, .L), (9, .X), (10, .M), (11, .W), (12, .W), (13, .M)] .nil) mixed (by kernel_rfl) ?_
       intro w38 x31
       have sx31 := x31.size
       refine RW.pure tabOk 7 rfl ?_
       have h145 := (h127.ext x30).ext x31
       refine RW.load tabOk [.slice Ab4_2_0 lb4_2_0.length cb4_2_0] (h145.at 2) ⟨rfl, rfl, rfl, rfl⟩ rfl rfl rfl rfl ?_
       refine RW.load tabOk [.int .i64 ib4_0_0, .int .i64 ib4_1_0] ((h145.at 0).take 2 rfl) ⟨rfl, rfl, rfl, rfl⟩ rfl rfl rfl rfl ?_
       refine RW.buildSlice (cs := [.int .i64 ib4_0_0, .int .i64 ib4_1_0]) tabOk (.inl rfl) ⟨rfl, rfl, rfl, rfl⟩ rfl rfl rfl rfl rfl rfl rfl ?_
       intro b11 w39 x32 l17 h146
       have sx32 := x32.size
       have ltb11 := h146.lt
       have h147 := (((((h17.ext x6).ext x28).ext x29).ext x30).ext x31).ext x32
       obtain ⟨g6, H⟩ := guard_some H
       refine RW.append1L (d := kPtr) (v := (⟨ib4_0_0, ib4_1_0⟩ : Ptr)) (l := [(w5.heap.size, some w6.heap.size, some 70)]) (li := []) (ly := []) (xs := lb4_2_0) tabOk h147 h146 (kPtr_mk (⟨ib4_0_0, ib4_1_0⟩ : Ptr)) trivial (by simp only [maxLen]; omega) g6 ⟨rfl, rfl, rfl, rfl⟩ rfl rfl rfl rfl rfl rfl rfl ?_
       intro A11 c_11 w40 x33 h148
       have sx33 := x33.size
       have h149 := h148.close.sub (l' := [(w5.heap.size, some w40.heap.size, some 70)]) (li' := []) ⟨(.inl ⟨by omega, by omega, rfl⟩), ⟨(.inl ⟨by omega, by omega, rfl⟩), trivial⟩⟩ trivial
       refine RW.pure tabOk 2 rfl ?_
       have h150 := (h145.ext x32).turnL x33 (.inl (by decide))
       refine RW.storeBox tabOk h150 [.slice A11 (lb4_2_0 ++ [(⟨ib4_0_0, ib4_1_0⟩ : Ptr)]).length c_11] ⟨rfl, rfl, rfl⟩ rfl rfl rfl rfl rfl rfl rfl rfl ?_
       intro w41 x34 h151
       have h152 : Box w41.heap b4 121 [.int .i64 ib4_0_0, .int .i64 ib4_1_0, .slice A11 (lb4_2_0 ++ [(⟨ib4_0_0, ib4_1_0⟩ : Ptr)]).length c_11] := h151
       have sx34 := x34.size
       refine RW.done ?_
       refine NW.next ?_
       refine CW.seqJ (fun a w42 => ∃ (bt6_7 : Bool) (bk5_7 : Nat) (ibk5_7_0_7 : Int) (ibk5_7_1_7 : Int), Sat 35 [(0, .pointer (some ⟨b4, 0, none⟩)), (5, .pointer (some ⟨bk5_7, 0, none⟩)), (6, .bool bt6_7)] a ∧ w41.heap.size ≤ w42.heap.size ∧ Ow kPtr 70 w42.heap (okL [(w5.heap.size, some w40.heap.size, some 70)]) (okL []) A11 c_11 (lb4_2_0 ++ [(⟨ib4_0_0, ib4_1_0⟩ : Ptr)]) ∧ Sl kDeviceR w42.heap (okL [(0, some w.heap.size, none)]) A1 p0.Devices ∧ Sl kTableR w42.heap (okL [(0, some w.heap.size, none)]) A2 p0.Tables ∧ Sl kEntry w42.heap (okL [(0, some w.heap.size, none)]) A3 p0.Job.Table.List_ ∧ Ext w w42 ∧ Box w42.heap b4 121 [.int .i64 ib4_0_0, .int .i64 ib4_1_0, .slice A11 (lb4_2_0 ++ [(⟨ib4_0_0, ib4_1_0⟩ : Ptr)]).length c_11] ∧ Box w42.heap b1 79 [.slice A1 p0.Devices.length c_1, .slice A2 p0.Tables.length c_2, .int .i64 p0.Job.Dev, .int .i64 p0.Job.At, .int .i64 p0.Job.Table.Dev, .int .i64 p0.Job.Table.Size, .slice A3 p0.Job.Table.List_.length c_3, .int .i64 p0.Next] ∧ Box w42.heap b3 121 [.int .i64 0, .int .i64 0, .slice none 0 0] ∧ Box w42.heap bk5_7 70 [.int .i64 ibk5_7_0_7, .int .i64 ibk5_7_1_7] ∧ w41.heap.size ≤ bk5_7 ∧ chain_Trace.j6 ib4_0_0 ib4_1_0 lb4_2_0 (chain_Trace.l0 p0 p2 k n1) bt6_7 ibk5_7_0_7 ibk5_7_1_7 = some r) ?_ ?_
       ·
        refine CW.ord [0, 0, 2, 6, 14, 30, 63, 127, 255, 255, 0, 1535, 4095] (ofL [(1, .W), (2, .W), (3, .W), (4, .W), (0, .L), (5, .L)] (.two 6 .X (ofL [(7, .W), (8, .W), (9, .W), (10, .X), (11, .M), (12, .W)] .nil) 10 .X (ofL [(6, .X), (7, .W), (8, .W), (9, .W), (11, .M), (12, .W)] .nil))) mixed (by kernel_rfl) ?_
        intro w43 x35
        have sx35 := x35.size
        refine RW.pure tabOk 4 rfl ?_
        have h153 := ((((h144.ext x31).ext x32).turnL x33 (.inl (by decide))).turnB x34 (by omega)).ext x35
        refine RW.load tabOk [.int .i64 ((rd p0.Tables y5.1).Dev), .int .i64 ((rd p0.Tables y5.1).Size), .slice A10 ((rd p0.Tables y5.1).List_).length c_10] (h153.at 0) ⟨rfl, rfl, rfl, rfl⟩ rfl rfl rfl rfl ?_
        have h154 := h152.ext x35
        refine RW.load tabOk [.int .i64 ib4_1_0] ((h154.at 1).take 1 rfl) ⟨rfl, rfl, rfl, rfl⟩ rfl rfl rfl rfl ?_
        refine RW.two ?_ ?_
        ·
         have h155 := (((((h143.ext x30).ext x31).ext x32).turnL x33 ⟨⟨.inr (.inl (by omega)), trivial⟩, trivial⟩).turnB x34 h150 ⟨.inr (by omega), trivial⟩).ext x35
         obtain ⟨y6, h156, H⟩ := bind_some H
         refine RW.callF (.inl rfl) ent134 ⟨rfl, rfl, rfl, rfl⟩ rfl rfl (table_Find.calls k (rd p0.Tables y5.1) A10 c_10 ib4_1_0 _ _ h155.all l15 h156) ?_
         rintro _ w44 ⟨rfl, x36⟩
         refine ⟨_, rfl, x36, ?_⟩
         have sx36 := x36.size
         refine RW.pure tabOk 3 rfl ?_
         refine RW.alloc tabOk (.inl rfl) ⟨rfl, rfl, rfl, rfl⟩ rfl rfl ?_
         intro b12 w45 x37 l18 h157
         have sx37 := x37.size
         have ltb12 := h157.lt
         refine RW.storeBox tabOk h157 [.int .i64 y6.1.Dev, .int .i64 y6.1.At] ⟨rfl, rfl, rfl⟩ rfl rfl rfl rfl rfl rfl rfl rfl ?_
         intro w46 x38 h158
         have h159 : Box w46.heap b12 70 [.int .i64 y6.1.Dev, .int .i64 y6.1.At] := h158
         have sx38 := x38.size
         refine RW.pure tabOk 1 rfl ?_
         refine RW.done ?_
         have h160 := ((((h149.turnB x34 h150 ⟨.inl (show (70 : Nat) ≠ 121 by decide), trivial⟩ trivial).ext x35).ext x36).ext x37).turnB x38 h157 ⟨.inr (by omega), trivial⟩ trivial
         have h161 := ((((((((((h123.ext x28).ext x29).ext x30).ext x31).ext x32).turnL x33 ⟨⟨.inr (.inl (by omega)), trivial⟩, trivial⟩).turnB x34 h150 ⟨.inr (by omega), trivial⟩).ext x35).ext x36).ext x37).turnB x38 h157 ⟨.inr (by omega), trivial⟩
         have h162 := ((((((((h136.ext x30).ext x31).ext x32).turnL x33 ⟨⟨.inr (.inl (by omega)), trivial⟩, trivial⟩).turnB x34 h150 ⟨.inr (by omega), trivial⟩).ext x35).ext x36).ext x37).turnB x38 h157 ⟨.inr (by omega), trivial⟩
         have h163 := ((((((((((h125.ext x28).ext x29).ext x30).ext x31).ext x32).turnL x33 ⟨⟨.inr (.inl (by omega)), trivial⟩, trivial⟩).turnB x34 h150 ⟨.inr (by omega), trivial⟩).ext x35).ext x36).ext x37).turnB x38 h157 ⟨.inr (by omega), trivial⟩
         have h164 := Ext.turnB (Ext.trans (Ext.trans (Ext.trans (Ext.turnB (Ext.turn (Ext.trans (Ext.trans (Ext.trans (Ext.trans (Ext.trans (Ext.trans x0_0 x6) x28) x29) x30) x31) x32) x33 ⟨by omega, trivial⟩) x34 (by omega)) x35) x36) x37) x38 (by omega)
         have h165 := ((h154.ext x36).ext x37).turnB x38 (by omega)
         have h166 := ((((((((h135.ext x30).ext x31).ext x32).turnL x33 (.inl (by decide))).turnB x34 (by omega)).ext x35).ext x36).ext x37).turnB x38 (by omega)
         have h167 := (((((((((((gb3_0.ext x6).ext x28).ext x29).ext x30).ext x31).ext x32).turnL x33 (.inl (by decide))).turnB x34 (by omega)).ext x35).ext x36).ext x37).turnB x38 (by omega)
         exact NW.J fun a ha => ⟨y6.2, b12, y6.1.Dev, y6.1.At, ha.sub ⟨rfl, rfl, rfl, trivial⟩, by omega, h160, h161, h162, h163, h164, h165, h166, h167, h159, by omega, H⟩
        ·
         refine RW.alloc tabOk (.inl rfl) ⟨rfl, rfl, rfl, rfl⟩ rfl rfl ?_
         intro b12 w44 x36 l18 h155
         have sx36 := x36.size
         have ltb12 := h155.lt
         have h156 := ((((((h143.ext x30).ext x31).ext x32).turnL x33 ⟨⟨.inr (.inl (by omega)), trivial⟩, trivial⟩).turnB x34 h150 ⟨.inr (by omega), trivial⟩).ext x35).ext x36
         obtain ⟨y6, h157, H⟩ := bind_some H
         refine RW.callF (.inl rfl) ent134 ⟨rfl, rfl, rfl, rfl⟩ rfl rfl (table_Find.calls k (rd p0.Tables y5.1) A10 c_10 ib4_1_0 _ _ h156.all l15 h157) ?_
         rintro _ w45 ⟨rfl, x37⟩
         refine ⟨_, rfl, x37, ?_⟩
         have sx37 := x37.size
         refine RW.pure tabOk 3 rfl ?_
         have h158 := h155.ext x37
         refine RW.storeBox tabOk h158 [.int .i64 y6.1.Dev, .int .i64 y6.1.At] ⟨rfl, rfl, rfl⟩ rfl rfl rfl rfl rfl rfl rfl rfl ?_
         intro w46 x38 h159
         have h160 : Box w46.heap b12 70 [.int .i64 y6.1.Dev, .int .i64 y6.1.At] := h159
         have sx38 := x38.size
         refine RW.pure tabOk 1 rfl ?_
         refine RW.done ?_
         have h161 := ((((h149.turnB x34 h150 ⟨.inl (show (70 : Nat) ≠ 121 by decide), trivial⟩ trivial).ext x35).ext x36).ext x37).turnB x38 h158 ⟨.inr (by omega), trivial⟩ trivial
         have h162 := ((((((((((h123.ext x28).ext x29).ext x30).ext x31).ext x32).turnL x33 ⟨⟨.inr (.inl (by omega)), trivial⟩, trivial⟩).turnB x34 h150 ⟨.inr (by omega), trivial⟩).ext x35).ext x36).ext x37).turnB x38 h158 ⟨.inr (by omega), trivial⟩
         have h163 := ((((((((h136.ext x30).ext x31).ext x32).turnL x33 ⟨⟨.inr (.inl (by omega)), trivial⟩, trivial⟩).turnB x34 h150 ⟨.inr (by omega), trivial⟩).ext x35).ext x36).ext x37).turnB x38 h158 ⟨.inr (by omega), trivial⟩
         have h164 := ((((((((((h125.ext x28).ext x29).ext x30).ext x31).ext x32).turnL x33 ⟨⟨.inr (.inl (by omega)), trivial⟩, trivial⟩).turnB x34 h150 ⟨.inr (by omega), trivial⟩).ext x35).ext x36).ext x37).turnB x38 h158 ⟨.inr (by omega), trivial⟩
         have h165 := Ext.turnB (Ext.trans (Ext.trans (Ext.trans (Ext.turnB (Ext.turn (Ext.trans (Ext.trans (Ext.trans (Ext.trans (Ext.trans (Ext.trans x0_0 x6) x28) x29) x30) x31) x32) x33 ⟨by omega, trivial⟩) x34 (by omega)) x35) x36) x37) x38 (by omega)
         have h166 := ((h154.ext x36).ext x37).turnB x38 (by omega)
         have h167 := ((((((((h135.ext x30).ext x31).ext x32).turnL x33 (.inl (by decide))).turnB x34 (by omega)).ext x35).ext x36).ext x37).turnB x38 (by omega)
         have h168 := (((((((((((gb3_0.ext x6).ext x28).ext x29).ext x30).ext x31).ext x32).turnL x33 (.inl (by decide))).turnB x34 (by omega)).ext x35).ext x36).ext x37).turnB x38 (by omega)
         exact NW.J fun a ha => ⟨y6.2, b12, y6.1.Dev, y6.1.At, ha.sub ⟨rfl, rfl, rfl, trivial⟩, by omega, h161, h162, h163, h164, h165, h166, h167, h168, h160, by omega, H⟩
       intro a w42 hJ hp
       obtain ⟨bt6_7, bk5_7, ibk5_7_0_7, ibk5_7_1_7, hS, hle, gF11_7, gF1_7, gF2_7, gF3_7, x0_7, gb4_7, gb1_7, gb3_7, gbk5_7_7, lobk5_7, H⟩ := hJ
       have ltbk5_7 := gbk5_7_7.lt
       unfold chain_Trace.j6 at H
       refine CW.go hp hS ?_
       refine CW.seq ?_
       refine CW.lex [.W, .L, .W, .W, .M] rfl ?_
       refine RW.pure tabOk 1 rfl ?_
       refine RW.load tabOk [.int .i64 ibk5_7_0_7, .int .i64 ibk5_7_1_7] (gbk5_7_7.at 0) ⟨rfl, rfl, rfl, rfl⟩ rfl rfl rfl rfl ?_
       refine RW.pure tabOk 2 rfl ?_
       refine RW.storeBox tabOk gb4_7 [.int .i64 ibk5_7_0_7, .int .i64 ibk5_7_1_7] ⟨rfl, rfl, rfl⟩ rfl rfl rfl rfl rfl rfl rfl rfl ?_
       intro w47 x39 h169
       have h170 : Box w47.heap b4 121 [.int .i64 ibk5_7_0_7, .int .i64 ibk5_7_1_7, .slice A11 (lb4_2_0 ++ [(⟨ib4_0_0, ib4_1_0⟩ : Ptr)]).length c_11] := h169
       have sx39 := x39.size
       refine RW.done ?_
       refine NW.next ?_
       refine CW.seq ?_
       refine CW.lex [.W, .W] rfl ?_
       refine RW.pure tabOk 2 rfl ?_
       refine RW.done ?_
       refine NW.next ?_
       refine CW.ret ?_
       refine NW.ret1 rfl (by rfl) ⟨_, rfl, ?_⟩
       refine RW.pure tabOk 2 rfl ?_
       refine RW.done ?_
       have h171 := gF1_7.turnB x39 gb4_7 ⟨.inr (by omega), trivial⟩
       have h172 := gF2_7.turnB x39 gb4_7 ⟨.inr (by omega), trivial⟩
       have h173 := gF3_7.turnB x39 gb4_7 ⟨.inr (by omega), trivial⟩
       have h174 := gF11_7.turnB x39 gb4_7 ⟨.inl (show (70 : Nat) ≠ 121 by decide), trivial⟩ trivial
       have h175 := Ext.turnB x0_7 x39 (by omega)
       have h176 := gb1_7.turnB x39 (by omega)
       have h177 := gb3_7.turnB x39 (by omega)
       exact NW.J fun a ha => ⟨(!bt6_7), ibk5_7_0_7, ibk5_7_1_7, (lb4_2_0 ++ [(⟨ib4_0_0, ib4_1_0⟩ : Ptr)]), A11, c_11, ha.sub ⟨rfl, rfl, rfl, rfl, rfl, trivial⟩, by omega, h171, h172, h173, (h174.sub ⟨(.inl ⟨by omega, trivial, rfl⟩), trivial⟩ trivial), h175, h176, h177, h170, H⟩
    ·
     rw [if_neg c11] at H
     refine RW.bool 30 (b' := true) (not_t (bool_f c11)) rfl ?_
     refine RW.pure tabOk 26 rfl ?_
     refine RW.done ?_
     have h178 := (h123.ext x28).ext x29
     have h179 := (h124.ext x28).ext x29
     have h180 := (h125.ext x28).ext x29
     have h181 := ((h17.ext x6).ext x28).ext x29
     have h182 := Ext.trans (Ext.trans (Ext.trans x0_0 x6) x28) x29
     have h183 := (h121.ext x28).ext x29
     have h184 := ((gb3_0.ext x6).ext x28).ext x29
     have h185 := (h122.ext x28).ext x29
     exact NW.J fun a ha => ⟨true, ib4_0_0, ib4_1_0, lb4_2_0, Ab4_2_0, cb4_2_0, ha.sub ⟨rfl, rfl, rfl, rfl, rfl, trivial⟩, by omega, h178, h179, h180, (h181.sub ⟨(.inl ⟨by omega, trivial, rfl⟩), trivial⟩ trivial), h182, h183, h184, h185, H⟩
   intro a w35 hJ hp
   obtain ⟨bt56_6, ib4_0_6, ib4_1_6, lb4_2_6, Ab4_2_6, cb4_2_6, hS, hle, gF1_6, gF2_6, gF3_6, fb4_2_6, x0_6, gb1_6, gb3_6, gb4_6, H⟩ := hJ
   unfold chain_Trace.j5 at H
   refine CW.go hp hS ?_
   have h186 : Ow kPtr 70 w35.heap (okL [(w5.heap.size, some w35.heap.size, some 70)]) (okL []) Ab4_2_6 cb4_2_6 lb4_2_6 := fb4_2_6.close
   by_cases c14 : bt56_6 = true
   ·
    rw [if_pos c14] at H
    refine CW.cond_t rfl (c14) ?_
    refine CW.seq ?_
    refine CW.lex [.L, .M, .W] rfl ?_
    refine RW.load tabOk [.int .i64 ib4_0_6, .int .i64 ib4_1_6, .slice Ab4_2_6 lb4_2_6.length cb4_2_6] (gb4_6.at 0) ⟨rfl, rfl, rfl, rfl⟩ rfl rfl rfl rfl ?_
    refine RW.storeBox tabOk gb3_6 [.int .i64 ib4_0_6, .int .i64 ib4_1_6, .slice Ab4_2_6 lb4_2_6.length cb4_2_6] ⟨rfl, rfl, rfl⟩ rfl rfl rfl rfl rfl rfl rfl rfl ?_
    intro w48 x40 h187
    have h188 : Box w48.heap b3 121 [.int .i64 ib4_0_6, .int .i64 ib4_1_6, .slice Ab4_2_6 lb4_2_6.length cb4_2_6] := h187
    have sx40 := x40.size
    refine RW.pure tabOk 1 rfl ?_
    refine RW.done ?_
    refine NW.next ?_
    refine CW.ret ?_
    refine NW.ret_block (NW.ret_then (NW.ret_block (NW.ret_then ?_)))
    have h189 := h186.turnB x40 gb3_6 ⟨.inl (show (70 : Nat) ≠ 121 by decide), trivial⟩ trivial
    obtain rfl := Option.some.inj H
    have h190 := Ext.turnB x0_6 x40 (by omega)
    exact NW.ret2 rfl (resOne_cell tabOk (h188.at 0) rfl rfl rfl) (by rfl) ⟨Ab4_2_6, cb4_2_6, rfl, h190, (h189.sub (l' := [(w.heap.size, none, some 70)]) (li' := []) ⟨(.inl ⟨by omega, trivial, rfl⟩), trivial⟩ trivial)⟩
   ·
    rw [if_neg c14] at H
    refine CW.cond_f rfl (bool_f c14) ?_
    refine CW.skip ?_
    refine NW.norm_block ?_
    exact NW.J fun a ha => ⟨n1, Nat.lt_succ_self n1, ib4_0_6, ib4_1_6, lb4_2_6, Ab4_2_6, cb4_2_6, ha.sub ⟨rfl, rfl, rfl, rfl, trivial⟩, by omega, gF1_6, gF2_6, gF3_6, (h186.sub ⟨(.inl ⟨by omega, trivial, rfl⟩), trivial⟩ trivial), x0_6, gb1_6, gb3_6, gb4_6, H⟩

set_option maxHeartbeats 20000000 in
set_option maxRecDepth 100000 in
theorem chain_asked.calls (k : Nat) (p0 : Pool) (A1 : Option Addr) (c_1 : Nat) (A2 : Option Addr) (c_2 : Nat) (A3 : Option Addr) (c_3 : Nat) (p1 : Ptr) (p2 : Bool) (r : Trail × Int) (w : World) (hs1 : Sl kDeviceR w.heap okAll A1 p0.Devices) (hl1 : p0.Devices.length ≤ c_1) (hs2 : Sl kTableR w.heap okAll A2 p0.Tables) (hl2 : p0.Tables.length ≤ c_2) (hs3 : Sl kEntry w.heap okAll A3 p0.Job.Table.List_) (hl3 : p0.Job.Table.List_.length ≤ c_3) (H : chain_asked.f k p0 p1 p2 = some r) :
    Calls Tryd.prog 75 #[.agg #[.slice A1 p0.Devices.length c_1, .slice A2 p0.Tables.length c_2, .int .i64 p0.Job.Dev, .int .i64 p0.Job.At, .int .i64 p0.Job.Table.Dev, .int .i64 p0.Job.Table.Size, .slice A3 p0.Job.Table.List_.length c_3, .int .i64 p0.Next], .agg #[.int .i64 p1.Dev, .int .i64 p1.At], .bool p2] w fun e w' => ∃ (B1 : Option Addr) (d1 : Nat), e = .returned (.tuple #[.agg #[.int .i64 r.1.Ptr_.Dev, .int .i64 r.1.Ptr_.At, .slice B1 r.1.Way.length d1], .int .i64 r.2]) ∧ Ext w w' ∧ Ow kPtr 70 w'.heap (okL [(w.heap.size, none, some 70)]) (okL []) B1 d1 r.1.Way := by
 have h1 : Sl kDeviceR w.heap (okL [(0, some w.heap.size, none)]) A1 p0.Devices := hs1.old _ rfl
 have h2 : Sl kTableR w.heap (okL [(0, some w.heap.size, none)]) A2 p0.Tables := hs2.old _ rfl
 have h3 : Sl kEntry w.heap (okL [(0, some w.heap.size, none)]) A3 p0.Job.Table.List_ := hs3.old _ rfl
 have x0 : Ext w w := Upd.refl _ w
 unfold chain_asked.f at H
 refine calls_start Tryd.func75 rfl 25 rfl [.agg #[.slice A1 p0.Devices.length c_1, .slice A2 p0.Tables.length c_2, .int .i64 p0.Job.Dev, .int .i64 p0.Job.At, .int .i64 p0.Job.Table.Dev, .int .i64 p0.Job.Table.Size, .slice A3 p0.Job.Table.List_.length c_3, .int .i64 p0.Next], .agg #[.int .i64 p1.Dev, .int .i64 p1.At], .bool p2] rfl ?_
 refine CW.seq ?_
 refine CW.lex [.X, .X, .X, .W] rfl ?_
 refine RW.box (cs := [.slice A1 p0.Devices.length c_1, .slice A2 p0.Tables.length c_2, .int .i64 p0.Job.Dev, .int .i64 p0.Job.At, .int .i64 p0.Job.Table.Dev, .int .i64 p0.Job.Table.Size, .slice A3 p0.Job.Table.List_.length c_3, .int .i64 p0.Next]) (.inl rfl) ⟨rfl, rfl, rfl, rfl⟩ rfl rfl rfl ?_
 intro b1 w1 x1 l1 h4
 have sx1 := x1.size
 have ltb1 := h4.lt
 refine RW.box (cs := [.int .i64 p1.Dev, .int .i64 p1.At]) (.inl rfl) ⟨rfl, rfl, rfl, rfl⟩ rfl rfl rfl ?_
 intro b2 w2 x2 l2 h5
 have sx2 := x2.size
 have ltb2 := h5.lt
 refine RW.alloc tabOk (.inl rfl) ⟨rfl, rfl, rfl, rfl⟩ rfl rfl ?_
 intro b3 w3 x3 l3 h6
 have sx3 := x3.size
 have ltb3 := h6.lt
 refine RW.pure tabOk 1 rfl ?_
 refine RW.done ?_
 refine NW.next ?_
 refine CW.seq ?_
 refine CW.seq ?_
 refine CW.lex [.L, .X, .W] rfl ?_
 have h7 := (h4.ext x2).ext x3
 refine RW.load tabOk [.slice A1 p0.Devices.length c_1, .slice A2 p0.Tables.length c_2, .int .i64 p0.Job.Dev, .int .i64 p0.Job.At, .int .i64 p0.Job.Table.Dev, .int .i64 p0.Job.Table.Size, .slice A3 p0.Job.Table.List_.length c_3, .int .i64 p0.Next] (h7.at 0) ⟨rfl, rfl, rfl, rfl⟩ rfl rfl rfl rfl ?_
 have h8 := ((h1.ext x1).ext x2).ext x3
 have h9 := ((h2.ext x1).ext x2).ext x3
 have h10 := ((h3.ext x1).ext x2).ext x3
 obtain ⟨y1, h11, H⟩ := bind_some H
 refine RW.callF (.inl rfl) ent76 ⟨rfl, rfl, rfl, rfl⟩ rfl rfl (chain_May.calls k p0 A1 c_1 A2 c_2 A3 c_3 _ _ h8.all hl1 h9.all hl2 h10.all hl3 h11) ?_
 rintro _ w4 ⟨rfl, x4⟩
 refine ⟨_, rfl, x4, ?_⟩
 have sx4 := x4.size
 refine RW.pure tabOk 1 rfl ?_
 refine RW.done ?_
 refine NW.next ?_
 by_cases c1 : y1 = true
 ·
  rw [if_pos c1] at H
  refine CW.cond_f rfl (not_f (c1)) ?_
  refine CW.skip ?_
  refine NW.next ?_
  refine CW.seq ?_
  refine CW.lex [.L, .L, .W, .X, .W, .W, .W, .X, .M, .W] rfl ?_
  have h12 := h7.ext x4
  refine RW.load tabOk [.slice A1 p0.Devices.length c_1, .slice A2 p0.Tables.length c_2, .int .i64 p0.Job.Dev, .int .i64 p0.Job.At, .int .i64 p0.Job.Table.Dev, .int .i64 p0.Job.Table.Size, .slice A3 p0.Job.Table.List_.length c_3, .int .i64 p0.Next] (h12.at 0) ⟨rfl, rfl, rfl, rfl⟩ rfl rfl rfl rfl ?_
  have h13 := (h5.ext x3).ext x4
  refine RW.load tabOk [.int .i64 p1.Dev, .int .i64 p1.At] (h13.at 0) ⟨rfl, rfl, rfl, rfl⟩ rfl rfl rfl rfl ?_
  refine RW.pure tabOk 1 rfl ?_
  have h14 := h8.ext x4
  have h15 := h9.ext x4
  have h16 := h10.ext x4
  obtain ⟨y2, h17, H⟩ := bind_some H
  refine RW.callF (.inl rfl) ent90 ⟨rfl, rfl, rfl, rfl⟩ rfl rfl (chain_Trace.calls k p0 A1 c_1 A2 c_2 A3 c_3 p1 p2 _ _ h14.all hl1 h15.all hl2 h16.all hl3 h17) ?_
  rintro _ w5 ⟨A4, c_4, rfl, x5, h18⟩
  refine ⟨_, rfl, x5, ?_⟩
  have sx5 := x5.size
  have h19 : Ow kPtr 70 w5.heap (okL [(w4.heap.size, some w5.heap.size, some 70)]) (okL []) A4 c_4 y2.1.Way := h18.close
  refine RW.pure tabOk 3 rfl ?_
  refine RW.alloc tabOk (.inl rfl) ⟨rfl, rfl, rfl, rfl⟩ rfl rfl ?_
  intro b4 w6 x6 l4 h20
  have sx6 := x6.size
  have ltb4 := h20.lt
  refine RW.storeBox tabOk h20 [.int .i64 y2.1.Ptr_.Dev, .int .i64 y2.1.Ptr_.At, .slice A4 y2.1.Way.length c_4] ⟨rfl, rfl, rfl⟩ rfl rfl rfl rfl rfl rfl rfl rfl ?_
  intro w7 x7 h21
  have h22 : Box w7.heap b4 121 [.int .i64 y2.1.Ptr_.Dev, .int .i64 y2.1.Ptr_.At, .slice A4 y2.1.Way.length c_4] := h21
  have sx7 := x7.size
  refine RW.pure tabOk 1 rfl ?_
  refine RW.done ?_
  refine NW.next ?_
  refine CW.seq ?_
  refine CW.seq ?_
  refine CW.lex [.W, .W] rfl ?_
  refine RW.pure tabOk 2 rfl ?_
  refine RW.done ?_
  refine NW.next ?_
  by_cases c2 : y2.2 = true
  ·
   rw [if_pos c2] at H
   refine CW.cond_f rfl (not_f (c2)) ?_
   refine CW.skip ?_
   refine NW.next ?_
   refine CW.seq ?_
   refine CW.lex [.L, .M, .W] rfl ?_
   refine RW.load tabOk [.int .i64 y2.1.Ptr_.Dev, .int .i64 y2.1.Ptr_.At, .slice A4 y2.1.Way.length c_4] (h22.at 0) ⟨rfl, rfl, rfl, rfl⟩ rfl rfl rfl rfl ?_
   have h23 := (((h6.ext x4).ext x5).ext x6).turnB x7 (by omega)
   refine RW.storeBox tabOk h23 [.int .i64 y2.1.Ptr_.Dev, .int .i64 y2.1.Ptr_.At, .slice A4 y2.1.Way.length c_4] ⟨rfl, rfl, rfl⟩ rfl rfl rfl rfl rfl rfl rfl rfl ?_
   intro w8 x8 h24
   have h25 : Box w8.heap b3 121 [.int .i64 y2.1.Ptr_.Dev, .int .i64 y2.1.Ptr_.At, .slice A4 y2.1.Way.length c_4] := h24
   have sx8 := x8.size
   refine RW.pure tabOk 1 rfl ?_
   refine RW.done ?_
   refine NW.next ?_
   refine CW.ret ?_
   have h26 := ((h19.ext x6).turnB x7 h20 ⟨.inl (show (70 : Nat) ≠ 121 by decide), trivial⟩ trivial).turnB x8 h23 ⟨.inl (show (70 : Nat) ≠ 121 by decide), trivial⟩ trivial
   obtain rfl := Option.some.inj H
   have h27 := Ext.turnB (Ext.turnB (Ext.trans (Ext.trans (Ext.trans (Ext.trans (Ext.trans (Ext.trans x0 x1) x2) x3) x4) x5) x6) x7 (by omega)) x8 (by omega)
   exact NW.ret2 rfl (resOne_cell tabOk (h25.at 0) rfl rfl rfl) (by rfl) ⟨A4, c_4, rfl, h27, (h26.sub (l' := [(w.heap.size, none, some 70)]) (li' := []) ⟨(.inl ⟨by omega, trivial, rfl⟩), trivial⟩ trivial)⟩
  ·
   rw [if_neg c2] at H
   refine CW.cond_t rfl (not_t (bool_f c2)) ?_
   refine CW.seq ?_
   refine CW.lex [.W, .M, .W] rfl ?_
   refine RW.pure tabOk 1 rfl ?_
   have h28 := (((h6.ext x4).ext x5).ext x6).turnB x7 (by omega)
   refine RW.storeBox tabOk h28 [.int .i64 0, .int .i64 0, .slice none 0 0] ⟨rfl, rfl, rfl⟩ rfl rfl rfl rfl rfl rfl rfl rfl ?_
   intro w9 x9 h29
   have h30 : Box w9.heap b3 121 [.int .i64 0, .int .i64 0, .slice none 0 0] := h29
   have sx9 := x9.size
   refine RW.pure tabOk 1 rfl ?_
   refine RW.done ?_
   refine NW.next ?_
   refine CW.ret ?_
   refine NW.ret_then ?_
   obtain rfl := Option.some.inj H
   have h31 := Ext.turnB (Ext.turnB (Ext.trans (Ext.trans (Ext.trans (Ext.trans (Ext.trans (Ext.trans x0 x1) x2) x3) x4) x5) x6) x7 (by omega)) x9 (by omega)
   exact NW.ret2 rfl (resOne_cell tabOk (h30.at 0) rfl rfl rfl) (by rfl) ⟨none, 0, rfl, h31, Ow.nil⟩
 ·
  rw [if_neg c1] at H
  refine CW.cond_t rfl (not_t (bool_f c1)) ?_
  refine CW.seq ?_
  refine CW.lex [.W, .M, .W] rfl ?_
  refine RW.pure tabOk 1 rfl ?_
  have h32 := h6.ext x4
  refine RW.storeBox tabOk h32 [.int .i64 0, .int .i64 0, .slice none 0 0] ⟨rfl, rfl, rfl⟩ rfl rfl rfl rfl rfl rfl rfl rfl ?_
  intro w10 x10 h33
  have h34 : Box w10.heap b3 121 [.int .i64 0, .int .i64 0, .slice none 0 0] := h33
  have sx10 := x10.size
  refine RW.pure tabOk 1 rfl ?_
  refine RW.done ?_
  refine NW.next ?_
  refine CW.ret ?_
  refine NW.ret_then ?_
  obtain rfl := Option.some.inj H
  have h35 := Ext.turnB (Ext.trans (Ext.trans (Ext.trans (Ext.trans x0 x1) x2) x3) x4) x10 (by omega)
  exact NW.ret2 rfl (resOne_cell tabOk (h34.at 0) rfl rfl rfl) (by rfl) ⟨none, 0, rfl, h35, Ow.nil⟩

set_option maxHeartbeats 20000000 in
set_option maxRecDepth 100000 in
theorem chain_Now.calls (k : Nat) (p0 : Pool) (A1 : Option Addr) (c_1 : Nat) (A2 : Option Addr) (c_2 : Nat) (A3 : Option Addr) (c_3 : Nat) (p1 : Ptr) (r : Ptr × Int) (w : World) (hs1 : Sl kDeviceR w.heap okAll A1 p0.Devices) (hl1 : p0.Devices.length ≤ c_1) (hs2 : Sl kTableR w.heap okAll A2 p0.Tables) (hl2 : p0.Tables.length ≤ c_2) (hs3 : Sl kEntry w.heap okAll A3 p0.Job.Table.List_) (hl3 : p0.Job.Table.List_.length ≤ c_3) (H : chain_Now.f k p0 p1 = some r) :
    Calls Tryd.prog 46 #[.agg #[.slice A1 p0.Devices.length c_1, .slice A2 p0.Tables.length c_2, .int .i64 p0.Job.Dev, .int .i64 p0.Job.At, .int .i64 p0.Job.Table.Dev, .int .i64 p0.Job.Table.Size, .slice A3 p0.Job.Table.List_.length c_3, .int .i64 p0.Next], .agg #[.int .i64 p1.Dev, .int .i64 p1.At]] w fun e w' => e = .returned (.tuple #[.agg #[.int .i64 r.1.Dev, .int .i64 r.1.At], .int .i64 r.2]) ∧ Ext w w' := by
 have h1 : Sl kDeviceR w.heap (okL [(0, some w.heap.size, none)]) A1 p0.Devices := hs1.old _ rfl
 have h2 : Sl kTableR w.heap (okL [(0, some w.heap.size, none)]) A2 p0.Tables := hs2.old _ rfl
 have h3 : Sl kEntry w.heap (okL [(0, some w.heap.size, none)]) A3 p0.Job.Table.List_ := hs3.old _ rfl
 have x0 : Ext w w := Upd.refl _ w
 unfold chain_Now.f at H
 refine calls_start Tryd.func46 rfl 17 rfl [.agg #[.slice A1 p0.Devices.length c_1, .slice A2 p0.Tables.length c_2, .int .i64 p0.Job.Dev, .int .i64 p0.Job.At, .int .i64 p0.Job.Table.Dev, .int .i64 p0.Job.Table.Size, .slice A3 p0.Job.Table.List_.length c_3, .int .i64 p0.Next], .agg #[.int .i64 p1.Dev, .int .i64 p1.At]] rfl ?_
 refine CW.seq ?_
 refine CW.lex [.X, .X, .X, .W] rfl ?_
 refine RW.box (cs := [.slice A1 p0.Devices.length c_1, .slice A2 p0.Tables.length c_2, .int .i64 p0.Job.Dev, .int .i64 p0.Job.At, .int .i64 p0.Job.Table.Dev, .int .i64 p0.Job.Table.Size, .slice A3 p0.Job.Table.List_.length c_3, .int .i64 p0.Next]) (.inl rfl) ⟨rfl, rfl, rfl, rfl⟩ rfl rfl rfl ?_
 intro b1 w1 x1 l1 h4
 have sx1 := x1.size
 have ltb1 := h4.lt
 refine RW.box (cs := [.int .i64 p1.Dev, .int .i64 p1.At]) (.inl rfl) ⟨rfl, rfl, rfl, rfl⟩ rfl rfl rfl ?_
 intro b2 w2 x2 l2 h5
 have sx2 := x2.size
 have ltb2 := h5.lt
 refine RW.alloc tabOk (.inl rfl) ⟨rfl, rfl, rfl, rfl⟩ rfl rfl ?_
 intro b3 w3 x3 l3 h6
 have sx3 := x3.size
 have ltb3 := h6.lt
 refine RW.pure tabOk 1 rfl ?_
 refine RW.done ?_
 refine NW.next ?_
 refine CW.seq ?_
 refine CW.lex [.L, .L, .X, .W, .W, .W, .X, .M, .W] rfl ?_
 have h7 := (h4.ext x2).ext x3
 refine RW.load tabOk [.slice A1 p0.Devices.length c_1, .slice A2 p0.Tables.length c_2, .int .i64 p0.Job.Dev, .int .i64 p0.Job.At, .int .i64 p0.Job.Table.Dev, .int .i64 p0.Job.Table.Size, .slice A3 p0.Job.Table.List_.length c_3, .int .i64 p0.Next] (h7.at 0) ⟨rfl, rfl, rfl, rfl⟩ rfl rfl rfl rfl ?_
 have h8 := h5.ext x3
 refine RW.load tabOk [.int .i64 p1.Dev, .int .i64 p1.At] (h8.at 0) ⟨rfl, rfl, rfl, rfl⟩ rfl rfl rfl rfl ?_
 have h9 := ((h1.ext x1).ext x2).ext x3
 have h10 := ((h2.ext x1).ext x2).ext x3
 have h11 := ((h3.ext x1).ext x2).ext x3
 obtain ⟨y1, h12, H⟩ := bind_some H
 refine RW.callF (.inl rfl) ent75 ⟨rfl, rfl, rfl, rfl⟩ rfl rfl (chain_asked.calls k p0 A1 c_1 A2 c_2 A3 c_3 p1 true _ _ h9.all hl1 h10.all hl2 h11.all hl3 h12) ?_
 rintro _ w4 ⟨A4, c_4, rfl, x4, h13⟩
 refine ⟨_, rfl, x4, ?_⟩
 have sx4 := x4.size
 have h14 : Ow kPtr 70 w4.heap (okL [(w3.heap.size, some w4.heap.size, some 70)]) (okL []) A4 c_4 y1.1.Way := h13.close
 refine RW.pure tabOk 3 rfl ?_
 refine RW.alloc tabOk (.inl rfl) ⟨rfl, rfl, rfl, rfl⟩ rfl rfl ?_
 intro b4 w5 x5 l4 h15
 have sx5 := x5.size
 have ltb4 := h15.lt
 refine RW.storeBox tabOk h15 [.int .i64 y1.1.Ptr_.Dev, .int .i64 y1.1.Ptr_.At, .slice A4 y1.1.Way.length c_4] ⟨rfl, rfl, rfl⟩ rfl rfl rfl rfl rfl rfl rfl rfl ?_
 intro w6 x6 h16
 have h17 : Box w6.heap b4 121 [.int .i64 y1.1.Ptr_.Dev, .int .i64 y1.1.Ptr_.At, .slice A4 y1.1.Way.length c_4] := h16
 have sx6 := x6.size
 refine RW.pure tabOk 1 rfl ?_
 refine RW.done ?_
 refine NW.next ?_
 refine CW.seq ?_
 refine CW.lex [.W, .L, .W, .M, .W] rfl ?_
 refine RW.pure tabOk 1 rfl ?_
 refine RW.load tabOk [.int .i64 y1.1.Ptr_.Dev, .int .i64 y1.1.Ptr_.At] ((h17.at 0).take 2 rfl) ⟨rfl, rfl, rfl, rfl⟩ rfl rfl rfl rfl ?_
 refine RW.pure tabOk 1 rfl ?_
 have h18 := ((h6.ext x4).ext x5).turnB x6 (by omega)
 refine RW.storeBox tabOk h18 [.int .i64 y1.1.Ptr_.Dev, .int .i64 y1.1.Ptr_.At] ⟨rfl, rfl, rfl⟩ rfl rfl rfl rfl rfl rfl rfl rfl ?_
 intro w7 x7 h19
 have h20 : Box w7.heap b3 70 [.int .i64 y1.1.Ptr_.Dev, .int .i64 y1.1.Ptr_.At] := h19
 have sx7 := x7.size
 refine RW.pure tabOk 1 rfl ?_
 refine RW.done ?_
 refine NW.next ?_
 refine CW.ret ?_
 obtain rfl := Option.some.inj H
 have h21 := Ext.turnB (Ext.turnB (Ext.trans (Ext.trans (Ext.trans (Ext.trans (Ext.trans x0 x1) x2) x3) x4) x5) x6 (by omega)) x7 (by omega)
 exact NW.ret2 rfl (resOne_cell tabOk (h20.at 0) rfl rfl rfl) (by rfl) ⟨rfl, h21⟩

set_option maxHeartbeats 20000000 in
set_option maxRecDepth 100000 in
theorem chain_Way.calls (k : Nat) (p0 : Pool) (A1 : Option Addr) (c_1 : Nat) (A2 : Option Addr) (c_2 : Nat) (A3 : Option Addr) (c_3 : Nat) (p1 : Ptr) (r : (List Int) × Int) (w : World) (hs1 : Sl kDeviceR w.heap okAll A1 p0.Devices) (hl1 : p0.Devices.length ≤ c_1) (hs2 : Sl kTableR w.heap okAll A2 p0.Tables) (hl2 : p0.Tables.length ≤ c_2) (hs3 : Sl kEntry w.heap okAll A3 p0.Job.Table.List_) (hl3 : p0.Job.Table.List_.length ≤ c_3) (H : chain_Way.f k p0 p1 = some r) :
    Calls Tryd.prog 47 #[.agg #[.slice A1 p0.Devices.length c_1, .slice A2 p0.Tables.length c_2, .int .i64 p0.Job.Dev, .int .i64 p0.Job.At, .int .i64 p0.Job.Table.Dev, .int .i64 p0.Job.Table.Size, .slice A3 p0.Job.Table.List_.length c_3, .int .i64 p0.Next], .agg #[.int .i64 p1.Dev, .int .i64 p1.At]] w fun e w' => ∃ (B1 : Option Addr) (d1 : Nat), e = .returned (.tuple #[.slice B1 r.1.length d1, .int .i64 r.2]) ∧ Ext w w' ∧ Ow (Kd.int .i64) 3 w'.heap (okL [(w.heap.size, none, some 3)]) (okL []) B1 d1 r.1 := by
 have h1 : Sl kDeviceR w.heap (okL [(0, some w.heap.size, none)]) A1 p0.Devices := hs1.old _ rfl
 have h2 : Sl kTableR w.heap (okL [(0, some w.heap.size, none)]) A2 p0.Tables := hs2.old _ rfl
 have h3 : Sl kEntry w.heap (okL [(0, some w.heap.size, none)]) A3 p0.Job.Table.List_ := hs3.old _ rfl
 have x0 : Ext w w := Upd.refl _ w
 unfold chain_Way.f at H
 refine calls_start Tryd.func47 rfl 32 rfl [.agg #[.slice A1 p0.Devices.length c_1, .slice A2 p0.Tables.length c_2, .int .i64 p0.Job.Dev, .int .i64 p0.Job.At, .int .i64 p0.Job.Table.Dev, .int .i64 p0.Job.Table.Size, .slice A3 p0.Job.Table.List_.length c_3, .int .i64 p0.Next], .agg #[.int .i64 p1.Dev, .int .i64 p1.At]] rfl ?_
 refine CW.seq ?_
 refine CW.lex [.X, .X, .W, .W] rfl ?_
 refine RW.box (cs := [.slice A1 p0.Devices.length c_1, .slice A2 p0.Tables.length c_2, .int .i64 p0.Job.Dev, .int .i64 p0.Job.At, .int .i64 p0.Job.Table.Dev, .int .i64 p0.Job.Table.Size, .slice A3 p0.Job.Table.List_.length c_3, .int .i64 p0.Next]) (.inl rfl) ⟨rfl, rfl, rfl, rfl⟩ rfl rfl rfl ?_
 intro b1 w1 x1 l1 h4
 have sx1 := x1.size
 have ltb1 := h4.lt
 refine RW.box (cs := [.int .i64 p1.Dev, .int .i64 p1.At]) (.inl rfl) ⟨rfl, rfl, rfl, rfl⟩ rfl rfl rfl ?_
 intro b2 w2 x2 l2 h5
 have sx2 := x2.size
 have ltb2 := h5.lt
 refine RW.pure tabOk 2 rfl ?_
 refine RW.done ?_
 refine NW.next ?_
 refine CW.seq ?_
 refine CW.lex [.L, .L, .X, .W, .W, .W, .X, .M, .W] rfl ?_
 have h6 := h4.ext x2
 refine RW.load tabOk [.slice A1 p0.Devices.length c_1, .slice A2 p0.Tables.length c_2, .int .i64 p0.Job.Dev, .int .i64 p0.Job.At, .int .i64 p0.Job.Table.Dev, .int .i64 p0.Job.Table.Size, .slice A3 p0.Job.Table.List_.length c_3, .int .i64 p0.Next] (h6.at 0) ⟨rfl, rfl, rfl, rfl⟩ rfl rfl rfl rfl ?_
 refine RW.load tabOk [.int .i64 p1.Dev, .int .i64 p1.At] (h5.at 0) ⟨rfl, rfl, rfl, rfl⟩ rfl rfl rfl rfl ?_
 have h7 := (h1.ext x1).ext x2
 have h8 := (h2.ext x1).ext x2
 have h9 := (h3.ext x1).ext x2
 obtain ⟨y1, h10, H⟩ := bind_some H
 refine RW.callF (.inl rfl) ent75 ⟨rfl, rfl, rfl, rfl⟩ rfl rfl (chain_asked.calls k p0 A1 c_1 A2 c_2 A3 c_3 p1 true _ _ h7.all hl1 h8.all hl2 h9.all hl3 h10) ?_
 rintro _ w3 ⟨A4, c_4, rfl, x3, h11⟩
 refine ⟨_, rfl, x3, ?_⟩
 have sx3 := x3.size
 have h12 : Ow kPtr 70 w3.heap (okL [(w2.heap.size, some w3.heap.size, some 70)]) (okL []) A4 c_4 y1.1.Way := h11.close
 refine RW.pure tabOk 3 rfl ?_
 refine RW.alloc tabOk (.inl rfl) ⟨rfl, rfl, rfl, rfl⟩ rfl rfl ?_
 intro b3 w4 x4 l3 h13
 have sx4 := x4.size
 have ltb3 := h13.lt
 refine RW.storeBox tabOk h13 [.int .i64 y1.1.Ptr_.Dev, .int .i64 y1.1.Ptr_.At, .slice A4 y1.1.Way.length c_4] ⟨rfl, rfl, rfl⟩ rfl rfl rfl rfl rfl rfl rfl rfl ?_
 intro w5 x5 h14
 have h15 : Box w5.heap b3 121 [.int .i64 y1.1.Ptr_.Dev, .int .i64 y1.1.Ptr_.At, .slice A4 y1.1.Way.length c_4] := h14
 have sx5 := x5.size
 refine RW.pure tabOk 1 rfl ?_
 refine RW.done ?_
 refine NW.next ?_
 refine CW.seq ?_
 refine CW.lex [.W] rfl ?_
 refine RW.pure tabOk 1 rfl ?_
 refine RW.done ?_
 refine NW.next ?_
 refine CW.seq ?_
 refine CW.seq ?_
 refine CW.lex [.W, .L, .W, .W] rfl ?_
 refine RW.pure tabOk 1 rfl ?_
 refine RW.load tabOk [.slice A4 y1.1.Way.length c_4] (h15.at 2) ⟨rfl, rfl, rfl, rfl⟩ rfl rfl rfl rfl ?_
 refine RW.pure tabOk 2 rfl ?_
 refine RW.done ?_
 refine NW.next ?_
 refine CW.block ?_
 refine CW.loop (fun n1 a w6 => ∃ (lt8_0 : List Int) (At8_0 : Option Addr) (ct8_0 : Nat) (it20_0 : Int), Sat 32 [(7, .int .i64 y1.2), (8, .slice At8_0 lt8_0.length ct8_0), (18, .slice A4 y1.1.Way.length c_4), (19, .int .i64 (y1.1.Way.length : Int)), (20, .int .i64 it20_0)] a ∧ w5.heap.size ≤ w6.heap.size ∧ Ow (Kd.int .i64) 3 w6.heap (okL [(w5.heap.size, none, some 3)]) (okL []) At8_0 ct8_0 lt8_0 ∧ Ow kPtr 70 w6.heap (okL [(w2.heap.size, some w3.heap.size, some 70)]) (okL []) A4 c_4 y1.1.Way ∧ Ext w w6 ∧ chain_Way.l0 y1 n1 lt8_0 it20_0 = some r) k ?_ ?_
 have h16 := (h12.ext x4).turnB x5 h13 ⟨.inl (show (70 : Nat) ≠ 121 by decide), trivial⟩ trivial
 have h17 := Ext.turnB (Ext.trans (Ext.trans (Ext.trans (Ext.trans x0 x1) x2) x3) x4) x5 (by omega)
 · exact fun a ha => ⟨([] : List Int), none, 0, 0, ha.sub ⟨rfl, rfl, rfl, rfl, rfl, trivial⟩, by omega, Ow.nil, h16, h17, H⟩
 intro n1 a w6 hI hp
 obtain ⟨lt8_0, At8_0, ct8_0, it20_0, hS, hle, ft8_0, gF4_0, x0_0, H⟩ := hI
 cases n1 with
 | zero => cases H
 | succ n1 =>
  rw [chain_Way.l0] at H
  refine CW.go hp hS ?_
  have h18 : Ow (Kd.int .i64) 3 w6.heap (okL [(w5.heap.size, some w6.heap.size, some 3)]) (okL []) At8_0 ct8_0 lt8_0 := ft8_0.close
  refine CW.seq ?_
  refine CW.lex [.W] rfl ?_
  refine RW.pure tabOk 1 rfl ?_
  refine RW.done ?_
  refine NW.next ?_
  refine CW.seq ?_
  by_cases c1 : it20_0 < (y1.1.Way.length : Int)
  ·
   rw [if_pos c1] at H
   refine CW.cond_t rfl (decide_eq_true c1) ?_
   refine CW.skip ?_
   refine NW.next ?_
   refine CW.seq ?_
   refine CW.block ?_
   refine CW.seq ?_
   refine CW.lex [.W, .L, .X, .M] rfl ?_
   obtain ⟨g1, H⟩ := guard_some H
   obtain ⟨ad1, e1, a1⟩ := kPtr_at gF4_0.slL g1.1 g1.2
   refine RW.index tabOk g1.1 g1.2 e1 ⟨rfl, rfl, rfl, rfl⟩ rfl rfl rfl rfl rfl rfl ?_
   refine RW.load tabOk [.int .i64 ((rd y1.1.Way it20_0).Dev), .int .i64 ((rd y1.1.Way it20_0).At)] a1 ⟨rfl, rfl, rfl, rfl⟩ rfl rfl rfl rfl ?_
   refine RW.alloc tabOk (.inl rfl) ⟨rfl, rfl, rfl, rfl⟩ rfl rfl ?_
   intro b4 w7 x6 l4 h19
   have sx6 := x6.size
   have ltb4 := h19.lt
   refine RW.storeBox tabOk h19 [.int .i64 ((rd y1.1.Way it20_0).Dev), .int .i64 ((rd y1.1.Way it20_0).At)] ⟨rfl, rfl, rfl⟩ rfl rfl rfl rfl rfl rfl rfl rfl ?_
   intro w8 x7 h20
   have h21 : Box w8.heap b4 70 [.int .i64 ((rd y1.1.Way it20_0).Dev), .int .i64 ((rd y1.1.Way it20_0).At)] := h20
   have sx7 := x7.size
   refine RW.done ?_
   refine NW.next ?_
   refine CW.lex [.W, .W, .L, .X, .M, .W] rfl ?_
   refine RW.pure tabOk 2 rfl ?_
   refine RW.load tabOk [.int .i64 ((rd y1.1.Way it20_0).Dev)] ((h21.at 0).take 1 rfl) ⟨rfl, rfl, rfl, rfl⟩ rfl rfl rfl rfl ?_
   refine RW.buildSlice (cs := [.int .i64 ((rd y1.1.Way it20_0).Dev)]) tabOk (.inl rfl) ⟨rfl, rfl, rfl, rfl⟩ rfl rfl rfl rfl rfl rfl rfl ?_
   intro b5 w9 x8 l5 h22
   have sx8 := x8.size
   have ltb5 := h22.lt
   have h23 := ((h18.ext x6).turnB x7 h19 ⟨.inl (show (3 : Nat) ≠ 70 by decide), trivial⟩ trivial).ext x8
   obtain ⟨g2, H⟩ := guard_some H
   refine RW.append1L (d := (Kd.int .i64)) (v := (rd y1.1.Way it20_0).Dev) (l := [(w5.heap.size, some w6.heap.size, some 3)]) (li := []) (ly := []) (xs := lt8_0) tabOk h23 h22 rfl trivial (by simp only [maxLen]; omega) g2 ⟨rfl, rfl, rfl, rfl⟩ rfl rfl rfl rfl rfl rfl rfl ?_
   intro A5 c_5 w10 x9 h24
   have sx9 := x9.size
   have h25 := h24.close.sub (l' := [(w5.heap.size, some w10.heap.size, some 3)]) (li' := []) ⟨(.inl ⟨by omega, by omega, rfl⟩), ⟨(.inl ⟨by omega, by omega, rfl⟩), trivial⟩⟩ trivial
   refine RW.pure tabOk 1 rfl ?_
   refine RW.done ?_
   refine NW.norm_block (NW.next ?_)
   refine CW.lex [.W, .W] rfl ?_
   refine RW.pure tabOk 2 rfl ?_
   refine RW.done ?_
   have h26 := (((gF4_0.ext x6).turnB x7 h19 ⟨.inr (by omega), trivial⟩ trivial).ext x8).turnL x9 ⟨⟨.inl (show (70 : Nat) ≠ 3 by decide), trivial⟩, trivial⟩ trivial
   have h27 := Ext.turn (Ext.trans (Ext.turnB (Ext.trans x0_0 x6) x7 (by omega)) x8) x9 ⟨by omega, trivial⟩
   exact NW.J fun a ha => ⟨n1, Nat.lt_succ_self n1, (lt8_0 ++ [(rd y1.1.Way it20_0).Dev]), A5, c_5, (w64 (it20_0 + 1)), ha.sub ⟨rfl, rfl, rfl, rfl, rfl, trivial⟩, by omega, (h25.sub ⟨(.inl ⟨by omega, trivial, rfl⟩), trivial⟩ trivial), h26, h27, H⟩
  ·
   rw [if_neg c1] at H
   refine CW.cond_f rfl (decide_eq_false c1) ?_
   refine CW.exit ?_
   refine NW.exit_then (NW.exit_then (NW.exit_hit ?_))
   refine NW.next ?_
   refine CW.seq ?_
   refine CW.lex [.W, .W, .W, .W] rfl ?_
   refine RW.pure tabOk 4 rfl ?_
   refine RW.done ?_
   refine NW.next ?_
   refine CW.ret ?_
   obtain rfl := Option.some.inj H
   exact NW.ret2 rfl (by rfl) (by rfl) ⟨At8_0, ct8_0, rfl, x0_0, (h18.sub (l' := [(w.heap.size, none, some 3)]) (li' := []) ⟨(.inl ⟨by omega, trivial, rfl⟩), trivial⟩ trivial)⟩

set_option maxHeartbeats 20000000 in
set_option maxRecDepth 100000 in
theorem hermitagelaw9_num.calls (p0 : Int) (r : Int) (w : World) (H : hermitagelaw9_num.f p0 = some r) :
    Calls Tryd.prog 48 #[.int .i64 p0] w fun e w' => e = .returned (.int .i64 r) ∧ Ext w w' := by
 have x0 : Ext w w := Upd.refl _ w
 unfold hermitagelaw9_num.f at H
 refine calls_start Tryd.func48 rfl 4 rfl [.int .i64 p0] rfl ?_
 refine CW.seq ?_
 refine CW.lex [.W] rfl ?_
 refine RW.pure tabOk 1 rfl ?_
 refine RW.done ?_
 refine NW.next ?_
 refine CW.seq ?_
 refine CW.lex [.W, .W] rfl ?_
 refine RW.pure tabOk 2 rfl ?_
 refine RW.done ?_
 refine NW.next ?_
 refine CW.ret ?_
 obtain rfl := Option.some.inj H
 exact NW.ret1 rfl (by rfl) ⟨rfl, x0⟩

set_option maxHeartbeats 20000000 in
set_option maxRecDepth 100000 in
theorem slices_Clone_Device.calls (A1 : Option Addr) (c_1 : Nat) (p0 : List Device) (r : (List Device)) (w : World) (hs1 : Sl kDeviceR w.heap okAll A1 p0) (hl1 : p0.length ≤ c_1) (H : slices_Clone_Device.f p0 = some r) :
    Calls Tryd.prog 83 #[.slice A1 p0.length c_1] w fun e w' => ∃ (B1 : Option Addr) (d1 : Nat), e = .returned (.slice B1 r.length d1) ∧ Ext w w' ∧ Ow kDeviceR 84 w'.heap (okL [(w.heap.size, none, some 84)]) (okL [(0, some w.heap.size, none), (w.heap.size, none, some 93)]) B1 d1 r := by
 have h1 : Sl kDeviceR w.heap (okL [(0, some w.heap.size, none)]) A1 p0 := hs1.old _ rfl
 have x0 : Ext w w := Upd.refl _ w
 unfold slices_Clone_Device.f at H
 refine calls_start Tryd.func83 rfl 8 rfl [.slice A1 p0.length c_1] rfl ?_
 refine CW.seq ?_
 refine CW.lex [.W] rfl ?_
 refine RW.pure tabOk 1 rfl ?_
 refine RW.done ?_
 refine NW.next ?_
 refine CW.seq ?_
 refine CW.seq ?_
 refine CW.lex [.W, .W] rfl ?_
 refine RW.pure tabOk 1 rfl ?_
 refine RW.eqNil tabOk ⟨rfl, rfl, rfl, rfl⟩ rfl rfl rfl rfl rfl ?_
 refine RW.done ?_
 refine NW.next ?_
 by_cases c1 : A1.isNone = true
 ·
  obtain rfl : p0 = [] := sl_none h1 c1
  replace H : (some ([] : List Device)) = some r := by first | exact H | simpa using H
  refine CW.cond_t rfl (c1) ?_
  refine CW.seq ?_
  refine CW.lex [.W] rfl ?_
  refine RW.pure tabOk 1 rfl ?_
  refine RW.done ?_
  refine NW.next ?_
  refine CW.ret ?_
  refine NW.ret_then ?_
  obtain rfl := Option.some.inj H
  exact NW.ret1 rfl (by rfl) ⟨none, 0, rfl, x0, Ow.nil⟩
 ·
  refine CW.cond_f rfl (bool_f c1) ?_
  refine CW.skip ?_
  refine NW.next ?_
  refine CW.seq ?_
  refine CW.lex [.X, .W, .M, .W] rfl ?_
  refine RW.buildSlice (cs := []) tabOk (.inl rfl) ⟨rfl, rfl, rfl, rfl⟩ rfl rfl rfl rfl rfl rfl rfl ?_
  intro b1 w1 x1 l1 h2
  have sx1 := x1.size
  have ltb1 := h2.lt
  refine RW.pure tabOk 1 rfl ?_
  have h3 := h1.ext x1
  obtain ⟨y1, h4, h5⟩ := Sl.ch h3
  obtain ⟨g1, H⟩ := guard_some H
  refine RW.appendL (d := kDeviceR) (l := []) (li := []) (ly := [(0, some w.heap.size, none)]) (xs := ([] : List Device)) (ys := p0) tabOk Ow.nil h4 h5 ⟨trivial, trivial⟩ (by simp only [maxLen]; omega) g1 ⟨rfl, rfl, rfl, rfl⟩ rfl rfl rfl rfl rfl rfl rfl rfl ?_
  intro A2 c_2 w2 x2 h6
  have sx2 := x2.size
  have h7 := h6.close.sub (l' := [(w1.heap.size, some w2.heap.size, some 84)]) (li' := [(0, some w.heap.size, none)]) ⟨(.inl ⟨by omega, by omega, rfl⟩), trivial⟩ ⟨(.inl ⟨by omega, by omega, trivial⟩), trivial⟩
  refine RW.pure tabOk 1 rfl ?_
  refine RW.done ?_
  refine NW.next ?_
  refine CW.ret ?_
  obtain rfl := Option.some.inj H
  have h8 := Ext.turn (Ext.trans x0 x1) x2 trivial
  exact NW.ret1 rfl (by rfl) ⟨A2, c_2, rfl, h8, (h7.sub (l' := [(w.heap.size, none, some 84)]) (li' := [(0, some w.heap.size, none), (w.heap.size, none, some 93)]) ⟨(.inl ⟨by omega, trivial, rfl⟩), trivial⟩ ⟨(.inl ⟨by omega, by omega, trivial⟩), trivial⟩)⟩

set_option maxHeartbeats 20000000 in
set_option maxRecDepth 100000 in
theorem slices_Clone_Seg.calls (A1 : Option Addr) (c_1 : Nat) (p0 : List Seg) (r : (List Seg)) (w : World) (hs1 : Sl kSeg w.heap okAll A1 p0) (hl1 : p0.length ≤ c_1) (H : slices_Clone_Seg.f p0 = some r) :
    Calls Tryd.prog 84 #[.slice A1 p0.length c_1] w fun e w' => ∃ (B1 : Option Addr) (d1 : Nat), e = .returned (.slice B1 r.length d1) ∧ Ext w w' ∧ Ow kSeg 93 w'.heap (okL [(w.heap.size, none, some 93)]) (okL []) B1 d1 r := by
 have h1 : Sl kSeg w.heap (okL [(0, some w.heap.size, none)]) A1 p0 := hs1.old _ rfl
 have x0 : Ext w w := Upd.refl _ w
 unfold slices_Clone_Seg.f at H
 refine calls_start Tryd.func84 rfl 8 rfl [.slice A1 p0.length c_1] rfl ?_
 refine CW.seq ?_
 refine CW.lex [.W] rfl ?_
 refine RW.pure tabOk 1 rfl ?_
 refine RW.done ?_
 refine NW.next ?_
 refine CW.seq ?_
 refine CW.seq ?_
 refine CW.lex [.W, .W] rfl ?_
 refine RW.pure tabOk 1 rfl ?_
 refine RW.eqNil tabOk ⟨rfl, rfl, rfl, rfl⟩ rfl rfl rfl rfl rfl ?_
 refine RW.done ?_
 refine NW.next ?_
 by_cases c1 : A1.isNone = true
 ·
  obtain rfl : p0 = [] := sl_none h1 c1
  replace H : (some ([] : List Seg)) = some r := by first | exact H | simpa using H
  refine CW.cond_t rfl (c1) ?_
  refine CW.seq ?_
  refine CW.lex [.W] rfl ?_
  refine RW.pure tabOk 1 rfl ?_
  refine RW.done ?_
  refine NW.next ?_
  refine CW.ret ?_
  refine NW.ret_then ?_
  obtain rfl := Option.some.inj H
  exact NW.ret1 rfl (by rfl) ⟨none, 0, rfl, x0, Ow.nil⟩
 ·
  refine CW.cond_f rfl (bool_f c1) ?_
  refine CW.skip ?_
  refine NW.next ?_
  refine CW.seq ?_
  refine CW.lex [.X, .W, .M, .W] rfl ?_
  refine RW.buildSlice (cs := []) tabOk (.inl rfl) ⟨rfl, rfl, rfl, rfl⟩ rfl rfl rfl rfl rfl rfl rfl ?_
  intro b1 w1 x1 l1 h2
  have sx1 := x1.size
  have ltb1 := h2.lt
  refine RW.pure tabOk 1 rfl ?_
  have h3 := h1.ext x1
  obtain ⟨y1, h4, h5⟩ := Sl.ch h3
  have h6 := h4.flat (h' := w1.heap) (ok' := okL []) fun e => e
  obtain ⟨g1, H⟩ := guard_some H
  refine RW.appendL (d := kSeg) (l := []) (li := []) (ly := []) (xs := ([] : List Seg)) (ys := p0) tabOk Ow.nil h6 h5 trivial (by simp only [maxLen]; omega) g1 ⟨rfl, rfl, rfl, rfl⟩ rfl rfl rfl rfl rfl rfl rfl rfl ?_
  intro A2 c_2 w2 x2 h7
  have sx2 := x2.size
  have h8 := h7.close.sub (l' := [(w1.heap.size, some w2.heap.size, some 93)]) (li' := []) ⟨(.inl ⟨by omega, by omega, rfl⟩), trivial⟩ trivial
  refine RW.pure tabOk 1 rfl ?_
  refine RW.done ?_
  refine NW.next ?_
  refine CW.ret ?_
  obtain rfl := Option.some.inj H
  have h9 := Ext.turn (Ext.trans x0 x1) x2 trivial
  exact NW.ret1 rfl (by rfl) ⟨A2, c_2, rfl, h9, (h8.sub (l' := [(w.heap.size, none, some 93)]) (li' := []) ⟨(.inl ⟨by omega, trivial, rfl⟩), trivial⟩ trivial)⟩

set_option maxHeartbeats 20000000 in
set_option maxRecDepth 100000 in
theorem room_Own.calls (k : Nat) (A1 : Option Addr) (c_1 : Nat) (p0 : List Device) (r : (List Device)) (w : World) (hs1 : Sl kDeviceR w.heap okAll A1 p0) (hl1 : p0.length ≤ c_1) (H : room_Own.f k p0 = some r) :
    Calls Tryd.prog 67 #[.slice A1 p0.length c_1] w fun e w' => ∃ (B1 : Option Addr) (d1 : Nat), e = .returned (.slice B1 r.length d1) ∧ Ext w w' ∧ Ow kDeviceO 84 w'.heap (okL [(w.heap.size, none, some 84)]) (okL [(w.heap.size, none, some 93)]) B1 d1 r := by
 have h1 : Sl kDeviceR w.heap (okL [(0, some w.heap.size, none)]) A1 p0 := hs1.old _ rfl
 have x0 : Ext w w := Upd.refl _ w
 unfold room_Own.f at H
 refine calls_start Tryd.func67 rfl 33 rfl [.slice A1 p0.length c_1] rfl ?_
 refine CW.seq ?_
 refine CW.lex [.W] rfl ?_
 refine RW.pure tabOk 1 rfl ?_
 refine RW.done ?_
 refine NW.next ?_
 refine CW.seq ?_
 refine CW.lex [.W, .X, .W] rfl ?_
 refine RW.pure tabOk 1 rfl ?_
 obtain ⟨y1, h2, H⟩ := bind_some H
 refine RW.callF (.inl rfl) ent83 ⟨rfl, rfl, rfl, rfl⟩ rfl rfl (slices_Clone_Device.calls A1 c_1 p0 _ _ h1.all hl1 h2) ?_
 rintro _ w1 ⟨A2, c_2, rfl, x1, h3⟩
 refine ⟨_, rfl, x1, ?_⟩
 have sx1 := x1.size
 have h4 : Ow kDeviceR 84 w1.heap (okL [(w.heap.size, some w1.heap.size, some 84)]) (okL [(0, some w.heap.size, none), (w.heap.size, some w1.heap.size, some 93)]) A2 c_2 y1 := h3.close
 refine RW.pure tabOk 1 rfl ?_
 refine RW.done ?_
 refine NW.next ?_
 refine CW.seq ?_
 refine CW.seq ?_
 refine CW.lex [.W, .W, .W] rfl ?_
 refine RW.pure tabOk 3 rfl ?_
 refine RW.done ?_
 refine NW.next ?_
 refine CW.block ?_
 refine CW.loop (fun n1 a w2 => ∃ (lt0_0 : List Device) (it8_0 : Int), Sat 33 [(0, .slice A2 lt0_0.length c_2), (7, .int .i64 (y1.length : Int)), (8, .int .i64 it8_0)] a ∧ w1.heap.size ≤ w2.heap.size ∧ Ow kDeviceR 84 w2.heap (okL [(w.heap.size, none, some 84)]) (okL [(0, some w.heap.size, none), (w.heap.size, none, some 93)]) A2 c_2 lt0_0 ∧ Ext w w2 ∧ lt0_0.length = y1.length ∧ lt0_0.length = y1.length ∧ 0 ≤ it8_0 ∧ OwPart kDeviceO w2.heap (okL [(w.heap.size, none, some 93)]) A2 lt0_0 default it8_0.toNat ∧ room_Own.l0 y1 n1 lt0_0 it8_0 = some r) k ?_ ?_
 have h5 := Ext.trans x0 x1
 · exact fun a ha => ⟨y1, 0, ha.sub ⟨rfl, rfl, rfl, trivial⟩, by omega, (h4.sub ⟨(.inl ⟨by omega, trivial, rfl⟩), trivial⟩ ⟨(.inl ⟨by omega, by omega, trivial⟩), ⟨(.inr (.inl ⟨by omega, trivial, rfl⟩)), trivial⟩⟩), h5, (by (try simp only [List.length_set]) <;> omega), rfl, Int.le_refl 0, OwPart.zero, H⟩
 intro n1 a w2 hI hp
 obtain ⟨lt0_0, it8_0, hS, hle, ft0_0, x0_0, ln_lt0_0, hln, hi0, hpt, H⟩ := hI
 cases n1 with
 | zero => cases H
 | succ n1 =>
  rw [room_Own.l0] at H
  refine CW.go hp hS ?_
  have h6 : Ow kDeviceR 84 w2.heap (okL [(w.heap.size, some w2.heap.size, some 84)]) (okL [(0, some w.heap.size, none), (w.heap.size, some w2.heap.size, some 93)]) A2 c_2 lt0_0 := ft0_0.close
  refine CW.seq ?_
  refine CW.lex [.W] rfl ?_
  refine RW.pure tabOk 1 rfl ?_
  refine RW.done ?_
  refine NW.next ?_
  refine CW.seq ?_
  by_cases c1 : it8_0 < (y1.length : Int)
  ·
   rw [if_pos c1] at H
   refine CW.cond_t rfl (decide_eq_true c1) ?_
   refine CW.skip ?_
   refine NW.next ?_
   refine CW.seq ?_
   refine CW.block ?_
   refine CW.seq ?_
   refine CW.lex [.W, .W] rfl ?_
   refine RW.pure tabOk 2 rfl ?_
   refine RW.done ?_
   refine NW.next ?_
   refine CW.ord [0, 0, 0, 0, 0, 0, 48, 112, 240, 496, 0, 0, 3072, 7168, 15360, 32752, 65523, 131059, 262131, 524287, 1048575, 2097151] (ofL [(0, .W), (1, .W), (2, .W), (3, .W), (4, .W), (5, .W), (6, .W), (7, .W), (10, .W), (11, .W), (12, .W), (13, .W), (8, .L), (14, .L), (9, .X), (15, .X), (16, .W), (17, .W), (18, .M), (19, .W), (20, .W), (21, .M)] .nil) mixed (by kernel_rfl) ?_
   intro w3 x2
   have sx2 := x2.size
   refine RW.pure tabOk 6 rfl ?_
   obtain ⟨g1, H⟩ := guard_some H
   have h7 := h6.ext x2
   obtain ⟨ad1, A3, c_3, A4, c_4, e1, a1, l1, h8, l2, h9⟩ := kDeviceR_ato h7 g1.1 g1.2
   refine RW.index tabOk g1.1 g1.2 e1 ⟨rfl, rfl, rfl, rfl⟩ rfl rfl rfl rfl rfl rfl ?_
   refine RW.pure tabOk 3 rfl ?_
   obtain ⟨g2, H⟩ := guard_some H
   obtain ⟨ad2, A5, c_5, A6, c_6, e2, a2, l3, h10, l4, h11⟩ := kDeviceR_ato h7 g2.1 g2.2
   refine RW.index tabOk g2.1 g2.2 e2 ⟨rfl, rfl, rfl, rfl⟩ rfl rfl rfl rfl rfl rfl ?_
   refine RW.pure tabOk 1 rfl ?_
   refine RW.load tabOk [.slice A3 ((rd lt0_0 it8_0).Free).length c_3] ((a1.fld 2).take 1 rfl) ⟨rfl, rfl, rfl, rfl⟩ rfl rfl rfl rfl ?_
   refine RW.load tabOk [.slice A6 ((rd lt0_0 it8_0).Late).length c_6] (a2.fld 3) ⟨rfl, rfl, rfl, rfl⟩ rfl rfl rfl rfl ?_
   obtain ⟨y2, h12, H⟩ := bind_some H
   refine RW.callF (.inl rfl) ent84 ⟨rfl, rfl, rfl, rfl⟩ rfl rfl (slices_Clone_Seg.calls A3 c_3 ((rd lt0_0 it8_0).Free) _ _ h8.all l1 h12) ?_
   rintro _ w4 ⟨A7, c_7, rfl, x3, h13⟩
   refine ⟨_, rfl, x3, ?_⟩
   have sx3 := x3.size
   have h14 : Ow kSeg 93 w4.heap (okL [(w3.heap.size, some w4.heap.size, some 93)]) (okL []) A7 c_7 y2 := h13.close
   have h15 := h11.ext x3
   obtain ⟨y3, h16, H⟩ := bind_some H
   refine RW.callF (.inl rfl) ent84 ⟨rfl, rfl, rfl, rfl⟩ rfl rfl (slices_Clone_Seg.calls A6 c_6 ((rd lt0_0 it8_0).Late) _ _ h15.all l4 h16) ?_
   rintro _ w5 ⟨A8, c_8, rfl, x4, h17⟩
   refine ⟨_, rfl, x4, ?_⟩
   have sx4 := x4.size
   have h18 : Ow kSeg 93 w5.heap (okL [(w4.heap.size, some w5.heap.size, some 93)]) (okL []) A8 c_8 y3 := h17.close
   obtain ⟨g3, H⟩ := guard_some H
   have h19 := (h7.ext x3).ext x4
   obtain ⟨ad3, A9, c_9, A10, c_10, e3, a3, l5, h20, l6, h21⟩ := kDeviceR_ato h19 g3.1 g3.2
   refine RW.index tabOk g3.1 g3.2 e3 ⟨rfl, rfl, rfl, rfl⟩ rfl rfl rfl rfl rfl rfl ?_
   refine RW.pure tabOk 1 rfl ?_
   have h22 := h14.ext x4
   refine RW.storeElX (y := (⟨(rd lt0_0 it8_0).ID, (rd lt0_0 it8_0).Size, y2, (rd lt0_0 it8_0).Late⟩ : Device)) (lv := [(w3.heap.size, some w4.heap.size, some 93)]) (k := 2) tabOk h19 (j := it8_0.toNat) (by have := g3; omega) default [.slice A7 y2.length c_7] (fun cs ok' hr => by obtain ⟨qa1, qc1, qa2, qc2, rfl, ql1, q1, ql2, q2⟩ := kDeviceR_open hr; exact ⟨by simp, kDeviceR_mk (⟨(rd lt0_0 it8_0).ID, (rd lt0_0 it8_0).Size, y2, (rd lt0_0 it8_0).Late⟩ : Device) h22.len (Sl.mono h22.slL fun _ _ ho => Or.inr (okL_sub (l := [(w3.heap.size, some w4.heap.size, some 93)]) (l' := [(w3.heap.size, some w4.heap.size, some 93)]) ⟨(.inl ⟨by omega, by omega, rfl⟩), trivial⟩ ho)) ql2 (q2.mono fun _ _ ho => Or.inl ho)⟩) ⟨⟨.inl (show (93 : Nat) ≠ 84 by decide), trivial⟩, trivial⟩ ⟨rfl, rfl, rfl⟩ rfl rfl e3 rfl rfl rfl rfl rfl ?_
   intro w6 x5 Xx5 h23
   have sx5 := x5.size
   have h24 := h23.close.sub (l' := [(w.heap.size, some w2.heap.size, some 84)]) (li' := [(0, some w.heap.size, none), (w.heap.size, some w4.heap.size, some 93)]) ⟨(.inl ⟨by omega, by omega, rfl⟩), trivial⟩ ⟨(.inl ⟨by omega, by omega, trivial⟩), ⟨(.inr (.inl ⟨by omega, by omega, rfl⟩)), ⟨(.inr (.inl ⟨by omega, by omega, rfl⟩)), trivial⟩⟩⟩
   refine RW.tell 0 (v' := .slice A2 (lt0_0.set it8_0.toNat (⟨(rd lt0_0 it8_0).ID, (rd lt0_0 it8_0).Size, y2, (rd lt0_0 it8_0).Late⟩ : Device)).length c_2) (by simp only [List.length_set]) rfl ?_
   refine RW.tell 13 (v' := .slice A2 (lt0_0.set it8_0.toNat (⟨(rd lt0_0 it8_0).ID, (rd lt0_0 it8_0).Size, y2, (rd lt0_0 it8_0).Late⟩ : Device)).length c_2) (by simp only [List.length_set]) rfl ?_
   obtain ⟨g4, H⟩ := guard_some H
   obtain ⟨ad4, A11, c_11, A12, c_12, e4, a4, l7, h25, l8, h26⟩ := kDeviceR_ato h24 g4.1 g4.2
   refine RW.index tabOk g4.1 g4.2 e4 ⟨rfl, rfl, rfl, rfl⟩ rfl rfl rfl rfl rfl rfl ?_
   refine RW.pure tabOk 1 rfl ?_
   have h27 := h18.turnL x5 ⟨⟨.inl (show (93 : Nat) ≠ 84 by decide), trivial⟩, trivial⟩ trivial
   refine RW.storeElX (y := (⟨(rd (lt0_0.set it8_0.toNat (⟨(rd lt0_0 it8_0).ID, (rd lt0_0 it8_0).Size, y2, (rd lt0_0 it8_0).Late⟩ : Device)) it8_0).ID, (rd (lt0_0.set it8_0.toNat (⟨(rd lt0_0 it8_0).ID, (rd lt0_0 it8_0).Size, y2, (rd lt0_0 it8_0).Late⟩ : Device)) it8_0).Size, (rd (lt0_0.set it8_0.toNat (⟨(rd lt0_0 it8_0).ID, (rd lt0_0 it8_0).Size, y2, (rd lt0_0 it8_0).Late⟩ : Device)) it8_0).Free, y3⟩ : Device)) (lv := [(w4.heap.size, some w5.heap.size, some 93)]) (k := 3) tabOk h24 (j := it8_0.toNat) (by have := g4; omega) default [.slice A8 y3.length c_8] (fun cs ok' hr => by obtain ⟨qa1, qc1, qa2, qc2, rfl, ql1, q1, ql2, q2⟩ := kDeviceR_open hr; exact ⟨by simp, kDeviceR_mk (⟨(rd (lt0_0.set it8_0.toNat (⟨(rd lt0_0 it8_0).ID, (rd lt0_0 it8_0).Size, y2, (rd lt0_0 it8_0).Late⟩ : Device)) it8_0).ID, (rd (lt0_0.set it8_0.toNat (⟨(rd lt0_0 it8_0).ID, (rd lt0_0 it8_0).Size, y2, (rd lt0_0 it8_0).Late⟩ : Device)) it8_0).Size, (rd (lt0_0.set it8_0.toNat (⟨(rd lt0_0 it8_0).ID, (rd lt0_0 it8_0).Size, y2, (rd lt0_0 it8_0).Late⟩ : Device)) it8_0).Free, y3⟩ : Device) ql1 (q1.mono fun _ _ ho => Or.inl ho) h27.len (Sl.mono h27.slL fun _ _ ho => Or.inr (okL_sub (l := [(w4.heap.size, some w5.heap.size, some 93)]) (l' := [(w4.heap.size, some w5.heap.size, some 93)]) ⟨(.inl ⟨by omega, by omega, rfl⟩), trivial⟩ ho))⟩) ⟨⟨.inl (show (93 : Nat) ≠ 84 by decide), trivial⟩, trivial⟩ ⟨rfl, rfl, rfl⟩ rfl rfl e4 rfl rfl rfl rfl rfl ?_
   intro w7 x6 Xx6 h28
   have sx6 := x6.size
   have h29 := h28.close.sub (l' := [(w.heap.size, some w2.heap.size, some 84)]) (li' := [(0, some w.heap.size, none), (w.heap.size, some w5.heap.size, some 93)]) ⟨(.inl ⟨by omega, by omega, rfl⟩), trivial⟩ ⟨(.inl ⟨by omega, by omega, trivial⟩), ⟨(.inr (.inl ⟨by omega, by omega, rfl⟩)), ⟨(.inr (.inl ⟨by omega, by omega, rfl⟩)), trivial⟩⟩⟩
   refine RW.tell 0 (v' := .slice A2 ((lt0_0.set it8_0.toNat (⟨(rd lt0_0 it8_0).ID, (rd lt0_0 it8_0).Size, y2, (rd lt0_0 it8_0).Late⟩ : Device)).set it8_0.toNat (⟨(rd (lt0_0.set it8_0.toNat (⟨(rd lt0_0 it8_0).ID, (rd lt0_0 it8_0).Size, y2, (rd lt0_0 it8_0).Late⟩ : Device)) it8_0).ID, (rd (lt0_0.set it8_0.toNat (⟨(rd lt0_0 it8_0).ID, (rd lt0_0 it8_0).Size, y2, (rd lt0_0 it8_0).Late⟩ : Device)) it8_0).Size, (rd (lt0_0.set it8_0.toNat (⟨(rd lt0_0 it8_0).ID, (rd lt0_0 it8_0).Size, y2, (rd lt0_0 it8_0).Late⟩ : Device)) it8_0).Free, y3⟩ : Device)).length c_2) (by simp only [List.length_set]) rfl ?_
   refine RW.done ?_
   refine NW.norm_block (NW.next ?_)
   refine CW.lex [.W, .W] rfl ?_
   refine RW.pure tabOk 2 rfl ?_
   refine RW.done ?_
   have h30 := Ext.turn (Ext.turn (Ext.trans (Ext.trans (Ext.trans x0_0 x2) x3) x4) x5 ⟨by omega, trivial⟩) x6 ⟨by omega, trivial⟩
   have hno : ∀ b, okL [(w.heap.size, none, some 93)] b (some 84) → False := fun b h => by rcases h with ⟨_, _, h⟩ | h; exact absurd h (show ¬ ((some 84 : Option TypeId) = some 93) by decide); exact h.elim
   have Xx5' : Laid kDeviceO _ _ _ _ _ 2 _ := Xx5
   have Xx6' : Laid kDeviceO _ _ _ _ _ 3 _ := Xx6
   have pt := ((((hpt.ext x2).ext x3).ext x4).store (y := (⟨(rd lt0_0 it8_0).ID, (rd lt0_0 it8_0).Size, y2, (rd lt0_0 it8_0).Late⟩ : Device)) x5 Xx5' (Nat.le_refl _) hno).store (y := (⟨(rd (lt0_0.set it8_0.toNat (⟨(rd lt0_0 it8_0).ID, (rd lt0_0 it8_0).Size, y2, (rd lt0_0 it8_0).Late⟩ : Device)) it8_0).ID, (rd (lt0_0.set it8_0.toNat (⟨(rd lt0_0 it8_0).ID, (rd lt0_0 it8_0).Size, y2, (rd lt0_0 it8_0).Late⟩ : Device)) it8_0).Size, (rd (lt0_0.set it8_0.toNat (⟨(rd lt0_0 it8_0).ID, (rd lt0_0 it8_0).Size, y2, (rd lt0_0 it8_0).Late⟩ : Device)) it8_0).Free, y3⟩ : Device)) x6 Xx6' (Nat.le_refl _) hno
   have at1 := ((((a1.ext x3).ext x4).here Xx5 (d := kDeviceR) e1 (Nat.le_of_ble_eq_true rfl)).here Xx6 (d := kDeviceR) e1 (Nat.le_of_ble_eq_true rfl))
   have q1 := ((h14.ext x4).turnL x5 ⟨⟨.inl (show (93 : Nat) ≠ 84 by decide), trivial⟩, trivial⟩ trivial).turnL x6 ⟨⟨.inl (show (93 : Nat) ≠ 84 by decide), trivial⟩, trivial⟩ trivial
   have q2 := (h18.turnL x5 ⟨⟨.inl (show (93 : Nat) ≠ 84 by decide), trivial⟩, trivial⟩ trivial).turnL x6 ⟨⟨.inl (show (93 : Nat) ≠ 84 by decide), trivial⟩, trivial⟩ trivial
   have lj : it8_0.toNat < lt0_0.length := by have := g1; omega
   have er : rd (lt0_0.set it8_0.toNat (⟨(rd lt0_0 it8_0).ID, (rd lt0_0 it8_0).Size, y2, (rd lt0_0 it8_0).Late⟩ : Device)) it8_0 = (⟨(rd lt0_0 it8_0).ID, (rd lt0_0 it8_0).Size, y2, (rd lt0_0 it8_0).Late⟩ : Device) := by unfold rd; rw [List.getD_eq_getElem?_getD, List.getElem?_set_self lj]; rfl
   have eg : ((lt0_0.set it8_0.toNat (⟨(rd lt0_0 it8_0).ID, (rd lt0_0 it8_0).Size, y2, (rd lt0_0 it8_0).Late⟩ : Device)).set it8_0.toNat (⟨(rd (lt0_0.set it8_0.toNat (⟨(rd lt0_0 it8_0).ID, (rd lt0_0 it8_0).Size, y2, (rd lt0_0 it8_0).Late⟩ : Device)) it8_0).ID, (rd (lt0_0.set it8_0.toNat (⟨(rd lt0_0 it8_0).ID, (rd lt0_0 it8_0).Size, y2, (rd lt0_0 it8_0).Late⟩ : Device)) it8_0).Size, (rd (lt0_0.set it8_0.toNat (⟨(rd lt0_0 it8_0).ID, (rd lt0_0 it8_0).Size, y2, (rd lt0_0 it8_0).Late⟩ : Device)) it8_0).Free, y3⟩ : Device)).getD it8_0.toNat default = (⟨(rd lt0_0 it8_0).ID, (rd lt0_0 it8_0).Size, y2, y3⟩ : Device) := by rw [List.getD_eq_getElem?_getD, List.getElem?_set_self (by rw [List.length_set]; exact lj), er]; rfl
   have rp : kDeviceO.rep w7.heap (okL [(w.heap.size, none, some 93)]) [.int .i64 (rd lt0_0 it8_0).ID, .int .i64 (rd lt0_0 it8_0).Size, .slice A7 y2.length c_7, .slice A8 y3.length c_8] (((lt0_0.set it8_0.toNat (⟨(rd lt0_0 it8_0).ID, (rd lt0_0 it8_0).Size, y2, (rd lt0_0 it8_0).Late⟩ : Device)).set it8_0.toNat (⟨(rd (lt0_0.set it8_0.toNat (⟨(rd lt0_0 it8_0).ID, (rd lt0_0 it8_0).Size, y2, (rd lt0_0 it8_0).Late⟩ : Device)) it8_0).ID, (rd (lt0_0.set it8_0.toNat (⟨(rd lt0_0 it8_0).ID, (rd lt0_0 it8_0).Size, y2, (rd lt0_0 it8_0).Late⟩ : Device)) it8_0).Size, (rd (lt0_0.set it8_0.toNat (⟨(rd lt0_0 it8_0).ID, (rd lt0_0 it8_0).Size, y2, (rd lt0_0 it8_0).Late⟩ : Device)) it8_0).Free, y3⟩ : Device)).getD it8_0.toNat default) := by rw [eg]; exact kDeviceO_mk (⟨(rd lt0_0 it8_0).ID, (rd lt0_0 it8_0).Size, y2, y3⟩ : Device) (q1.sub (l' := [(w.heap.size, none, some 93)]) (li' := [(w.heap.size, none, some 93)]) ⟨(.inl ⟨by omega, trivial, rfl⟩), trivial⟩ trivial) (q2.sub (l' := [(w.heap.size, none, some 93)]) (li' := [(w.heap.size, none, some 93)]) ⟨(.inl ⟨by omega, trivial, rfl⟩), trivial⟩ trivial)
   have sh := h6.short
   have ew : w64 (it8_0 + 1) = it8_0 + 1 := w64_id (by omega) (by simp only [maxLen] at sh; omega)
   exact NW.J fun a ha => ⟨n1, Nat.lt_succ_self n1, ((lt0_0.set it8_0.toNat (⟨(rd lt0_0 it8_0).ID, (rd lt0_0 it8_0).Size, y2, (rd lt0_0 it8_0).Late⟩ : Device)).set it8_0.toNat (⟨(rd (lt0_0.set it8_0.toNat (⟨(rd lt0_0 it8_0).ID, (rd lt0_0 it8_0).Size, y2, (rd lt0_0 it8_0).Late⟩ : Device)) it8_0).ID, (rd (lt0_0.set it8_0.toNat (⟨(rd lt0_0 it8_0).ID, (rd lt0_0 it8_0).Size, y2, (rd lt0_0 it8_0).Late⟩ : Device)) it8_0).Size, (rd (lt0_0.set it8_0.toNat (⟨(rd lt0_0 it8_0).ID, (rd lt0_0 it8_0).Size, y2, (rd lt0_0 it8_0).Late⟩ : Device)) it8_0).Free, y3⟩ : Device)), (w64 (it8_0 + 1)), ha.sub ⟨rfl, rfl, rfl, trivial⟩, by omega, (h29.sub ⟨(.inl ⟨by omega, trivial, rfl⟩), trivial⟩ ⟨(.inl ⟨by omega, by omega, trivial⟩), ⟨(.inr (.inl ⟨by omega, trivial, rfl⟩)), trivial⟩⟩), h30, (by (try simp only [List.length_set]) <;> omega), by simp only [List.length_set]; exact hln, by omega, (by rw [show (w64 (it8_0 + 1)).toNat = it8_0.toNat + 1 by omega]; exact pt.snoc e1 rp at1), H⟩
  ·
   rw [if_neg c1] at H
   refine CW.cond_f rfl (decide_eq_false c1) ?_
   refine CW.exit ?_
   refine NW.exit_then (NW.exit_then (NW.exit_hit ?_))
   refine NW.next ?_
   refine CW.seq ?_
   refine CW.lex [.W, .W] rfl ?_
   refine RW.pure tabOk 2 rfl ?_
   refine RW.done ?_
   refine NW.next ?_
   refine CW.ret ?_
   obtain rfl := Option.some.inj H
   have hno : ∀ b, okL [(w.heap.size, none, some 93)] b (some 84) → False := fun b h => by rcases h with ⟨_, _, h⟩ | h; exact absurd h (show ¬ ((some 84 : Option TypeId) = some 93) by decide); exact h.elim
   exact NW.ret1 rfl (by rfl) ⟨A2, c_2, rfl, x0_0, ((h6.sub (l' := [(w.heap.size, none, some 84)]) (li' := [(0, some w.heap.size, none), (w.heap.size, none, some 93)]) ⟨(.inl ⟨by omega, trivial, rfl⟩), trivial⟩ ⟨(.inl ⟨by omega, by omega, trivial⟩), ⟨(.inr (.inl ⟨by omega, trivial, rfl⟩)), trivial⟩⟩).upgrade (d := kDeviceO) rfl hpt (by omega) hno)⟩

set_option maxHeartbeats 20000000 in
set_option maxRecDepth 100000 in
theorem slices_Clone_Table.calls (A1 : Option Addr) (c_1 : Nat) (p0 : List Table) (r : (List Table)) (w : World) {n0 : Nat} (hs1 : Sl kTableR w.heap (okL [(0, some n0, none)]) A1 p0) (hl1 : p0.length ≤ c_1) (hn0 : n0 ≤ w.heap.size) (H : slices_Clone_Table.f p0 = some r) :
    Calls Tryd.prog 96 #[.slice A1 p0.length c_1] w fun e w' => ∃ (B1 : Option Addr) (d1 : Nat), e = .returned (.slice B1 r.length d1) ∧ Ext w w' ∧ Ow kTableR 75 w'.heap (okL [(w.heap.size, none, some 75)]) (okL [(0, some n0, none), (w.heap.size, none, some 86)]) B1 d1 r := by
 have x0 : Ext w w := Upd.refl _ w
 unfold slices_Clone_Table.f at H
 refine calls_start Tryd.func96 rfl 8 rfl [.slice A1 p0.length c_1] rfl ?_
 refine CW.seq ?_
 refine CW.lex [.W] rfl ?_
 refine RW.pure tabOk 1 rfl ?_
 refine RW.done ?_
 refine NW.next ?_
 refine CW.seq ?_
 refine CW.seq ?_
 refine CW.lex [.W, .W] rfl ?_
 refine RW.pure tabOk 1 rfl ?_
 refine RW.eqNil tabOk ⟨rfl, rfl, rfl, rfl⟩ rfl rfl rfl rfl rfl ?_
 refine RW.done ?_
 refine NW.next ?_
 by_cases c1 : A1.isNone = true
 ·
  obtain rfl : p0 = [] := sl_none hs1 c1
  replace H : (some ([] : List Table)) = some r := by first | exact H | simpa using H
  refine CW.cond_t rfl (c1) ?_
  refine CW.seq ?_
  refine CW.lex [.W] rfl ?_
  refine RW.pure tabOk 1 rfl ?_
  refine RW.done ?_
  refine NW.next ?_
  refine CW.ret ?_
  refine NW.ret_then ?_
  obtain rfl := Option.some.inj H
  exact NW.ret1 rfl (by rfl) ⟨none, 0, rfl, x0, Ow.nil⟩
 ·
  refine CW.cond_f rfl (bool_f c1) ?_
  refine CW.skip ?_
  refine NW.next ?_
  refine CW.seq ?_
  refine CW.lex [.X, .W, .M, .W] rfl ?_
  refine RW.buildSlice (cs := []) tabOk (.inl rfl) ⟨rfl, rfl, rfl, rfl⟩ rfl rfl rfl rfl rfl rfl rfl ?_
  intro b1 w1 x1 l1 h2
  have sx1 := x1.size
  have ltb1 := h2.lt
  refine RW.pure tabOk 1 rfl ?_
  have h3 := hs1.ext x1
  obtain ⟨y1, h4, h5⟩ := Sl.ch h3
  obtain ⟨g1, H⟩ := guard_some H
  refine RW.appendL (d := kTableR) (l := []) (li := []) (ly := [(0, some n0, none)]) (xs := ([] : List Table)) (ys := p0) tabOk Ow.nil h4 h5 ⟨trivial, trivial⟩ (by simp only [maxLen]; omega) g1 ⟨rfl, rfl, rfl, rfl⟩ rfl rfl rfl rfl rfl rfl rfl rfl ?_
  intro A2 c_2 w2 x2 h6
  have sx2 := x2.size
  have h7 := h6.close.sub (l' := [(w1.heap.size, some w2.heap.size, some 75)]) (li' := [(0, some n0, none)]) ⟨(.inl ⟨by omega, by omega, rfl⟩), trivial⟩ ⟨(.inl ⟨by omega, by omega, trivial⟩), trivial⟩
  refine RW.pure tabOk 1 rfl ?_
  refine RW.done ?_
  refine NW.next ?_
  refine CW.ret ?_
  obtain rfl := Option.some.inj H
  have h8 := Ext.turn (Ext.trans x0 x1) x2 trivial
  exact NW.ret1 rfl (by rfl) ⟨A2, c_2, rfl, h8, (h7.sub (l' := [(w.heap.size, none, some 75)]) (li' := [(0, some n0, none), (w.heap.size, none, some 86)]) ⟨(.inl ⟨by omega, trivial, rfl⟩), trivial⟩ ⟨(.inl ⟨by omega, by omega, trivial⟩), trivial⟩)⟩

set_option maxHeartbeats 20000000 in
set_option maxRecDepth 100000 in
theorem slices_Clone_Entry.calls (A1 : Option Addr) (c_1 : Nat) (p0 : List Entry) (r : (List Entry)) (w : World) (hs1 : Sl kEntry w.heap okAll A1 p0) (hl1 : p0.length ≤ c_1) (H : slices_Clone_Entry.f p0 = some r) :
    Calls Tryd.prog 129 #[.slice A1 p0.length c_1] w fun e w' => ∃ (B1 : Option Addr) (d1 : Nat), e = .returned (.slice B1 r.length d1) ∧ Ext w w' ∧ Ow kEntry 86 w'.heap (okL [(w.heap.size, none, some 86)]) (okL []) B1 d1 r := by
 have h1 : Sl kEntry w.heap (okL [(0, some w.heap.size, none)]) A1 p0 := hs1.old _ rfl
 have x0 : Ext w w := Upd.refl _ w
 unfold slices_Clone_Entry.f at H
 refine calls_start Tryd.func129 rfl 8 rfl [.slice A1 p0.length c_1] rfl ?_
 refine CW.seq ?_
 refine CW.lex [.W] rfl ?_
 refine RW.pure tabOk 1 rfl ?_
 refine RW.done ?_
 refine NW.next ?_
 refine CW.seq ?_
 refine CW.seq ?_
 refine CW.lex [.W, .W] rfl ?_
 refine RW.pure tabOk 1 rfl ?_
 refine RW.eqNil tabOk ⟨rfl, rfl, rfl, rfl⟩ rfl rfl rfl rfl rfl ?_
 refine RW.done ?_
 refine NW.next ?_
 by_cases c1 : A1.isNone = true
 ·
  obtain rfl : p0 = [] := sl_none h1 c1
  replace H : (some ([] : List Entry)) = some r := by first | exact H | simpa using H
  refine CW.cond_t rfl (c1) ?_
  refine CW.seq ?_
  refine CW.lex [.W] rfl ?_
  refine RW.pure tabOk 1 rfl ?_
  refine RW.done ?_
  refine NW.next ?_
  refine CW.ret ?_
  refine NW.ret_then ?_
  obtain rfl := Option.some.inj H
  exact NW.ret1 rfl (by rfl) ⟨none, 0, rfl, x0, Ow.nil⟩
 ·
  refine CW.cond_f rfl (bool_f c1) ?_
  refine CW.skip ?_
  refine NW.next ?_
  refine CW.seq ?_
  refine CW.lex [.X, .W, .M, .W] rfl ?_
  refine RW.buildSlice (cs := []) tabOk (.inl rfl) ⟨rfl, rfl, rfl, rfl⟩ rfl rfl rfl rfl rfl rfl rfl ?_
  intro b1 w1 x1 l1 h2
  have sx1 := x1.size
  have ltb1 := h2.lt
  refine RW.pure tabOk 1 rfl ?_
  have h3 := h1.ext x1
  obtain ⟨y1, h4, h5⟩ := Sl.ch h3
  have h6 := h4.flat (h' := w1.heap) (ok' := okL []) fun e => e
  obtain ⟨g1, H⟩ := guard_some H
  refine RW.appendL (d := kEntry) (l := []) (li := []) (ly := []) (xs := ([] : List Entry)) (ys := p0) tabOk Ow.nil h6 h5 trivial (by simp only [maxLen]; omega) g1 ⟨rfl, rfl, rfl, rfl⟩ rfl rfl rfl rfl rfl rfl rfl rfl ?_
  intro A2 c_2 w2 x2 h7
  have sx2 := x2.size
  have h8 := h7.close.sub (l' := [(w1.heap.size, some w2.heap.size, some 86)]) (li' := []) ⟨(.inl ⟨by omega, by omega, rfl⟩), trivial⟩ trivial
  refine RW.pure tabOk 1 rfl ?_
  refine RW.done ?_
  refine NW.next ?_
  refine CW.ret ?_
  obtain rfl := Option.some.inj H
  have h9 := Ext.turn (Ext.trans x0 x1) x2 trivial
  exact NW.ret1 rfl (by rfl) ⟨A2, c_2, rfl, h9, (h8.sub (l' := [(w.heap.size, none, some 86)]) (li' := []) ⟨(.inl ⟨by omega, trivial, rfl⟩), trivial⟩ trivial)⟩

set_option maxHeartbeats 20000000 in
set_option maxRecDepth 100000 in
theorem table_Own.calls (p0 : Table) (A1 : Option Addr) (c_1 : Nat) (r : Table) (w : World) (hs1 : Sl kEntry w.heap okAll A1 p0.List_) (hl1 : p0.List_.length ≤ c_1) (H : table_Own.f p0 = some r) :
    Calls Tryd.prog 97 #[.agg #[.int .i64 p0.Dev, .int .i64 p0.Size, .slice A1 p0.List_.length c_1]] w fun e w' => ∃ (B1 : Option Addr) (d1 : Nat), e = .returned (.agg #[.int .i64 r.Dev, .int .i64 r.Size, .slice B1 r.List_.length d1]) ∧ Ext w w' ∧ Ow kEntry 86 w'.heap (okL [(w.heap.size, none, some 86)]) (okL []) B1 d1 r.List_ := by
 have h1 : Sl kEntry w.heap (okL [(0, some w.heap.size, none)]) A1 p0.List_ := hs1.old _ rfl
 have x0 : Ext w w := Upd.refl _ w
 unfold table_Own.f at H
 refine calls_start Tryd.func97 rfl 8 rfl [.agg #[.int .i64 p0.Dev, .int .i64 p0.Size, .slice A1 p0.List_.length c_1]] rfl ?_
 refine CW.seq ?_
 refine CW.lex [.X, .X] rfl ?_
 refine RW.box (cs := [.int .i64 p0.Dev, .int .i64 p0.Size, .slice A1 p0.List_.length c_1]) (.inl rfl) ⟨rfl, rfl, rfl, rfl⟩ rfl rfl rfl ?_
 intro b1 w1 x1 l1 h2
 have sx1 := x1.size
 have ltb1 := h2.lt
 refine RW.alloc tabOk (.inl rfl) ⟨rfl, rfl, rfl, rfl⟩ rfl rfl ?_
 intro b2 w2 x2 l2 h3
 have sx2 := x2.size
 have ltb2 := h3.lt
 refine RW.done ?_
 refine NW.next ?_
 refine CW.seq ?_
 refine CW.lex [.W, .L, .X, .W, .M] rfl ?_
 refine RW.pure tabOk 1 rfl ?_
 have h4 := h2.ext x2
 refine RW.load tabOk [.slice A1 p0.List_.length c_1] (h4.at 2) ⟨rfl, rfl, rfl, rfl⟩ rfl rfl rfl rfl ?_
 have h5 := (h1.ext x1).ext x2
 obtain ⟨y1, h6, H⟩ := bind_some H
 refine RW.callF (.inl rfl) ent129 ⟨rfl, rfl, rfl, rfl⟩ rfl rfl (slices_Clone_Entry.calls A1 c_1 p0.List_ _ _ h5.all hl1 h6) ?_
 rintro _ w3 ⟨A2, c_2, rfl, x3, h7⟩
 refine ⟨_, rfl, x3, ?_⟩
 have sx3 := x3.size
 have h8 : Ow kEntry 86 w3.heap (okL [(w2.heap.size, some w3.heap.size, some 86)]) (okL []) A2 c_2 y1 := h7.close
 refine RW.pure tabOk 1 rfl ?_
 have h9 := h4.ext x3
 refine RW.storeBox tabOk h9 [.slice A2 y1.length c_2] ⟨rfl, rfl, rfl⟩ rfl rfl rfl rfl rfl rfl rfl rfl ?_
 intro w4 x4 h10
 have h11 : Box w4.heap b1 75 [.int .i64 p0.Dev, .int .i64 p0.Size, .slice A2 y1.length c_2] := h10
 have sx4 := x4.size
 refine RW.done ?_
 refine NW.next ?_
 refine CW.seq ?_
 refine CW.lex [.L, .M] rfl ?_
 refine RW.load tabOk [.int .i64 p0.Dev, .int .i64 p0.Size, .slice A2 y1.length c_2] (h11.at 0) ⟨rfl, rfl, rfl, rfl⟩ rfl rfl rfl rfl ?_
 have h12 := (h3.ext x3).turnB x4 (by omega)
 refine RW.storeBox tabOk h12 [.int .i64 p0.Dev, .int .i64 p0.Size, .slice A2 y1.length c_2] ⟨rfl, rfl, rfl⟩ rfl rfl rfl rfl rfl rfl rfl rfl ?_
 intro w5 x5 h13
 have h14 : Box w5.heap b2 75 [.int .i64 p0.Dev, .int .i64 p0.Size, .slice A2 y1.length c_2] := h13
 have sx5 := x5.size
 refine RW.done ?_
 refine NW.next ?_
 refine CW.ret ?_
 have h15 := (h8.turnB x4 h9 ⟨.inl (show (86 : Nat) ≠ 75 by decide), trivial⟩ trivial).turnB x5 h12 ⟨.inl (show (86 : Nat) ≠ 75 by decide), trivial⟩ trivial
 obtain rfl := Option.some.inj H
 have h16 := Ext.turnB (Ext.turnB (Ext.trans (Ext.trans (Ext.trans x0 x1) x2) x3) x4 (by omega)) x5 (by omega)
 exact NW.ret1 rfl (resOne_cell tabOk (h14.at 0) rfl rfl rfl) ⟨A2, c_2, rfl, h16, (h15.sub (l' := [(w.heap.size, none, some 86)]) (li' := []) ⟨(.inl ⟨by omega, trivial, rfl⟩), trivial⟩ trivial)⟩

set_option maxHeartbeats 20000000 in
set_option maxRecDepth 100000 in
theorem math_bits_TrailingZeros64.calls (p0 : Int) (r : Int) (w : World) {gT : Nat} (hG : Box w.heap 0 gT (arrI .u8 64 tz)) (H : math_bits_TrailingZeros64.f p0 = some r) :
    Calls Tryd.prog 100 #[.int .u64 p0] w fun e w' => e = .returned (.int .i64 r) ∧ Ext w w' := by
 have hG0 : 0 < w.heap.size := hG.lt
 have x0 : Ext w w := Upd.refl _ w
 unfold math_bits_TrailingZeros64.f at H
 refine calls_start Tryd.func100 rfl 14 rfl [.int .u64 p0] rfl ?_
 refine CW.seq ?_
 refine CW.lex [.W] rfl ?_
 refine RW.pure tabOk 1 rfl ?_
 refine RW.done ?_
 refine NW.next ?_
 refine CW.seq ?_
 refine CW.seq ?_
 refine CW.lex [.W, .W] rfl ?_
 refine RW.pure tabOk 2 rfl ?_
 refine RW.done ?_
 refine NW.next ?_
 by_cases c1 : p0 = 0
 ·
  rw [if_pos c1] at H
  refine CW.cond_t rfl (beq_t c1) ?_
  refine CW.seq ?_
  refine CW.lex [.W] rfl ?_
  refine RW.pure tabOk 1 rfl ?_
  refine RW.done ?_
  refine NW.next ?_
  refine CW.ret ?_
  refine NW.ret_then ?_
  obtain rfl := Option.some.inj H
  exact NW.ret1 rfl (by rfl) ⟨rfl, x0⟩
 ·
  rw [if_neg c1] at H
  refine CW.cond_f rfl (beq_f c1) ?_
  refine CW.skip ?_
  refine NW.next ?_
  refine CW.seq ?_
  refine CW.lex [.W, .W, .W, .W, .W, .W, .W, .L, .W, .W] rfl ?_
  refine RW.pure tabOk 2 rfl ?_
  refine RW.neg ⟨rfl, rfl, rfl, rfl⟩ rfl rfl ?_
  refine RW.pure tabOk 2 rfl ?_
  refine RW.shift (by omega) ⟨rfl, rfl, rfl, rfl⟩ rfl rfl rfl rfl ?_
  obtain ⟨g1, H⟩ := guard_some H
  refine RW.indexBox tabOk g1.1 g1.2 ⟨rfl, rfl, rfl, rfl⟩ rfl rfl rfl rfl rfl rfl rfl ?_
  refine RW.load tabOk [.int .u8 (tz ((wu64 ((uand p0 (wu64 (0 - p0))) * 285870213051353865)).fdiv (2 ^ min (58 : Int).toNat 64)).toNat)] (hG.elF (by have := g1; omega)) ⟨rfl, rfl, rfl, rfl⟩ rfl rfl rfl rfl ?_
  refine RW.pure tabOk 2 rfl ?_
  refine RW.done ?_
  refine NW.next ?_
  refine CW.ret ?_
  obtain rfl := Option.some.inj H
  exact NW.ret1 rfl (by rfl) ⟨rfl, x0⟩

set_option maxHeartbeats 20000000 in
set_option maxRecDepth 100000 in
theorem seg_Set_Least.calls (p0 : Int) (r : Int) (w : World) {gT : Nat} (hG : Box w.heap 0 gT (arrI .u8 64 tz)) (H : seg_Set_Least.f p0 = some r) :
    Calls Tryd.prog 80 #[.int .u64 p0] w fun e w' => e = .returned (.int .i64 r) ∧ Ext w w' := by
 have hG0 : 0 < w.heap.size := hG.lt
 have x0 : Ext w w := Upd.refl _ w
 unfold seg_Set_Least.f at H
 refine calls_start Tryd.func80 rfl 5 rfl [.int .u64 p0] rfl ?_
 refine CW.seq ?_
 refine CW.lex [.W] rfl ?_
 refine RW.pure tabOk 1 rfl ?_
 refine RW.done ?_
 refine NW.next ?_
 refine CW.seq ?_
 refine CW.lex [.W, .X, .W] rfl ?_
 refine RW.pure tabOk 1 rfl ?_
 obtain ⟨y1, h1, H⟩ := bind_some H
 refine RW.callF (.inl rfl) ent100 ⟨rfl, rfl, rfl, rfl⟩ rfl rfl (math_bits_TrailingZeros64.calls p0 _ _ hG h1) ?_
 rintro _ w1 ⟨rfl, x1⟩
 refine ⟨_, rfl, x1, ?_⟩
 have sx1 := x1.size
 refine RW.pure tabOk 1 rfl ?_
 refine RW.done ?_
 refine NW.next ?_
 refine CW.ret ?_
 obtain rfl := Option.some.inj H
 have h2 := Ext.trans x0 x1
 exact NW.ret1 rfl (by rfl) ⟨rfl, h2⟩

set_option maxHeartbeats 20000000 in
set_option maxRecDepth 100000 in
theorem seg_Set_Sectors.calls (k : Nat) (p0 : Int) (r : (List Int)) (w : World) {gT : Nat} (hG : Box w.heap 0 gT (arrI .u8 64 tz)) (H : seg_Set_Sectors.f k p0 = some r) :
    Calls Tryd.prog 60 #[.int .u64 p0] w fun e w' => ∃ (B1 : Option Addr) (d1 : Nat), e = .returned (.slice B1 r.length d1) ∧ Ext w w' ∧ Ow (Kd.int .i64) 3 w'.heap (okL [(w.heap.size, none, some 3)]) (okL []) B1 d1 r := by
 have hG0 : 0 < w.heap.size := hG.lt
 have x0 : Ext w w := Upd.refl _ w
 unfold seg_Set_Sectors.f at H
 refine calls_start Tryd.func60 rfl 15 rfl [.int .u64 p0] rfl ?_
 refine CW.seq ?_
 refine CW.lex [.W] rfl ?_
 refine RW.pure tabOk 1 rfl ?_
 refine RW.done ?_
 refine NW.next ?_
 refine CW.seq ?_
 refine CW.block ?_
 refine CW.loop (fun n1 a w1 => ∃ (it0_0 : Int) (lt2_0 : List Int) (At2_0 : Option Addr) (ct2_0 : Nat), Sat 15 [(0, .int .u64 it0_0), (2, .slice At2_0 lt2_0.length ct2_0)] a ∧ w.heap.size ≤ w1.heap.size ∧ Ow (Kd.int .i64) 3 w1.heap (okL [(w.heap.size, none, some 3)]) (okL []) At2_0 ct2_0 lt2_0 ∧ Ext w w1 ∧ Box w1.heap 0 gT (arrI .u8 64 tz) ∧ seg_Set_Sectors.l0 n1 it0_0 lt2_0 = some r) k ?_ ?_
 · exact fun a ha => ⟨p0, ([] : List Int), none, 0, ha.sub ⟨rfl, rfl, trivial⟩, by omega, Ow.nil, x0, hG, H⟩
 intro n1 a w1 hI hp
 obtain ⟨it0_0, lt2_0, At2_0, ct2_0, hS, hle, ft2_0, x0_0, g0_0, H⟩ := hI
 cases n1 with
 | zero => cases H
 | succ n1 =>
  rw [seg_Set_Sectors.l0] at H
  refine CW.go hp hS ?_
  have h1 : Ow (Kd.int .i64) 3 w1.heap (okL [(w.heap.size, some w1.heap.size, some 3)]) (okL []) At2_0 ct2_0 lt2_0 := ft2_0.close
  refine CW.seq ?_
  refine CW.seq ?_
  refine CW.lex [.W, .W] rfl ?_
  refine RW.pure tabOk 2 rfl ?_
  refine RW.done ?_
  refine NW.next ?_
  by_cases c1 : it0_0 = 0
  ·
   rw [if_pos c1] at H
   refine CW.cond_f rfl (bne_f c1) ?_
   refine CW.exit ?_
   refine NW.exit_then (NW.exit_then (NW.exit_hit ?_))
   refine NW.next ?_
   refine CW.seq ?_
   refine CW.lex [.W, .W] rfl ?_
   refine RW.pure tabOk 2 rfl ?_
   refine RW.done ?_
   refine NW.next ?_
   refine CW.ret ?_
   obtain rfl := Option.some.inj H
   exact NW.ret1 rfl (by rfl) ⟨At2_0, ct2_0, rfl, x0_0, (h1.sub (l' := [(w.heap.size, none, some 3)]) (li' := []) ⟨(.inl ⟨by omega, trivial, rfl⟩), trivial⟩ trivial)⟩
  ·
   rw [if_neg c1] at H
   refine CW.cond_t rfl (bne_t c1) ?_
   refine CW.skip ?_
   refine NW.next ?_
   refine CW.seq ?_
   refine CW.block ?_
   refine CW.lex [.W, .W, .X, .X, .M, .W] rfl ?_
   refine RW.pure tabOk 2 rfl ?_
   obtain ⟨y1, h2, H⟩ := bind_some H
   refine RW.callF (.inl rfl) ent80 ⟨rfl, rfl, rfl, rfl⟩ rfl rfl (seg_Set_Least.calls it0_0 _ _ g0_0 h2) ?_
   rintro _ w2 ⟨rfl, x1⟩
   refine ⟨_, rfl, x1, ?_⟩
   have sx1 := x1.size
   refine RW.buildSlice (cs := [.int .i64 y1]) tabOk (.inl rfl) ⟨rfl, rfl, rfl, rfl⟩ rfl rfl rfl rfl rfl rfl rfl ?_
   intro b1 w3 x2 l1 h3
   have sx2 := x2.size
   have ltb1 := h3.lt
   have h4 := (h1.ext x1).ext x2
   obtain ⟨g1, H⟩ := guard_some H
   refine RW.append1L (d := (Kd.int .i64)) (v := y1) (l := [(w.heap.size, some w1.heap.size, some 3)]) (li := []) (ly := []) (xs := lt2_0) tabOk h4 h3 rfl trivial (by simp only [maxLen]; omega) g1 ⟨rfl, rfl, rfl, rfl⟩ rfl rfl rfl rfl rfl rfl rfl ?_
   intro A1 c_1 w4 x3 h5
   have sx3 := x3.size
   have h6 := h5.close.sub (l' := [(w.heap.size, some w4.heap.size, some 3)]) (li' := []) ⟨(.inl ⟨by omega, by omega, rfl⟩), ⟨(.inl ⟨by omega, by omega, rfl⟩), trivial⟩⟩ trivial
   refine RW.pure tabOk 1 rfl ?_
   refine RW.done ?_
   refine NW.norm_block (NW.next ?_)
   refine CW.lex [.W, .W, .W, .W, .W] rfl ?_
   refine RW.pure tabOk 5 rfl ?_
   refine RW.done ?_
   have h7 := Ext.turn (Ext.trans (Ext.trans x0_0 x1) x2) x3 ⟨by omega, trivial⟩
   have h8 := ((g0_0.ext x1).ext x2).turnL x3 (.inr ⟨⟨.inr (.inl (by omega)), trivial⟩, trivial⟩)
   exact NW.J fun a ha => ⟨n1, Nat.lt_succ_self n1, (uand it0_0 (wu64 (it0_0 - 1))), (lt2_0 ++ [y1]), A1, c_1, ha.sub ⟨rfl, rfl, trivial⟩, by omega, (h6.sub ⟨(.inl ⟨by omega, trivial, rfl⟩), trivial⟩ trivial), h7, h8, H⟩

set_option maxHeartbeats 20000000 in
set_option maxRecDepth 100000 in
theorem seg_Set_Segs.calls (k : Nat) (p0 : Int) (r : (List Seg)) (w : World) {gT : Nat} (hG : Box w.heap 0 gT (arrI .u8 64 tz)) (H : seg_Set_Segs.f k p0 = some r) :
    Calls Tryd.prog 53 #[.int .u64 p0] w fun e w' => ∃ (B1 : Option Addr) (d1 : Nat), e = .returned (.slice B1 r.length d1) ∧ Ext w w' ∧ Ow kSeg 93 w'.heap (okL [(w.heap.size, none, some 93)]) (okL []) B1 d1 r := by
 have hG0 : 0 < w.heap.size := hG.lt
 have x0 : Ext w w := Upd.refl _ w
 unfold seg_Set_Segs.f at H
 refine calls_start Tryd.func53 rfl 50 rfl [.int .u64 p0] rfl ?_
 refine CW.seq ?_
 refine CW.lex [.W] rfl ?_
 refine RW.pure tabOk 1 rfl ?_
 refine RW.done ?_
 refine NW.next ?_
 refine CW.seq ?_
 refine CW.seq ?_
 refine CW.lex [.W, .X, .W, .W] rfl ?_
 refine RW.pure tabOk 1 rfl ?_
 obtain ⟨y1, h1, H⟩ := bind_some H
 refine RW.callF (.inl rfl) ent60 ⟨rfl, rfl, rfl, rfl⟩ rfl rfl (seg_Set_Sectors.calls k p0 _ _ hG h1) ?_
 rintro _ w1 ⟨A1, c_1, rfl, x1, h2⟩
 refine ⟨_, rfl, x1, ?_⟩
 have sx1 := x1.size
 have h3 : Ow (Kd.int .i64) 3 w1.heap (okL [(w.heap.size, some w1.heap.size, some 3)]) (okL []) A1 c_1 y1 := h2.close
 refine RW.pure tabOk 2 rfl ?_
 refine RW.done ?_
 refine NW.next ?_
 refine CW.block ?_
 refine CW.loop (fun n1 a w2 => ∃ (lt2_0 : List Seg) (At2_0 : Option Addr) (ct2_0 : Nat) (it9_0 : Int), Sat 50 [(2, .slice At2_0 lt2_0.length ct2_0), (7, .slice A1 y1.length c_1), (8, .int .i64 (y1.length : Int)), (9, .int .i64 it9_0)] a ∧ w1.heap.size ≤ w2.heap.size ∧ Ow kSeg 93 w2.heap (okL [(w1.heap.size, none, some 93)]) (okL []) At2_0 ct2_0 lt2_0 ∧ Ow (Kd.int .i64) 3 w2.heap (okL [(w.heap.size, some w1.heap.size, some 3)]) (okL []) A1 c_1 y1 ∧ Ext w w2 ∧ Box w2.heap 0 gT (arrI .u8 64 tz) ∧ seg_Set_Segs.l0 y1 n1 lt2_0 it9_0 = some r) k ?_ ?_
 have h4 := Ext.trans x0 x1
 have h5 := hG.ext x1
 · exact fun a ha => ⟨([] : List Seg), none, 0, 0, ha.sub ⟨rfl, rfl, rfl, rfl, trivial⟩, by omega, Ow.nil, h3, h4, h5, H⟩
 intro n1 a w2 hI hp
 obtain ⟨lt2_0, At2_0, ct2_0, it9_0, hS, hle, ft2_0, gF1_0, x0_0, g0_0, H⟩ := hI
 cases n1 with
 | zero => cases H
 | succ n1 =>
  rw [seg_Set_Segs.l0] at H
  refine CW.go hp hS ?_
  have h6 : Ow kSeg 93 w2.heap (okL [(w1.heap.size, some w2.heap.size, some 93)]) (okL []) At2_0 ct2_0 lt2_0 := ft2_0.close
  refine CW.seq ?_
  refine CW.lex [.W] rfl ?_
  refine RW.pure tabOk 1 rfl ?_
  refine RW.done ?_
  refine NW.next ?_
  refine CW.seq ?_
  by_cases c1 : it9_0 < (y1.length : Int)
  ·
   rw [if_pos c1] at H
   refine CW.cond_t rfl (decide_eq_true c1) ?_
   refine CW.skip ?_
   refine NW.next ?_
   refine CW.seqJ (fun a w3 => ∃ (lt2_1 : List Seg) (At2_1 : Option Addr) (ct2_1 : Nat), Sat 50 [(2, .slice At2_1 lt2_1.length ct2_1), (7, .slice A1 y1.length c_1), (8, .int .i64 (y1.length : Int)), (9, .int .i64 it9_0)] a ∧ w2.heap.size ≤ w3.heap.size ∧ Ow kSeg 93 w3.heap (okL [(w1.heap.size, none, some 93)]) (okL []) At2_1 ct2_1 lt2_1 ∧ Ow (Kd.int .i64) 3 w3.heap (okL [(w.heap.size, some w1.heap.size, some 3)]) (okL []) A1 c_1 y1 ∧ Ext w w3 ∧ Box w3.heap 0 gT (arrI .u8 64 tz) ∧ seg_Set_Segs.j0 it9_0 (seg_Set_Segs.l0 y1 n1) lt2_1 = some r) ?_ ?_
   ·
    refine CW.block ?_
    refine CW.seq ?_
    refine CW.lex [.W, .L, .W] rfl ?_
    obtain ⟨g1, H⟩ := guard_some H
    obtain ⟨ad1, e1, a1⟩ := at_i64 gF1_0.slL g1.1 g1.2
    refine RW.index tabOk g1.1 g1.2 e1 ⟨rfl, rfl, rfl, rfl⟩ rfl rfl rfl rfl rfl rfl ?_
    refine RW.load tabOk [.int .i64 (rd y1 it9_0)] a1 ⟨rfl, rfl, rfl, rfl⟩ rfl rfl rfl rfl ?_
    refine RW.pure tabOk 1 rfl ?_
    refine RW.done ?_
    refine NW.next ?_
    refine CW.seq ?_
    refine CW.seq ?_
    refine CW.lex [.W, .W, .W] rfl ?_
    refine RW.pure tabOk 3 rfl ?_
    refine RW.done ?_
    refine NW.next ?_
    refine CW.seqJ (fun a w4 => ∃ (bt33_2 : Bool), Sat 50 [(2, .slice At2_0 lt2_0.length ct2_0), (4, .int .i64 (rd y1 it9_0)), (5, .int .i64 (lt2_0.length : Int)), (7, .slice A1 y1.length c_1), (8, .int .i64 (y1.length : Int)), (9, .int .i64 it9_0), (33, .bool bt33_2)] a ∧ w2.heap.size ≤ w4.heap.size ∧ Ow kSeg 93 w4.heap (okL [(w1.heap.size, some w2.heap.size, some 93)]) (okL []) At2_0 ct2_0 lt2_0 ∧ Ow (Kd.int .i64) 3 w4.heap (okL [(w.heap.size, some w1.heap.size, some 3)]) (okL []) A1 c_1 y1 ∧ Ext w w4 ∧ Box w4.heap 0 gT (arrI .u8 64 tz) ∧ seg_Set_Segs.j1 y1 lt2_0 it9_0 (seg_Set_Segs.l0 y1 n1) bt33_2 = some r) ?_ ?_
    ·
     refine CW.ord [0, 1, 3, 7, 7, 23, 63, 127, 255, 7, 7, 1031, 3591, 7687, 15879, 32767, 7, 131071, 262143] (ofL [(0, .W), (1, .W), (2, .W), (3, .W), (4, .W), (5, .W), (6, .W), (7, .W), (9, .W), (10, .W), (11, .W), (12, .W), (13, .W), (16, .W), (8, .L), (14, .L), (15, .W), (17, .W), (18, .W)] .nil) mixed (by kernel_rfl) ?_
     intro w5 x2
     have sx2 := x2.size
     refine RW.pure tabOk 3 rfl ?_
     by_cases c2 : 0 < (lt2_0.length : Int)
     ·
      rw [if_pos c2] at H
      refine RW.bool 17 (b' := true) (decide_eq_true c2) rfl ?_
      refine RW.pure tabOk 3 rfl ?_
      obtain ⟨g2, H⟩ := guard_some H
      have h7 := h6.ext x2
      obtain ⟨ad2, e2, a2⟩ := kSeg_at h7.slL g2.1 g2.2
      refine RW.index tabOk g2.1 g2.2 e2 ⟨rfl, rfl, rfl, rfl⟩ rfl rfl rfl rfl rfl rfl ?_
      refine RW.pure tabOk 4 rfl ?_
      obtain ⟨g3, H⟩ := guard_some H
      obtain ⟨ad3, e3, a3⟩ := kSeg_at h7.slL g3.1 g3.2
      refine RW.index tabOk g3.1 g3.2 e3 ⟨rfl, rfl, rfl, rfl⟩ rfl rfl rfl rfl rfl rfl ?_
      refine RW.pure tabOk 2 rfl ?_
      refine RW.load tabOk [.int .i64 ((rd lt2_0 (w64 ((lt2_0.length : Int) - 1))).At)] ((a2.fld 0).take 1 rfl) ⟨rfl, rfl, rfl, rfl⟩ rfl rfl rfl rfl ?_
      refine RW.load tabOk [.int .i64 ((rd lt2_0 (w64 ((lt2_0.length : Int) - 1))).Len)] (a3.fld 1) ⟨rfl, rfl, rfl, rfl⟩ rfl rfl rfl rfl ?_
      refine RW.pure tabOk 3 rfl ?_
      refine RW.done ?_
      have h8 := gF1_0.ext x2
      have h9 := Ext.trans x0_0 x2
      have h10 := g0_0.ext x2
      exact NW.J fun a ha => ⟨((w64 (((rd lt2_0 (w64 ((lt2_0.length : Int) - 1))).At) + ((rd lt2_0 (w64 ((lt2_0.length : Int) - 1))).Len))) == (rd y1 it9_0)), ha.sub ⟨rfl, rfl, rfl, rfl, rfl, rfl, rfl, trivial⟩, by omega, h7, h8, h9, h10, H⟩
     ·
      rw [if_neg c2] at H
      refine RW.bool 17 (b' := false) (decide_eq_false c2) rfl ?_
      refine RW.pure tabOk 16 rfl ?_
      refine RW.done ?_
      have h11 := h6.ext x2
      have h12 := gF1_0.ext x2
      have h13 := Ext.trans x0_0 x2
      have h14 := g0_0.ext x2
      exact NW.J fun a ha => ⟨false, ha.sub ⟨rfl, rfl, rfl, rfl, rfl, rfl, rfl, trivial⟩, by omega, h11, h12, h13, h14, H⟩
    intro a w4 hJ hp
    obtain ⟨bt33_2, hS, hle, gL0_t2_2, gF1_2, x0_2, g0_2, H⟩ := hJ
    unfold seg_Set_Segs.j1 at H
    refine CW.go hp hS ?_
    by_cases c3 : bt33_2 = true
    ·
     rw [if_pos c3] at H
     refine CW.cond_t rfl (c3) ?_
     refine CW.seq ?_
     refine CW.lex [.W, .W, .W, .W, .W, .L, .W, .W, .W, .M] rfl ?_
     refine RW.pure tabOk 3 rfl ?_
     obtain ⟨g4, H⟩ := guard_some H
     obtain ⟨ad4, e4, a4⟩ := kSeg_at gL0_t2_2.slL g4.1 g4.2
     refine RW.index tabOk g4.1 g4.2 e4 ⟨rfl, rfl, rfl, rfl⟩ rfl rfl rfl rfl rfl rfl ?_
     refine RW.pure tabOk 1 rfl ?_
     refine RW.load tabOk [.int .i64 ((rd lt2_0 (w64 ((lt2_0.length : Int) - 1))).Len)] (a4.fld 1) ⟨rfl, rfl, rfl, rfl⟩ rfl rfl rfl rfl ?_
     refine RW.pure tabOk 1 rfl ?_
     obtain ⟨g5, H⟩ := guard_some H
     obtain ⟨ad5, e5, a5⟩ := kSeg_at gL0_t2_2.slL g5.1 g5.2
     refine RW.index tabOk g5.1 g5.2 e5 ⟨rfl, rfl, rfl, rfl⟩ rfl rfl rfl rfl rfl rfl ?_
     refine RW.pure tabOk 1 rfl ?_
     refine RW.storeElL (y := (⟨(rd lt2_0 (w64 ((lt2_0.length : Int) - 1))).At, w64 (((rd lt2_0 (w64 ((lt2_0.length : Int) - 1))).Len) + 1)⟩ : Seg)) (lv := []) (k := 1) tabOk gL0_t2_2 (j := (w64 ((lt2_0.length : Int) - 1)).toNat) (by have := g5; omega) default [.int .i64 (w64 (((rd lt2_0 (w64 ((lt2_0.length : Int) - 1))).Len) + 1))] (fun cs ok' hr => by obtain rfl := kSeg_open hr; exact ⟨by simp, kSeg_mk (⟨(rd lt2_0 (w64 ((lt2_0.length : Int) - 1))).At, w64 (((rd lt2_0 (w64 ((lt2_0.length : Int) - 1))).Len) + 1)⟩ : Seg)⟩) trivial ⟨rfl, rfl, rfl⟩ rfl rfl e5 rfl rfl rfl rfl rfl ?_
     intro w6 x3 h15
     have sx3 := x3.size
     have h16 := h15.sub (l' := [(w1.heap.size, some w2.heap.size, some 93)]) (li' := []) ⟨(.inl ⟨by omega, by omega, rfl⟩), trivial⟩ trivial
     refine RW.tell 2 (v' := .slice At2_0 (lt2_0.set (w64 ((lt2_0.length : Int) - 1)).toNat (⟨(rd lt2_0 (w64 ((lt2_0.length : Int) - 1))).At, w64 (((rd lt2_0 (w64 ((lt2_0.length : Int) - 1))).Len) + 1)⟩ : Seg)).length ct2_0) (by simp only [List.length_set]) rfl ?_
     refine RW.done ?_
     refine NW.next ?_
     refine CW.exit ?_
     refine NW.exit_then (NW.exit_hit ?_)
     have h17 := gF1_2.turnL x3 ⟨⟨.inl (show (3 : Nat) ≠ 93 by decide), trivial⟩, trivial⟩ trivial
     have h18 := Ext.turn x0_2 x3 ⟨by omega, trivial⟩
     have h19 := g0_2.turnL x3 (.inr ⟨⟨.inr (.inl (by omega)), trivial⟩, trivial⟩)
     exact NW.J fun a ha => ⟨(lt2_0.set (w64 ((lt2_0.length : Int) - 1)).toNat (⟨(rd lt2_0 (w64 ((lt2_0.length : Int) - 1))).At, w64 (((rd lt2_0 (w64 ((lt2_0.length : Int) - 1))).Len) + 1)⟩ : Seg)), At2_0, ct2_0, ha.sub ⟨rfl, rfl, rfl, rfl, trivial⟩, by omega, (h16.sub ⟨(.inl ⟨by omega, trivial, rfl⟩), trivial⟩ trivial), h17, h18, h19, H⟩
    ·
     rw [if_neg c3] at H
     refine CW.cond_f rfl (bool_f c3) ?_
     refine CW.skip ?_
     refine NW.next ?_
     refine CW.lex [.W, .W, .W, .X, .M, .W] rfl ?_
     refine RW.pure tabOk 3 rfl ?_
     refine RW.buildSlice (cs := [.int .i64 (rd y1 it9_0), .int .i64 1]) tabOk (.inl rfl) ⟨rfl, rfl, rfl, rfl⟩ rfl rfl rfl rfl rfl rfl rfl ?_
     intro b1 w7 x4 l1 h20
     have sx4 := x4.size
     have ltb1 := h20.lt
     have h21 := gL0_t2_2.ext x4
     obtain ⟨g6, H⟩ := guard_some H
     refine RW.append1L (d := kSeg) (v := (⟨rd y1 it9_0, 1⟩ : Seg)) (l := [(w1.heap.size, some w2.heap.size, some 93)]) (li := []) (ly := []) (xs := lt2_0) tabOk h21 h20 (kSeg_mk (⟨rd y1 it9_0, 1⟩ : Seg)) trivial (by simp only [maxLen]; omega) g6 ⟨rfl, rfl, rfl, rfl⟩ rfl rfl rfl rfl rfl rfl rfl ?_
     intro A2 c_2 w8 x5 h22
     have sx5 := x5.size
     have h23 := h22.close.sub (l' := [(w1.heap.size, some w8.heap.size, some 93)]) (li' := []) ⟨(.inl ⟨by omega, by omega, rfl⟩), ⟨(.inl ⟨by omega, by omega, rfl⟩), trivial⟩⟩ trivial
     refine RW.pure tabOk 1 rfl ?_
     refine RW.done ?_
     refine NW.norm_block ?_
     have h24 := (gF1_2.ext x4).turnL x5 ⟨⟨.inl (show (3 : Nat) ≠ 93 by decide), trivial⟩, trivial⟩ trivial
     have h25 := Ext.turn (Ext.trans x0_2 x4) x5 ⟨by omega, trivial⟩
     have h26 := (g0_2.ext x4).turnL x5 (.inr ⟨⟨.inr (.inl (by omega)), trivial⟩, trivial⟩)
     exact NW.J fun a ha => ⟨(lt2_0 ++ [(⟨rd y1 it9_0, 1⟩ : Seg)]), A2, c_2, ha.sub ⟨rfl, rfl, rfl, rfl, trivial⟩, by omega, (h23.sub ⟨(.inl ⟨by omega, trivial, rfl⟩), trivial⟩ trivial), h24, h25, h26, H⟩
   intro a w3 hJ hp
   obtain ⟨lt2_1, At2_1, ct2_1, hS, hle, ft2_1, gF1_1, x0_1, g0_1, H⟩ := hJ
   unfold seg_Set_Segs.j0 at H
   refine CW.go hp hS ?_
   have h27 : Ow kSeg 93 w3.heap (okL [(w1.heap.size, some w3.heap.size, some 93)]) (okL []) At2_1 ct2_1 lt2_1 := ft2_1.close
   refine CW.lex [.W, .W] rfl ?_
   refine RW.pure tabOk 2 rfl ?_
   refine RW.done ?_
   exact NW.J fun a ha => ⟨n1, Nat.lt_succ_self n1, lt2_1, At2_1, ct2_1, (w64 (it9_0 + 1)), ha.sub ⟨rfl, rfl, rfl, rfl, trivial⟩, by omega, (h27.sub ⟨(.inl ⟨by omega, trivial, rfl⟩), trivial⟩ trivial), gF1_1, x0_1, g0_1, H⟩
  ·
   rw [if_neg c1] at H
   refine CW.cond_f rfl (decide_eq_false c1) ?_
   refine CW.exit ?_
   refine NW.exit_then (NW.exit_then (NW.exit_hit ?_))
   refine NW.next ?_
   refine CW.seq ?_
   refine CW.lex [.W, .W] rfl ?_
   refine RW.pure tabOk 2 rfl ?_
   refine RW.done ?_
   refine NW.next ?_
   refine CW.ret ?_
   obtain rfl := Option.some.inj H
   exact NW.ret1 rfl (by rfl) ⟨At2_0, ct2_0, rfl, x0_0, (h6.sub (l' := [(w.heap.size, none, some 93)]) (li' := []) ⟨(.inl ⟨by omega, trivial, rfl⟩), trivial⟩ trivial)⟩

set_option maxHeartbeats 20000000 in
set_option maxRecDepth 100000 in
theorem seg_One.calls (p0 : Int) (r : Int) (w : World) (H : seg_One.f p0 = some r) :
    Calls Tryd.prog 63 #[.int .i64 p0] w fun e w' => e = .returned (.int .u64 r) ∧ Ext w w' := by
 have x0 : Ext w w := Upd.refl _ w
 unfold seg_One.f at H
 refine calls_start Tryd.func63 rfl 5 rfl [.int .i64 p0] rfl ?_
 refine CW.seq ?_
 refine CW.lex [.W] rfl ?_
 refine RW.pure tabOk 1 rfl ?_
 refine RW.done ?_
 refine NW.next ?_
 refine CW.seq ?_
 refine CW.lex [.W, .W, .W] rfl ?_
 refine RW.pure tabOk 1 rfl ?_
 obtain ⟨g1, H⟩ := guard_some H
 refine RW.shift g1 ⟨rfl, rfl, rfl, rfl⟩ rfl rfl rfl rfl ?_
 refine RW.pure tabOk 1 rfl ?_
 refine RW.done ?_
 refine NW.next ?_
 refine CW.ret ?_
 obtain rfl := Option.some.inj H
 exact NW.ret1 rfl (by rfl) ⟨rfl, x0⟩

set_option maxHeartbeats 20000000 in
set_option maxRecDepth 100000 in
theorem seg_Set_Has.calls (p0 : Int) (p1 : Int) (r : Bool) (w : World) (H : seg_Set_Has.f p0 p1 = some r) :
    Calls Tryd.prog 64 #[.int .u64 p0, .int .i64 p1] w fun e w' => e = .returned (.bool r) ∧ Ext w w' := by
 have x0 : Ext w w := Upd.refl _ w
 unfold seg_Set_Has.f at H
 refine calls_start Tryd.func64 rfl 18 rfl [.int .u64 p0, .int .i64 p1] rfl ?_
 refine CW.seq ?_
 refine CW.lex [.W] rfl ?_
 refine RW.pure tabOk 1 rfl ?_
 refine RW.done ?_
 refine NW.next ?_
 refine CW.seq ?_
 refine CW.lex [.W, .W, .W, .W, .W, .W, .W, .W, .W, .X, .W, .W, .W, .W] rfl ?_
 refine RW.pure tabOk 3 rfl ?_
 by_cases c1 : 0 ≤ p1
 ·
  rw [if_pos c1] at H
  refine RW.bool 7 (b' := true) (decide_eq_true c1) rfl ?_
  refine RW.pure tabOk 4 rfl ?_
  by_cases c2 : p1 < 64
  ·
   rw [if_pos c2] at H
   refine RW.bool 11 (b' := true) (decide_eq_true c2) rfl ?_
   refine RW.pure tabOk 2 rfl ?_
   obtain ⟨y1, h1, H⟩ := bind_some H
   refine RW.callF (.inl rfl) ent63 ⟨rfl, rfl, rfl, rfl⟩ rfl rfl (seg_One.calls p1 _ _ h1) ?_
   rintro _ w1 ⟨rfl, x1⟩
   refine ⟨_, rfl, x1, ?_⟩
   have sx1 := x1.size
   refine RW.pure tabOk 4 rfl ?_
   refine RW.done ?_
   refine NW.next ?_
   refine CW.ret ?_
   obtain rfl := Option.some.inj H
   have h2 := Ext.trans x0 x1
   exact NW.ret1 rfl (by rfl) ⟨rfl, h2⟩
  ·
   rw [if_neg c2] at H
   refine RW.bool 11 (b' := false) (decide_eq_false c2) rfl ?_
   refine RW.pure tabOk 7 rfl ?_
   refine RW.done ?_
   refine NW.next ?_
   refine CW.ret ?_
   obtain rfl := Option.some.inj H
   exact NW.ret1 rfl (by rfl) ⟨rfl, x0⟩
 ·
  rw [if_neg c1] at H
  refine RW.bool 7 (b' := false) (decide_eq_false c1) rfl ?_
  refine RW.pure tabOk 11 rfl ?_
  refine RW.done ?_
  refine NW.next ?_
  refine CW.ret ?_
  obtain rfl := Option.some.inj H
  exact NW.ret1 rfl (by rfl) ⟨rfl, x0⟩

set_option maxHeartbeats 20000000 in
set_option maxRecDepth 100000 in
theorem room_Busy.calls (k : Nat) (p0 : Device) (A1 : Option Addr) (c_1 : Nat) (A2 : Option Addr) (c_2 : Nat) (r : Int) (w : World) (hs1 : Sl kSeg w.heap okAll A1 p0.Free) (hl1 : p0.Free.length ≤ c_1) (hs2 : Sl kSeg w.heap okAll A2 p0.Late) (hl2 : p0.Late.length ≤ c_2) (H : room_Busy.f k p0 = some r) :
    Calls Tryd.prog 87 #[.agg #[.int .i64 p0.ID, .int .i64 p0.Size, .slice A1 p0.Free.length c_1, .slice A2 p0.Late.length c_2]] w fun e w' => e = .returned (.int .u64 r) ∧ Ext w w' := by
 have h1 : Sl kSeg w.heap (okL [(0, some w.heap.size, none)]) A1 p0.Free := hs1.old _ rfl
 have h2 : Sl kSeg w.heap (okL [(0, some w.heap.size, none)]) A2 p0.Late := hs2.old _ rfl
 have x0 : Ext w w := Upd.refl _ w
 unfold room_Busy.f at H
 refine calls_start Tryd.func87 rfl 14 rfl [.agg #[.int .i64 p0.ID, .int .i64 p0.Size, .slice A1 p0.Free.length c_1, .slice A2 p0.Late.length c_2]] rfl ?_
 refine CW.seq ?_
 refine CW.lex [.X, .W] rfl ?_
 refine RW.box (cs := [.int .i64 p0.ID, .int .i64 p0.Size, .slice A1 p0.Free.length c_1, .slice A2 p0.Late.length c_2]) (.inl rfl) ⟨rfl, rfl, rfl, rfl⟩ rfl rfl rfl ?_
 intro b1 w1 x1 l1 h3
 have sx1 := x1.size
 have ltb1 := h3.lt
 refine RW.pure tabOk 1 rfl ?_
 refine RW.done ?_
 refine NW.next ?_
 refine CW.seq ?_
 refine CW.ord [0, 1, 3, 0, 8, 31, 0, 64, 255, 511, 1023, 2047] (ofL [(0, .W), (3, .W), (6, .W), (1, .L), (4, .L), (7, .L), (2, .X), (5, .X), (8, .X), (9, .W), (10, .W), (11, .W)] .nil) mixed (by kernel_rfl) ?_
 intro w2 x2
 have sx2 := x2.size
 refine RW.pure tabOk 3 rfl ?_
 have h4 := h3.ext x2
 refine RW.load tabOk [.int .i64 p0.Size] ((h4.at 1).take 1 rfl) ⟨rfl, rfl, rfl, rfl⟩ rfl rfl rfl rfl ?_
 refine RW.load tabOk [.slice A1 p0.Free.length c_1] ((h4.at 2).take 1 rfl) ⟨rfl, rfl, rfl, rfl⟩ rfl rfl rfl rfl ?_
 refine RW.load tabOk [.slice A2 p0.Late.length c_2] (h4.at 3) ⟨rfl, rfl, rfl, rfl⟩ rfl rfl rfl rfl ?_
 obtain ⟨y1, h5, H⟩ := bind_some H
 refine RW.callF (.inl rfl) ent58 ⟨rfl, rfl, rfl, rfl⟩ rfl rfl (seg_To.calls p0.Size _ _ h5) ?_
 rintro _ w3 ⟨rfl, x3⟩
 refine ⟨_, rfl, x3, ?_⟩
 have sx3 := x3.size
 have h6 := ((h1.ext x1).ext x2).ext x3
 obtain ⟨y2, h7, H⟩ := bind_some H
 refine RW.callF (.inl rfl) ent52 ⟨rfl, rfl, rfl, rfl⟩ rfl rfl (seg_Make.calls k A1 c_1 p0.Free _ _ h6.all hl1 h7) ?_
 rintro _ w4 ⟨rfl, x4⟩
 refine ⟨_, rfl, x4, ?_⟩
 have sx4 := x4.size
 have h8 := (((h2.ext x1).ext x2).ext x3).ext x4
 obtain ⟨y3, h9, H⟩ := bind_some H
 refine RW.callF (.inl rfl) ent52 ⟨rfl, rfl, rfl, rfl⟩ rfl rfl (seg_Make.calls k A2 c_2 p0.Late _ _ h8.all hl2 h9) ?_
 rintro _ w5 ⟨rfl, x5⟩
 refine ⟨_, rfl, x5, ?_⟩
 have sx5 := x5.size
 refine RW.pure tabOk 3 rfl ?_
 refine RW.done ?_
 refine NW.next ?_
 refine CW.ret ?_
 obtain rfl := Option.some.inj H
 have h10 := Ext.trans (Ext.trans (Ext.trans (Ext.trans (Ext.trans x0 x1) x2) x3) x4) x5
 exact NW.ret1 rfl (by rfl) ⟨rfl, h10⟩

end Go.Proofs.YtnaajldlloglkaaDoor.W
