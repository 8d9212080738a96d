/- Walks; printed by a program of the claim. -/
import Derived.Test.YtnaajldlloglkaaForeW3
set_option linter.unusedVariables false
set_option linter.unusedSimpArgs false
namespace Go.Proofs.Ytnaajldlloglkaa.W
open Go.H Go.Proofs
set_option maxHeartbeats 4000000 in
set_option maxRecDepth 100000 in
theorem hermitagelaw11_ForeTells.calls (k : Nat) (p0 : hermitagelaw10Script) (A1 : Option Addr) (c_1 : Nat) (A2 : Option Addr) (c_2 : Nat) (A3 : Option Addr) (c_3 : Nat) (A4 : Option Addr) (c_4 : Nat) (r : Bool) (w : World) (hs1 : Sl kDeviceR w.heap okAll A1 p0.P.Devices) (hl1 : p0.P.Devices.length ≤ c_1) (hs2 : Sl kTableR w.heap okAll A2 p0.P.Tables) (hl2 : p0.P.Tables.length ≤ c_2) (hs3 : Sl kEntry w.heap okAll A3 p0.P.Job.Table.List_) (hl3 : p0.P.Job.Table.List_.length ≤ c_3) (hs4 : Sl khermitagelaw10ActR w.heap okAll A4 p0.A) (hl4 : p0.A.length ≤ c_4) (H : hermitagelaw11_ForeTells.f k p0 = some r) :
    Calls Try.prog 9 #[.agg #[.slice A1 p0.P.Devices.length c_1, .slice A2 p0.P.Tables.length c_2, .int .i64 p0.P.Job.Dev, .int .i64 p0.P.Job.At, .int .i64 p0.P.Job.Table.Dev, .int .i64 p0.P.Job.Table.Size, .slice A3 p0.P.Job.Table.List_.length c_3, .int .i64 p0.P.Next, .slice A4 p0.A.length c_4]] w fun e w' => e = .returned (.bool r) ∧ Ext w w' := by
 have h1 : Sl kDeviceR w.heap (okL [(0, some w.heap.size, none)]) A1 p0.P.Devices := hs1.old _ rfl
 have h2 : Sl kTableR w.heap (okL [(0, some w.heap.size, none)]) A2 p0.P.Tables := hs2.old _ rfl
 have h3 : Sl kEntry w.heap (okL [(0, some w.heap.size, none)]) A3 p0.P.Job.Table.List_ := hs3.old _ rfl
 have h4 : Sl khermitagelaw10ActR w.heap (okL [(0, some w.heap.size, none)]) A4 p0.A := hs4.old _ rfl
 have x0 : Ext w w := Upd.refl _ w
 unfold hermitagelaw11_ForeTells.f at H
 refine calls_start Try.func9 rfl 162 rfl [.agg #[.slice A1 p0.P.Devices.length c_1, .slice A2 p0.P.Tables.length c_2, .int .i64 p0.P.Job.Dev, .int .i64 p0.P.Job.At, .int .i64 p0.P.Job.Table.Dev, .int .i64 p0.P.Job.Table.Size, .slice A3 p0.P.Job.Table.List_.length c_3, .int .i64 p0.P.Next, .slice A4 p0.A.length c_4]] rfl ?_
 refine CW.seq ?_
 refine CW.lex [.X, .W] rfl ?_
 refine RW.box (cs := [.slice A1 p0.P.Devices.length c_1, .slice A2 p0.P.Tables.length c_2, .int .i64 p0.P.Job.Dev, .int .i64 p0.P.Job.At, .int .i64 p0.P.Job.Table.Dev, .int .i64 p0.P.Job.Table.Size, .slice A3 p0.P.Job.Table.List_.length c_3, .int .i64 p0.P.Next, .slice A4 p0.A.length c_4]) (.inl rfl) ⟨rfl, rfl, rfl, rfl⟩ rfl rfl rfl ?_
 intro b1 w1 x1 l1 h5
 have sx1 := x1.size
 have ltb1 := h5.lt
 refine RW.pure tabOk 1 rfl ?_
 refine RW.done ?_
 refine NW.next ?_
 refine CW.seq ?_
 refine CW.seq ?_
 refine CW.lex [.L, .X] rfl ?_
 refine RW.load tabOk [.slice A1 p0.P.Devices.length c_1, .slice A2 p0.P.Tables.length c_2, .int .i64 p0.P.Job.Dev, .int .i64 p0.P.Job.At, .int .i64 p0.P.Job.Table.Dev, .int .i64 p0.P.Job.Table.Size, .slice A3 p0.P.Job.Table.List_.length c_3, .int .i64 p0.P.Next, .slice A4 p0.A.length c_4] (h5.at 0) ⟨rfl, rfl, rfl, rfl⟩ rfl rfl rfl rfl ?_
 have h6 := h1.ext x1
 have h7 := h2.ext x1
 have h8 := h3.ext x1
 have h9 := h4.ext x1
 obtain ⟨y1, h10, H⟩ := bind_some H
 refine RW.callF (.inl rfl) ent27 ⟨rfl, rfl, rfl, rfl⟩ rfl rfl (hermitagelaw10_Heavy.calls k p0 A1 c_1 A2 c_2 A3 c_3 A4 c_4 _ _ h6.all hl1 h7.all hl2 h8.all hl3 h9.all hl4 h10) ?_
 rintro _ w2 ⟨rfl, x2⟩
 refine ⟨_, rfl, x2, ?_⟩
 have sx2 := x2.size
 refine RW.done ?_
 refine NW.next ?_
 by_cases c1 : y1 = true
 ·
  rw [if_pos c1] at H
  refine CW.cond_t rfl (c1) ?_
  refine CW.seq ?_
  refine CW.lex [.W] rfl ?_
  refine RW.pure tabOk 1 rfl ?_
  refine RW.done ?_
  refine NW.next ?_
  refine CW.ret ?_
  refine NW.ret_then ?_
  obtain rfl := Option.some.inj H
  have h11 := Ext.trans (Ext.trans x0 x1) x2
  exact NW.ret1 rfl (by rfl) ⟨rfl, h11⟩
 ·
  rw [if_neg c1] at H
  refine CW.cond_f rfl (bool_f c1) ?_
  refine CW.skip ?_
  refine NW.next ?_
  refine CW.seq ?_
  refine CW.lex [.W, .L, .X, .X, .M] rfl ?_
  refine RW.pure tabOk 1 rfl ?_
  have h12 := h5.ext x2
  refine RW.load tabOk [.slice A1 p0.P.Devices.length c_1, .slice A2 p0.P.Tables.length c_2, .int .i64 p0.P.Job.Dev, .int .i64 p0.P.Job.At, .int .i64 p0.P.Job.Table.Dev, .int .i64 p0.P.Job.Table.Size, .slice A3 p0.P.Job.Table.List_.length c_3, .int .i64 p0.P.Next] ((h12.at 0).take 8 rfl) ⟨rfl, rfl, rfl, rfl⟩ rfl rfl rfl rfl ?_
  have h13 := h6.ext x2
  have h14 := h7.ext x2
  have h15 := h8.ext x2
  obtain ⟨y2, h16, H⟩ := bind_some H
  refine RW.callF (.inl rfl) ent28 ⟨rfl, rfl, rfl, rfl⟩ rfl rfl (hermitageref0_CopyPool.calls k p0.P A1 c_1 A2 c_2 A3 c_3 _ _ h13.all hl1 h14.all hl2 h15.all hl3 h16) ?_
  rintro _ w3 ⟨A5, c_5, A6, c_6, A7, c_7, rfl, x3, h17, h18, h19⟩
  refine ⟨_, rfl, x3, ?_⟩
  have sx3 := x3.size
  have h20 : Ow kDeviceO 67 w3.heap (okL [(w2.heap.size, some w3.heap.size, some 67)]) (okL [(w2.heap.size, some w3.heap.size, some 132)]) A5 c_5 y2.Devices := h17.close
  have h21 : Ow kTableO 24 w3.heap (okL [(w2.heap.size, some w3.heap.size, some 24)]) (okL [(w2.heap.size, some w3.heap.size, some 45)]) A6 c_6 y2.Tables := h18.close
  have h22 : Ow kEntry 45 w3.heap (okL [(w2.heap.size, some w3.heap.size, some 45)]) (okL []) A7 c_7 y2.Job.Table.List_ := h19.close
  refine RW.alloc tabOk (.inl rfl) ⟨rfl, rfl, rfl, rfl⟩ rfl rfl ?_
  intro b2 w4 x4 l2 h23
  have sx4 := x4.size
  have ltb2 := h23.lt
  refine RW.storeBox tabOk h23 [.slice A5 y2.Devices.length c_5, .slice A6 y2.Tables.length c_6, .int .i64 y2.Job.Dev, .int .i64 y2.Job.At, .int .i64 y2.Job.Table.Dev, .int .i64 y2.Job.Table.Size, .slice A7 y2.Job.Table.List_.length c_7, .int .i64 y2.Next] ⟨rfl, rfl, rfl⟩ rfl rfl rfl rfl rfl rfl rfl rfl ?_
  intro w5 x5 h24
  have h25 : Box w5.heap b2 61 [.slice A5 y2.Devices.length c_5, .slice A6 y2.Tables.length c_6, .int .i64 y2.Job.Dev, .int .i64 y2.Job.At, .int .i64 y2.Job.Table.Dev, .int .i64 y2.Job.Table.Size, .slice A7 y2.Job.Table.List_.length c_7, .int .i64 y2.Next] := h24
  have sx5 := x5.size
  refine RW.done ?_
  refine NW.next ?_
  refine CW.seq ?_
  refine CW.lex [.W, .L, .X, .W] rfl ?_
  refine RW.pure tabOk 1 rfl ?_
  have h26 := ((h12.ext x3).ext x4).turnB x5 (by omega)
  refine RW.load tabOk [.slice A1 p0.P.Devices.length c_1, .slice A2 p0.P.Tables.length c_2, .int .i64 p0.P.Job.Dev, .int .i64 p0.P.Job.At, .int .i64 p0.P.Job.Table.Dev, .int .i64 p0.P.Job.Table.Size, .slice A3 p0.P.Job.Table.List_.length c_3, .int .i64 p0.P.Next] ((h26.at 0).take 8 rfl) ⟨rfl, rfl, rfl, rfl⟩ rfl rfl rfl rfl ?_
  have h27 := ((h13.ext x3).ext x4).turnB x5 h23 ⟨.inr (by omega), trivial⟩
  have h28 := ((h14.ext x3).ext x4).turnB x5 h23 ⟨.inr (by omega), trivial⟩
  have h29 := ((h15.ext x3).ext x4).turnB x5 h23 ⟨.inr (by omega), trivial⟩
  obtain ⟨y3, h30, H⟩ := bind_some H
  refine RW.callF (.inl rfl) ent29 ⟨rfl, rfl, rfl, rfl⟩ rfl rfl (hermitageref9_Pool.calls k p0.P A1 c_1 A2 c_2 A3 c_3 _ _ h27.all hl1 h28.all hl2 h29.all hl3 h30) ?_
  rintro _ w6 ⟨rfl, x6⟩
  refine ⟨_, rfl, x6, ?_⟩
  have sx6 := x6.size
  refine RW.pure tabOk 1 rfl ?_
  refine RW.done ?_
  refine NW.next ?_
  refine CW.seq ?_
  refine CW.lex [.L, .X, .W, .W, .W, .W, .W] rfl ?_
  have h31 := h25.ext x6
  refine RW.load tabOk [.slice A5 y2.Devices.length c_5, .slice A6 y2.Tables.length c_6, .int .i64 y2.Job.Dev, .int .i64 y2.Job.At, .int .i64 y2.Job.Table.Dev, .int .i64 y2.Job.Table.Size, .slice A7 y2.Job.Table.List_.length c_7, .int .i64 y2.Next] (h31.at 0) ⟨rfl, rfl, rfl, rfl⟩ rfl rfl rfl rfl ?_
  have h32 := ((h20.ext x4).turnB x5 h23 ⟨.inl (show (67 : Nat) ≠ 61 by decide), trivial⟩ ⟨.inl (show (132 : Nat) ≠ 61 by decide), trivial⟩).ext x6
  have h33 := ((h21.ext x4).turnB x5 h23 ⟨.inl (show (24 : Nat) ≠ 61 by decide), trivial⟩ ⟨.inl (show (45 : Nat) ≠ 61 by decide), trivial⟩).ext x6
  have h34 := ((h22.ext x4).turnB x5 h23 ⟨.inl (show (45 : Nat) ≠ 61 by decide), trivial⟩ trivial).ext x6
  obtain ⟨y4, h35, H⟩ := bind_some H
  refine RW.callF (.inl rfl) ent30 ⟨rfl, rfl, rfl, rfl⟩ rfl rfl (fore_Spare.calls k y2 A5 c_5 A6 c_6 A7 c_7 _ _ (h32.all.to kDevice_ro rfl) h32.len (h33.all.to kTable_ro rfl) h33.len h34.all h34.len h35) ?_
  rintro _ w7 ⟨rfl, x7⟩
  refine ⟨_, rfl, x7, ?_⟩
  have sx7 := x7.size
  refine RW.pure tabOk 5 rfl ?_
  refine RW.done ?_
  refine NW.next ?_
  refine CW.seq ?_
  refine CW.lex [.L, .X, .W, .W, .W, .W, .W] rfl ?_
  have h36 := h31.ext x7
  refine RW.load tabOk [.slice A5 y2.Devices.length c_5, .slice A6 y2.Tables.length c_6, .int .i64 y2.Job.Dev, .int .i64 y2.Job.At, .int .i64 y2.Job.Table.Dev, .int .i64 y2.Job.Table.Size, .slice A7 y2.Job.Table.List_.length c_7, .int .i64 y2.Next] (h36.at 0) ⟨rfl, rfl, rfl, rfl⟩ rfl rfl rfl rfl ?_
  have h37 := h32.ext x7
  have h38 := h33.ext x7
  have h39 := h34.ext x7
  obtain ⟨y5, h40, H⟩ := bind_some H
  refine RW.callF (.inl rfl) ent24 ⟨rfl, rfl, rfl, rfl⟩ rfl rfl (fore_Depth.calls k y2 A5 c_5 A6 c_6 A7 c_7 _ _ (h37.all.to kDevice_ro rfl) h37.len (h38.all.to kTable_ro rfl) h38.len h39.all h39.len h40) ?_
  rintro _ w8 ⟨rfl, x8⟩
  refine ⟨_, rfl, x8, ?_⟩
  have sx8 := x8.size
  refine RW.pure tabOk 5 rfl ?_
  refine RW.done ?_
  refine NW.next ?_
  refine CW.seq ?_
  refine CW.lex [.W, .W, .W] rfl ?_
  refine RW.pure tabOk 3 rfl ?_
  refine RW.done ?_
  refine NW.next ?_
  refine CW.seqJ (fun a w9 => ∃ (it9_0 : Int) (it10_0 : Int) (it11_0 : Int), Sat 162 [(1, .pointer (some ⟨b1, 0, none⟩)), (3, .pointer (some ⟨b2, 0, none⟩)), (4, .bool y3), (5, .int .i64 y4.1), (6, .int .i64 y4.2), (7, .int .i64 y5.1), (8, .int .i64 y5.2), (9, .int .i64 it9_0), (10, .int .i64 it10_0), (11, .int .i64 it11_0)] a ∧ w8.heap.size ≤ w9.heap.size ∧ Sl kDeviceR w9.heap (okL [(0, some w.heap.size, none)]) A1 p0.P.Devices ∧ Sl kTableR w9.heap (okL [(0, some w.heap.size, none)]) A2 p0.P.Tables ∧ Sl kEntry w9.heap (okL [(0, some w.heap.size, none)]) A3 p0.P.Job.Table.List_ ∧ Sl khermitagelaw10ActR w9.heap (okL [(0, some w.heap.size, none)]) A4 p0.A ∧ Ow kDeviceO 67 w9.heap (okL [(w2.heap.size, some w3.heap.size, some 67)]) (okL [(w2.heap.size, some w3.heap.size, some 132)]) A5 c_5 y2.Devices ∧ Ow kTableO 24 w9.heap (okL [(w2.heap.size, some w3.heap.size, some 24)]) (okL [(w2.heap.size, some w3.heap.size, some 45)]) A6 c_6 y2.Tables ∧ Ow kEntry 45 w9.heap (okL [(w2.heap.size, some w3.heap.size, some 45)]) (okL []) A7 c_7 y2.Job.Table.List_ ∧ Ext w w9 ∧ Box w9.heap b1 64 [.slice A1 p0.P.Devices.length c_1, .slice A2 p0.P.Tables.length c_2, .int .i64 p0.P.Job.Dev, .int .i64 p0.P.Job.At, .int .i64 p0.P.Job.Table.Dev, .int .i64 p0.P.Job.Table.Size, .slice A3 p0.P.Job.Table.List_.length c_3, .int .i64 p0.P.Next, .slice A4 p0.A.length c_4] ∧ Box w9.heap b2 61 [.slice A5 y2.Devices.length c_5, .slice A6 y2.Tables.length c_6, .int .i64 y2.Job.Dev, .int .i64 y2.Job.At, .int .i64 y2.Job.Table.Dev, .int .i64 y2.Job.Table.Size, .slice A7 y2.Job.Table.List_.length c_7, .int .i64 y2.Next] ∧ hermitagelaw11_ForeTells.j0 p0 k y2 y3 y4 y5 it9_0 it10_0 it11_0 = some r) ?_ ?_
  ·
   refine CW.seq ?_
   refine CW.lex [.W] rfl ?_
   refine RW.pure tabOk 1 rfl ?_
   refine RW.done ?_
   refine NW.next ?_
   by_cases c2 : y3 = true
   ·
    rw [if_pos c2] at H
    refine CW.cond_t rfl (c2) ?_
    refine CW.ord [0, 1, 3, 0, 8, 31, 63, 127, 255] (ofL [(0, .W), (3, .W), (1, .L), (4, .L), (2, .X), (5, .X), (6, .W), (7, .W), (8, .W)] .nil) mixed (by kernel_rfl) ?_
    intro w10 x9
    have sx9 := x9.size
    refine RW.pure tabOk 2 rfl ?_
    have h41 := (((h26.ext x6).ext x7).ext x8).ext x9
    refine RW.load tabOk [.slice A1 p0.P.Devices.length c_1, .slice A2 p0.P.Tables.length c_2, .int .i64 p0.P.Job.Dev, .int .i64 p0.P.Job.At, .int .i64 p0.P.Job.Table.Dev, .int .i64 p0.P.Job.Table.Size, .slice A3 p0.P.Job.Table.List_.length c_3, .int .i64 p0.P.Next] ((h41.at 0).take 8 rfl) ⟨rfl, rfl, rfl, rfl⟩ rfl rfl rfl rfl ?_
    refine RW.load tabOk [.slice A1 p0.P.Devices.length c_1, .slice A2 p0.P.Tables.length c_2, .int .i64 p0.P.Job.Dev, .int .i64 p0.P.Job.At, .int .i64 p0.P.Job.Table.Dev, .int .i64 p0.P.Job.Table.Size, .slice A3 p0.P.Job.Table.List_.length c_3, .int .i64 p0.P.Next] ((h41.at 0).take 8 rfl) ⟨rfl, rfl, rfl, rfl⟩ rfl rfl rfl rfl ?_
    have h42 := (((h27.ext x6).ext x7).ext x8).ext x9
    have h43 := (((h28.ext x6).ext x7).ext x8).ext x9
    have h44 := (((h29.ext x6).ext x7).ext x8).ext x9
    obtain ⟨y6, h45, H⟩ := bind_some H
    refine RW.callF (.inl rfl) ent31 ⟨rfl, rfl, rfl, rfl⟩ rfl rfl (hermitageref9_Spare.calls k p0.P A1 c_1 A2 c_2 A3 c_3 _ _ h42.all hl1 h43.all hl2 h44.all hl3 h45) ?_
    rintro _ w11 ⟨rfl, x10⟩
    refine ⟨_, rfl, x10, ?_⟩
    have sx10 := x10.size
    have h46 := h42.ext x10
    have h47 := h43.ext x10
    have h48 := h44.ext x10
    obtain ⟨y7, h49, H⟩ := bind_some H
    refine RW.callF (.inl rfl) ent32 ⟨rfl, rfl, rfl, rfl⟩ rfl rfl (hermitageref9_Depth.calls k p0.P A1 c_1 A2 c_2 A3 c_3 _ _ h46.all hl1 h47.all hl2 h48.all hl3 h49) ?_
    rintro _ w12 ⟨rfl, x11⟩
    refine ⟨_, rfl, x11, ?_⟩
    have sx11 := x11.size
    refine RW.pure tabOk 3 rfl ?_
    refine RW.done ?_
    have h50 := h46.ext x11
    have h51 := h47.ext x11
    have h52 := h48.ext x11
    have h53 := (((((((((h9.ext x2).ext x3).ext x4).turnB x5 h23 ⟨.inr (by omega), trivial⟩).ext x6).ext x7).ext x8).ext x9).ext x10).ext x11
    have h54 := (((h37.ext x8).ext x9).ext x10).ext x11
    have h55 := (((h38.ext x8).ext x9).ext x10).ext x11
    have h56 := (((h39.ext x8).ext x9).ext x10).ext x11
    have h57 := Ext.trans (Ext.trans (Ext.trans (Ext.trans (Ext.trans (Ext.trans (Ext.turnB (Ext.trans (Ext.trans (Ext.trans (Ext.trans x0 x1) x2) x3) x4) x5 (by omega)) x6) x7) x8) x9) x10) x11
    have h58 := (h41.ext x10).ext x11
    have h59 := (((h36.ext x8).ext x9).ext x10).ext x11
    exact NW.J fun a ha => ⟨0, y6, y7, ha.sub ⟨rfl, rfl, rfl, rfl, rfl, rfl, rfl, rfl, rfl, rfl, trivial⟩, by omega, h50, h51, h52, h53, h54, h55, h56, h57, h58, h59, H⟩
   ·
    rw [if_neg c2] at H
    refine CW.cond_f rfl (bool_f c2) ?_
    refine CW.skip ?_
    have h60 := ((h27.ext x6).ext x7).ext x8
    have h61 := ((h28.ext x6).ext x7).ext x8
    have h62 := ((h29.ext x6).ext x7).ext x8
    have h63 := ((((((h9.ext x2).ext x3).ext x4).turnB x5 h23 ⟨.inr (by omega), trivial⟩).ext x6).ext x7).ext x8
    have h64 := h37.ext x8
    have h65 := h38.ext x8
    have h66 := h39.ext x8
    have h67 := Ext.trans (Ext.trans (Ext.trans (Ext.turnB (Ext.trans (Ext.trans (Ext.trans (Ext.trans x0 x1) x2) x3) x4) x5 (by omega)) x6) x7) x8
    have h68 := ((h26.ext x6).ext x7).ext x8
    have h69 := h36.ext x8
    exact NW.J fun a ha => ⟨1, 0, 0, ha.sub ⟨rfl, rfl, rfl, rfl, rfl, rfl, rfl, rfl, rfl, rfl, trivial⟩, by omega, h60, h61, h62, h63, h64, h65, h66, h67, h68, h69, H⟩
  intro a w9 hJ hp
  obtain ⟨it9_0, it10_0, it11_0, hS, hle, gF1_0, gF2_0, gF3_0, gF4_0, gF5_0, gF6_0, gF7_0, x0_0, gb1_0, gb2_0, H⟩ := hJ
  unfold hermitagelaw11_ForeTells.j0 at H
  refine CW.go hp hS ?_
  refine CW.seq ?_
  refine CW.seqJ (fun a w13 => ∃ (bt69_1 : Bool), Sat 162 [(1, .pointer (some ⟨b1, 0, none⟩)), (3, .pointer (some ⟨b2, 0, none⟩)), (4, .bool y3), (69, .bool bt69_1)] a ∧ w9.heap.size ≤ w13.heap.size ∧ Sl kDeviceR w13.heap (okL [(0, some w.heap.size, none)]) A1 p0.P.Devices ∧ Sl kTableR w13.heap (okL [(0, some w.heap.size, none)]) A2 p0.P.Tables ∧ Sl kEntry w13.heap (okL [(0, some w.heap.size, none)]) A3 p0.P.Job.Table.List_ ∧ Sl khermitagelaw10ActR w13.heap (okL [(0, some w.heap.size, none)]) A4 p0.A ∧ Ow kDeviceO 67 w13.heap (okL [(w2.heap.size, some w3.heap.size, some 67)]) (okL [(w2.heap.size, some w3.heap.size, some 132)]) A5 c_5 y2.Devices ∧ Ow kTableO 24 w13.heap (okL [(w2.heap.size, some w3.heap.size, some 24)]) (okL [(w2.heap.size, some w3.heap.size, some 45)]) A6 c_6 y2.Tables ∧ Ow kEntry 45 w13.heap (okL [(w2.heap.size, some w3.heap.size, some 45)]) (okL []) A7 c_7 y2.Job.Table.List_ ∧ Ext w w13 ∧ Box w13.heap b1 64 [.slice A1 p0.P.Devices.length c_1, .slice A2 p0.P.Tables.length c_2, .int .i64 p0.P.Job.Dev, .int .i64 p0.P.Job.At, .int .i64 p0.P.Job.Table.Dev, .int .i64 p0.P.Job.Table.Size, .slice A3 p0.P.Job.Table.List_.length c_3, .int .i64 p0.P.Next, .slice A4 p0.A.length c_4] ∧ Box w13.heap b2 61 [.slice A5 y2.Devices.length c_5, .slice A6 y2.Tables.length c_6, .int .i64 y2.Job.Dev, .int .i64 y2.Job.At, .int .i64 y2.Job.Table.Dev, .int .i64 y2.Job.Table.Size, .slice A7 y2.Job.Table.List_.length c_7, .int .i64 y2.Next] ∧ hermitagelaw11_ForeTells.j1 p0 k y2 y3 bt69_1 = some r) ?_ ?_
  ·
   refine CW.lex [.W, .X, .W, .W, .W, .W, .X, .W, .W, .W, .W, .W, .W, .W, .W, .W, .W, .W, .W, .W] rfl ?_
   refine RW.pure tabOk 1 rfl ?_
   obtain ⟨y8, h70, H⟩ := bind_some H
   refine RW.callF (.inl rfl) ent25 ⟨rfl, rfl, rfl, rfl⟩ rfl rfl (hermitagelaw11_num.calls y4.2 _ _ h70) ?_
   rintro _ w14 ⟨rfl, x12⟩
   refine ⟨_, rfl, x12, ?_⟩
   have sx12 := x12.size
   refine RW.pure tabOk 3 rfl ?_
   by_cases c3 : y8 = it9_0
   ·
    rw [if_pos c3] at H
    refine RW.bool 54 (b' := false) (bne_f c3) rfl ?_
    refine RW.pure tabOk 1 rfl ?_
    obtain ⟨y9, h71, H⟩ := bind_some H
    refine RW.callF (.inl rfl) ent25 ⟨rfl, rfl, rfl, rfl⟩ rfl rfl (hermitagelaw11_num.calls y5.2 _ _ h71) ?_
    rintro _ w15 ⟨rfl, x13⟩
    refine ⟨_, rfl, x13, ?_⟩
    have sx13 := x13.size
    refine RW.pure tabOk 4 rfl ?_
    by_cases c4 : y9 = it9_0
    ·
     rw [if_pos c4] at H
     refine RW.bool 60 (b' := false) (bne_f c4) rfl ?_
     refine RW.pure tabOk 5 rfl ?_
     by_cases c5 : y4.1 = it10_0
     ·
      rw [if_pos c5] at H
      refine RW.bool 65 (b' := false) (bne_f c5) rfl ?_
      refine RW.pure tabOk 4 rfl ?_
      refine RW.done ?_
      have h72 := (gF1_0.ext x12).ext x13
      have h73 := (gF2_0.ext x12).ext x13
      have h74 := (gF3_0.ext x12).ext x13
      have h75 := (gF4_0.ext x12).ext x13
      have h76 := (gF5_0.ext x12).ext x13
      have h77 := (gF6_0.ext x12).ext x13
      have h78 := (gF7_0.ext x12).ext x13
      have h79 := Ext.trans (Ext.trans x0_0 x12) x13
      have h80 := (gb1_0.ext x12).ext x13
      have h81 := (gb2_0.ext x12).ext x13
      exact NW.J fun a ha => ⟨(y5.1 != it11_0), ha.sub ⟨rfl, rfl, rfl, rfl, trivial⟩, by omega, h72, h73, h74, h75, h76, h77, h78, h79, h80, h81, H⟩
     ·
      rw [if_neg c5] at H
      refine RW.bool 65 (b' := true) (bne_t c5) rfl ?_
      refine RW.pure tabOk 4 rfl ?_
      refine RW.done ?_
      have h82 := (gF1_0.ext x12).ext x13
      have h83 := (gF2_0.ext x12).ext x13
      have h84 := (gF3_0.ext x12).ext x13
      have h85 := (gF4_0.ext x12).ext x13
      have h86 := (gF5_0.ext x12).ext x13
      have h87 := (gF6_0.ext x12).ext x13
      have h88 := (gF7_0.ext x12).ext x13
      have h89 := Ext.trans (Ext.trans x0_0 x12) x13
      have h90 := (gb1_0.ext x12).ext x13
      have h91 := (gb2_0.ext x12).ext x13
      exact NW.J fun a ha => ⟨true, ha.sub ⟨rfl, rfl, rfl, rfl, trivial⟩, by omega, h82, h83, h84, h85, h86, h87, h88, h89, h90, h91, H⟩
    ·
     rw [if_neg c4] at H
     refine RW.bool 60 (b' := true) (bne_t c4) rfl ?_
     refine RW.pure tabOk 9 rfl ?_
     refine RW.done ?_
     have h92 := (gF1_0.ext x12).ext x13
     have h93 := (gF2_0.ext x12).ext x13
     have h94 := (gF3_0.ext x12).ext x13
     have h95 := (gF4_0.ext x12).ext x13
     have h96 := (gF5_0.ext x12).ext x13
     have h97 := (gF6_0.ext x12).ext x13
     have h98 := (gF7_0.ext x12).ext x13
     have h99 := Ext.trans (Ext.trans x0_0 x12) x13
     have h100 := (gb1_0.ext x12).ext x13
     have h101 := (gb2_0.ext x12).ext x13
     exact NW.J fun a ha => ⟨true, ha.sub ⟨rfl, rfl, rfl, rfl, trivial⟩, by omega, h92, h93, h94, h95, h96, h97, h98, h99, h100, h101, H⟩
   ·
    rw [if_neg c3] at H
    refine RW.bool 54 (b' := true) (bne_t c3) rfl ?_
    refine RW.pure tabOk 15 rfl ?_
    refine RW.done ?_
    have h102 := gF1_0.ext x12
    have h103 := gF2_0.ext x12
    have h104 := gF3_0.ext x12
    have h105 := gF4_0.ext x12
    have h106 := gF5_0.ext x12
    have h107 := gF6_0.ext x12
    have h108 := gF7_0.ext x12
    have h109 := Ext.trans x0_0 x12
    have h110 := gb1_0.ext x12
    have h111 := gb2_0.ext x12
    exact NW.J fun a ha => ⟨true, ha.sub ⟨rfl, rfl, rfl, rfl, trivial⟩, by omega, h102, h103, h104, h105, h106, h107, h108, h109, h110, h111, H⟩
  intro a w13 hJ hp
  obtain ⟨bt69_1, hS, hle, gF1_1, gF2_1, gF3_1, gF4_1, gF5_1, gF6_1, gF7_1, x0_1, gb1_1, gb2_1, H⟩ := hJ
  unfold hermitagelaw11_ForeTells.j1 at H
  refine CW.go hp hS ?_
  by_cases c6 : bt69_1 = true
  ·
   rw [if_pos c6] at H
   refine CW.cond_t rfl (c6) ?_
   refine CW.seq ?_
   refine CW.lex [.W] rfl ?_
   refine RW.pure tabOk 1 rfl ?_
   refine RW.done ?_
   refine NW.next ?_
   refine CW.ret ?_
   refine NW.ret_then ?_
   obtain rfl := Option.some.inj H
   exact NW.ret1 rfl (by rfl) ⟨rfl, x0_1⟩
  ·
   rw [if_neg c6] at H
   refine CW.cond_f rfl (bool_f c6) ?_
   refine CW.skip ?_
   refine NW.next ?_
   refine CW.seq ?_
   refine CW.seq ?_
   refine CW.lex [.W] rfl ?_
   refine RW.pure tabOk 1 rfl ?_
   refine RW.done ?_
   refine NW.next ?_
   refine CW.block ?_
   refine CW.loop (fun n1 a w16 => ∃ (it12_2 : Int), Sat 162 [(1, .pointer (some ⟨b1, 0, none⟩)), (3, .pointer (some ⟨b2, 0, none⟩)), (4, .bool y3), (12, .int .i64 it12_2)] a ∧ w13.heap.size ≤ w16.heap.size ∧ Sl kDeviceR w16.heap (okL [(0, some w.heap.size, none)]) A1 p0.P.Devices ∧ Sl kTableR w16.heap (okL [(0, some w.heap.size, none)]) A2 p0.P.Tables ∧ Sl kEntry w16.heap (okL [(0, some w.heap.size, none)]) A3 p0.P.Job.Table.List_ ∧ Sl khermitagelaw10ActR w16.heap (okL [(0, some w.heap.size, none)]) A4 p0.A ∧ Ow kDeviceO 67 w16.heap (okL [(w2.heap.size, some w3.heap.size, some 67)]) (okL [(w2.heap.size, some w3.heap.size, some 132)]) A5 c_5 y2.Devices ∧ Ow kTableO 24 w16.heap (okL [(w2.heap.size, some w3.heap.size, some 24)]) (okL [(w2.heap.size, some w3.heap.size, some 45)]) A6 c_6 y2.Tables ∧ Ow kEntry 45 w16.heap (okL [(w2.heap.size, some w3.heap.size, some 45)]) (okL []) A7 c_7 y2.Job.Table.List_ ∧ Ext w w16 ∧ Box w16.heap b1 64 [.slice A1 p0.P.Devices.length c_1, .slice A2 p0.P.Tables.length c_2, .int .i64 p0.P.Job.Dev, .int .i64 p0.P.Job.At, .int .i64 p0.P.Job.Table.Dev, .int .i64 p0.P.Job.Table.Size, .slice A3 p0.P.Job.Table.List_.length c_3, .int .i64 p0.P.Next, .slice A4 p0.A.length c_4] ∧ Box w16.heap b2 61 [.slice A5 y2.Devices.length c_5, .slice A6 y2.Tables.length c_6, .int .i64 y2.Job.Dev, .int .i64 y2.Job.At, .int .i64 y2.Job.Table.Dev, .int .i64 y2.Job.Table.Size, .slice A7 y2.Job.Table.List_.length c_7, .int .i64 y2.Next] ∧ hermitagelaw11_ForeTells.l0 p0 k y2 y3 n1 it12_2 = some r) k ?_ ?_
   · exact fun a ha => ⟨(-1), ha.sub ⟨rfl, rfl, rfl, rfl, trivial⟩, by omega, gF1_1, gF2_1, gF3_1, gF4_1, gF5_1, gF6_1, gF7_1, x0_1, gb1_1, gb2_1, H⟩
   intro n1 a w16 hI hp
   obtain ⟨it12_2, hS, hle, gF1_2, gF2_2, gF3_2, gF4_2, gF5_2, gF6_2, gF7_2, x0_2, gb1_2, gb2_2, H⟩ := hI
   cases n1 with
   | zero => cases H
   | succ n1 =>
    rw [hermitagelaw11_ForeTells.l0] at H
    refine CW.go hp hS ?_
    refine CW.seq ?_
    refine CW.seq ?_
    refine CW.lex [.W, .W] rfl ?_
    refine RW.pure tabOk 2 rfl ?_
    refine RW.done ?_
    refine NW.next ?_
    by_cases c7 : it12_2 < 9
    ·
     rw [if_pos c7] at H
     refine CW.cond_t rfl (decide_eq_true c7) ?_
     refine CW.skip ?_
     refine NW.next ?_
     refine CW.seq ?_
     refine CW.block ?_
     refine CW.seq ?_
     refine CW.lex [.W, .W] rfl ?_
     refine RW.pure tabOk 2 rfl ?_
     refine RW.done ?_
     refine NW.next ?_
     refine CW.seqJ (fun a w17 => ∃ (it13_3 : Int), Sat 162 [(1, .pointer (some ⟨b1, 0, none⟩)), (3, .pointer (some ⟨b2, 0, none⟩)), (4, .bool y3), (12, .int .i64 it12_2), (13, .int .i64 it13_3)] a ∧ w16.heap.size ≤ w17.heap.size ∧ Sl kDeviceR w17.heap (okL [(0, some w.heap.size, none)]) A1 p0.P.Devices ∧ Sl kTableR w17.heap (okL [(0, some w.heap.size, none)]) A2 p0.P.Tables ∧ Sl kEntry w17.heap (okL [(0, some w.heap.size, none)]) A3 p0.P.Job.Table.List_ ∧ Sl khermitagelaw10ActR w17.heap (okL [(0, some w.heap.size, none)]) A4 p0.A ∧ Ow kDeviceO 67 w17.heap (okL [(w2.heap.size, some w3.heap.size, some 67)]) (okL [(w2.heap.size, some w3.heap.size, some 132)]) A5 c_5 y2.Devices ∧ Ow kTableO 24 w17.heap (okL [(w2.heap.size, some w3.heap.size, some 24)]) (okL [(w2.heap.size, some w3.heap.size, some 45)]) A6 c_6 y2.Tables ∧ Ow kEntry 45 w17.heap (okL [(w2.heap.size, some w3.heap.size, some 45)]) (okL []) A7 c_7 y2.Job.Table.List_ ∧ Ext w w17 ∧ Box w17.heap b1 64 [.slice A1 p0.P.Devices.length c_1, .slice A2 p0.P.Tables.length c_2, .int .i64 p0.P.Job.Dev, .int .i64 p0.P.Job.At, .int .i64 p0.P.Job.Table.Dev, .int .i64 p0.P.Job.Table.Size, .slice A3 p0.P.Job.Table.List_.length c_3, .int .i64 p0.P.Next, .slice A4 p0.A.length c_4] ∧ Box w17.heap b2 61 [.slice A5 y2.Devices.length c_5, .slice A6 y2.Tables.length c_6, .int .i64 y2.Job.Dev, .int .i64 y2.Job.At, .int .i64 y2.Job.Table.Dev, .int .i64 y2.Job.Table.Size, .slice A7 y2.Job.Table.List_.length c_7, .int .i64 y2.Next] ∧ hermitagelaw11_ForeTells.j2 p0 k y2 y3 it12_2 (hermitagelaw11_ForeTells.l0 p0 k y2 y3 n1) it13_3 = some r) ?_ ?_
     ·
      refine CW.seqJ (fun a w18 => ∃ (bt82_4 : Bool), Sat 162 [(1, .pointer (some ⟨b1, 0, none⟩)), (3, .pointer (some ⟨b2, 0, none⟩)), (4, .bool y3), (12, .int .i64 it12_2), (13, .int .i64 it12_2), (82, .bool bt82_4)] a ∧ w16.heap.size ≤ w18.heap.size ∧ Sl kDeviceR w18.heap (okL [(0, some w.heap.size, none)]) A1 p0.P.Devices ∧ Sl kTableR w18.heap (okL [(0, some w.heap.size, none)]) A2 p0.P.Tables ∧ Sl kEntry w18.heap (okL [(0, some w.heap.size, none)]) A3 p0.P.Job.Table.List_ ∧ Sl khermitagelaw10ActR w18.heap (okL [(0, some w.heap.size, none)]) A4 p0.A ∧ Ow kDeviceO 67 w18.heap (okL [(w2.heap.size, some w3.heap.size, some 67)]) (okL [(w2.heap.size, some w3.heap.size, some 132)]) A5 c_5 y2.Devices ∧ Ow kTableO 24 w18.heap (okL [(w2.heap.size, some w3.heap.size, some 24)]) (okL [(w2.heap.size, some w3.heap.size, some 45)]) A6 c_6 y2.Tables ∧ Ow kEntry 45 w18.heap (okL [(w2.heap.size, some w3.heap.size, some 45)]) (okL []) A7 c_7 y2.Job.Table.List_ ∧ Ext w w18 ∧ Box w18.heap b1 64 [.slice A1 p0.P.Devices.length c_1, .slice A2 p0.P.Tables.length c_2, .int .i64 p0.P.Job.Dev, .int .i64 p0.P.Job.At, .int .i64 p0.P.Job.Table.Dev, .int .i64 p0.P.Job.Table.Size, .slice A3 p0.P.Job.Table.List_.length c_3, .int .i64 p0.P.Next, .slice A4 p0.A.length c_4] ∧ Box w18.heap b2 61 [.slice A5 y2.Devices.length c_5, .slice A6 y2.Tables.length c_6, .int .i64 y2.Job.Dev, .int .i64 y2.Job.At, .int .i64 y2.Job.Table.Dev, .int .i64 y2.Job.Table.Size, .slice A7 y2.Job.Table.List_.length c_7, .int .i64 y2.Next] ∧ hermitagelaw11_ForeTells.j3 p0 k y2 y3 it12_2 (hermitagelaw11_ForeTells.l0 p0 k y2 y3 n1) bt82_4 = some r) ?_ ?_
      ·
       refine CW.lex [.W, .W, .W, .W, .L, .W, .W, .W] rfl ?_
       refine RW.pure tabOk 3 rfl ?_
       by_cases c8 : it12_2 = 8
       ·
        rw [if_pos c8] at H
        refine RW.bool 77 (b' := true) (beq_t c8) rfl ?_
        refine RW.pure tabOk 1 rfl ?_
        refine RW.load tabOk [.slice A4 p0.A.length c_4] (gb1_2.at 8) ⟨rfl, rfl, rfl, rfl⟩ rfl rfl rfl rfl ?_
        refine RW.pure tabOk 3 rfl ?_
        refine RW.done ?_
        exact NW.J fun a ha => ⟨(decide (0 < (p0.A.length : Int))), ha.sub ⟨rfl, rfl, rfl, rfl, rfl, rfl, trivial⟩, by omega, gF1_2, gF2_2, gF3_2, gF4_2, gF5_2, gF6_2, gF7_2, x0_2, gb1_2, gb2_2, H⟩
       ·
        rw [if_neg c8] at H
        refine RW.bool 77 (b' := false) (beq_f c8) rfl ?_
        refine RW.pure tabOk 5 rfl ?_
        refine RW.done ?_
        exact NW.J fun a ha => ⟨false, ha.sub ⟨rfl, rfl, rfl, rfl, rfl, rfl, trivial⟩, by omega, gF1_2, gF2_2, gF3_2, gF4_2, gF5_2, gF6_2, gF7_2, x0_2, gb1_2, gb2_2, H⟩
      intro a w18 hJ hp
      obtain ⟨bt82_4, hS, hle, gF1_4, gF2_4, gF3_4, gF4_4, gF5_4, gF6_4, gF7_4, x0_4, gb1_4, gb2_4, H⟩ := hJ
      unfold hermitagelaw11_ForeTells.j3 at H
      refine CW.go hp hS ?_
      by_cases c9 : bt82_4 = true
      ·
       rw [if_pos c9] at H
       refine CW.cond_t rfl (c9) ?_
       refine CW.lex [.W, .L, .W, .W, .L, .W] rfl ?_
       refine RW.pure tabOk 1 rfl ?_
       refine RW.load tabOk [.slice A4 p0.A.length c_4] (gb1_4.at 8) ⟨rfl, rfl, rfl, rfl⟩ rfl rfl rfl rfl ?_
       obtain ⟨g1, H⟩ := guard_some H
       obtain ⟨ad1, A8, c_8, e1, a1, l3, h112⟩ := khermitagelaw10ActR_at gF4_4 g1.1 g1.2
       refine RW.index tabOk g1.1 g1.2 e1 ⟨rfl, rfl, rfl, rfl⟩ rfl rfl rfl rfl rfl rfl ?_
       refine RW.pure tabOk 1 rfl ?_
       refine RW.load tabOk [.int .i64 ((rd p0.A 0).N)] ((a1.fld 1).take 1 rfl) ⟨rfl, rfl, rfl, rfl⟩ rfl rfl rfl rfl ?_
       refine RW.pure tabOk 1 rfl ?_
       refine RW.done ?_
       exact NW.J fun a ha => ⟨((rd p0.A 0).N), ha.sub ⟨rfl, rfl, rfl, rfl, rfl, trivial⟩, by omega, gF1_4, gF2_4, gF3_4, gF4_4, gF5_4, gF6_4, gF7_4, x0_4, gb1_4, gb2_4, H⟩
      ·
       rw [if_neg c9] at H
       refine CW.cond_f rfl (bool_f c9) ?_
       refine CW.skip ?_
       exact NW.J fun a ha => ⟨it12_2, ha.sub ⟨rfl, rfl, rfl, rfl, rfl, trivial⟩, by omega, gF1_4, gF2_4, gF3_4, gF4_4, gF5_4, gF6_4, gF7_4, x0_4, gb1_4, gb2_4, H⟩
     intro a w17 hJ hp
     obtain ⟨it13_3, hS, hle, gF1_3, gF2_3, gF3_3, gF4_3, gF5_3, gF6_3, gF7_3, x0_3, gb1_3, gb2_3, H⟩ := hJ
     unfold hermitagelaw11_ForeTells.j2 at H
     refine CW.go hp hS ?_
     refine CW.seq ?_
     refine CW.lex [.L, .W, .X, .W, .W, .W, .W, .W] rfl ?_
     refine RW.load tabOk [.slice A5 y2.Devices.length c_5, .slice A6 y2.Tables.length c_6, .int .i64 y2.Job.Dev, .int .i64 y2.Job.At, .int .i64 y2.Job.Table.Dev, .int .i64 y2.Job.Table.Size, .slice A7 y2.Job.Table.List_.length c_7, .int .i64 y2.Next] (gb2_3.at 0) ⟨rfl, rfl, rfl, rfl⟩ rfl rfl rfl rfl ?_
     refine RW.pure tabOk 1 rfl ?_
     obtain ⟨y10, h113, H⟩ := bind_some H
     refine RW.callF (.inl rfl) ent33 ⟨rfl, rfl, rfl, rfl⟩ rfl rfl (fore_Steps.calls k y2 A5 c_5 A6 c_6 A7 c_7 it13_3 _ _ (gF5_3.all.to kDevice_ro rfl) gF5_3.len (gF6_3.all.to kTable_ro rfl) gF6_3.len gF7_3.all gF7_3.len h113) ?_
     rintro _ w19 ⟨rfl, x14⟩
     refine ⟨_, rfl, x14, ?_⟩
     have sx14 := x14.size
     refine RW.pure tabOk 5 rfl ?_
     refine RW.done ?_
     refine NW.next ?_
     refine CW.seq ?_
     refine CW.lex [.L, .W, .X, .W, .W, .W, .W, .W] rfl ?_
     have h114 := gb2_3.ext x14
     refine RW.load tabOk [.slice A5 y2.Devices.length c_5, .slice A6 y2.Tables.length c_6, .int .i64 y2.Job.Dev, .int .i64 y2.Job.At, .int .i64 y2.Job.Table.Dev, .int .i64 y2.Job.Table.Size, .slice A7 y2.Job.Table.List_.length c_7, .int .i64 y2.Next] (h114.at 0) ⟨rfl, rfl, rfl, rfl⟩ rfl rfl rfl rfl ?_
     refine RW.pure tabOk 1 rfl ?_
     have h115 := gF5_3.ext x14
     have h116 := gF6_3.ext x14
     have h117 := gF7_3.ext x14
     obtain ⟨y11, h118, H⟩ := bind_some H
     refine RW.callF (.inl rfl) ent34 ⟨rfl, rfl, rfl, rfl⟩ rfl rfl (fore_Fits.calls k y2 A5 c_5 A6 c_6 A7 c_7 it13_3 _ _ (h115.all.to kDevice_ro rfl) h115.len (h116.all.to kTable_ro rfl) h116.len h117.all h117.len h118) ?_
     rintro _ w20 ⟨rfl, x15⟩
     refine ⟨_, rfl, x15, ?_⟩
     have sx15 := x15.size
     refine RW.pure tabOk 5 rfl ?_
     refine RW.done ?_
     refine NW.next ?_
     refine CW.seq ?_
     refine CW.lex [.W, .W] rfl ?_
     refine RW.pure tabOk 2 rfl ?_
     refine RW.done ?_
     refine NW.next ?_
     refine CW.seq ?_
     refine CW.lex [.W, .W] rfl ?_
     refine RW.pure tabOk 2 rfl ?_
     refine RW.done ?_
     refine NW.next ?_
     refine CW.seqJ (fun a w21 => ∃ (it18_5 : Int) (it19_5 : Int) (it20_5 : Int) (bt21_5 : Bool), Sat 162 [(1, .pointer (some ⟨b1, 0, none⟩)), (3, .pointer (some ⟨b2, 0, none⟩)), (4, .bool y3), (12, .int .i64 it12_2), (14, .int .i64 y10.1), (15, .int .i64 y10.2), (16, .bool y11.1), (17, .int .i64 y11.2), (18, .int .i64 it18_5), (19, .int .i64 it19_5), (20, .int .i64 it20_5), (21, .bool bt21_5)] a ∧ w20.heap.size ≤ w21.heap.size ∧ Sl kDeviceR w21.heap (okL [(0, some w.heap.size, none)]) A1 p0.P.Devices ∧ Sl kTableR w21.heap (okL [(0, some w.heap.size, none)]) A2 p0.P.Tables ∧ Sl kEntry w21.heap (okL [(0, some w.heap.size, none)]) A3 p0.P.Job.Table.List_ ∧ Sl khermitagelaw10ActR w21.heap (okL [(0, some w.heap.size, none)]) A4 p0.A ∧ Ow kDeviceO 67 w21.heap (okL [(w2.heap.size, some w3.heap.size, some 67)]) (okL [(w2.heap.size, some w3.heap.size, some 132)]) A5 c_5 y2.Devices ∧ Ow kTableO 24 w21.heap (okL [(w2.heap.size, some w3.heap.size, some 24)]) (okL [(w2.heap.size, some w3.heap.size, some 45)]) A6 c_6 y2.Tables ∧ Ow kEntry 45 w21.heap (okL [(w2.heap.size, some w3.heap.size, some 45)]) (okL []) A7 c_7 y2.Job.Table.List_ ∧ Ext w w21 ∧ Box w21.heap b1 64 [.slice A1 p0.P.Devices.length c_1, .slice A2 p0.P.Tables.length c_2, .int .i64 p0.P.Job.Dev, .int .i64 p0.P.Job.At, .int .i64 p0.P.Job.Table.Dev, .int .i64 p0.P.Job.Table.Size, .slice A3 p0.P.Job.Table.List_.length c_3, .int .i64 p0.P.Next, .slice A4 p0.A.length c_4] ∧ Box w21.heap b2 61 [.slice A5 y2.Devices.length c_5, .slice A6 y2.Tables.length c_6, .int .i64 y2.Job.Dev, .int .i64 y2.Job.At, .int .i64 y2.Job.Table.Dev, .int .i64 y2.Job.Table.Size, .slice A7 y2.Job.Table.List_.length c_7, .int .i64 y2.Next] ∧ hermitagelaw11_ForeTells.j4 it12_2 y10 y11 (hermitagelaw11_ForeTells.l0 p0 k y2 y3 n1) it18_5 it19_5 it20_5 bt21_5 = some r) ?_ ?_
     ·
      refine CW.seq ?_
      refine CW.lex [.W] rfl ?_
      refine RW.pure tabOk 1 rfl ?_
      refine RW.done ?_
      refine NW.next ?_
      by_cases c10 : y3 = true
      ·
       rw [if_pos c10] at H
       refine CW.cond_t rfl (c10) ?_
       refine CW.seq ?_
       refine CW.lex [.W] rfl ?_
       refine RW.pure tabOk 1 rfl ?_
       refine RW.done ?_
       refine NW.next ?_
       refine CW.seqJ (fun a w22 => ∃ (it20_6 : Int) (bt21_6 : Bool), Sat 162 [(1, .pointer (some ⟨b1, 0, none⟩)), (3, .pointer (some ⟨b2, 0, none⟩)), (4, .bool y3), (12, .int .i64 it12_2), (13, .int .i64 it13_3), (14, .int .i64 y10.1), (15, .int .i64 y10.2), (16, .bool y11.1), (17, .int .i64 y11.2), (18, .int .i64 1), (19, .int .i64 0), (20, .int .i64 it20_6), (21, .bool bt21_6)] a ∧ w20.heap.size ≤ w22.heap.size ∧ Sl kDeviceR w22.heap (okL [(0, some w.heap.size, none)]) A1 p0.P.Devices ∧ Sl kTableR w22.heap (okL [(0, some w.heap.size, none)]) A2 p0.P.Tables ∧ Sl kEntry w22.heap (okL [(0, some w.heap.size, none)]) A3 p0.P.Job.Table.List_ ∧ Sl khermitagelaw10ActR w22.heap (okL [(0, some w.heap.size, none)]) A4 p0.A ∧ Ow kDeviceO 67 w22.heap (okL [(w2.heap.size, some w3.heap.size, some 67)]) (okL [(w2.heap.size, some w3.heap.size, some 132)]) A5 c_5 y2.Devices ∧ Ow kTableO 24 w22.heap (okL [(w2.heap.size, some w3.heap.size, some 24)]) (okL [(w2.heap.size, some w3.heap.size, some 45)]) A6 c_6 y2.Tables ∧ Ow kEntry 45 w22.heap (okL [(w2.heap.size, some w3.heap.size, some 45)]) (okL []) A7 c_7 y2.Job.Table.List_ ∧ Ext w w22 ∧ Box w22.heap b1 64 [.slice A1 p0.P.Devices.length c_1, .slice A2 p0.P.Tables.length c_2, .int .i64 p0.P.Job.Dev, .int .i64 p0.P.Job.At, .int .i64 p0.P.Job.Table.Dev, .int .i64 p0.P.Job.Table.Size, .slice A3 p0.P.Job.Table.List_.length c_3, .int .i64 p0.P.Next, .slice A4 p0.A.length c_4] ∧ Box w22.heap b2 61 [.slice A5 y2.Devices.length c_5, .slice A6 y2.Tables.length c_6, .int .i64 y2.Job.Dev, .int .i64 y2.Job.At, .int .i64 y2.Job.Table.Dev, .int .i64 y2.Job.Table.Size, .slice A7 y2.Job.Table.List_.length c_7, .int .i64 y2.Next] ∧ hermitagelaw11_ForeTells.j5 p0 k it12_2 it13_3 y10 y11 (hermitagelaw11_ForeTells.l0 p0 k y2 y3 n1) it20_6 bt21_6 = some r) ?_ ?_
       ·
        refine CW.seq ?_
        refine CW.lex [.W, .W, .L, .W, .X, .W] rfl ?_
        refine RW.pure tabOk 2 rfl ?_
        have h119 := (gb1_3.ext x14).ext x15
        refine RW.load tabOk [.slice A1 p0.P.Devices.length c_1] ((h119.at 0).take 1 rfl) ⟨rfl, rfl, rfl, rfl⟩ rfl rfl rfl rfl ?_
        refine RW.pure tabOk 1 rfl ?_
        have h120 := (gF1_3.ext x14).ext x15
        obtain ⟨y12, h121, H⟩ := bind_some H
        refine RW.callF (.inl rfl) ent35 ⟨rfl, rfl, rfl, rfl⟩ rfl rfl (hermitageref7_At.calls k A1 c_1 p0.P.Devices it13_3 _ _ h120.all hl1 h121) ?_
        rintro _ w23 ⟨rfl, x16⟩
        refine ⟨_, rfl, x16, ?_⟩
        have sx16 := x16.size
        refine RW.pure tabOk 1 rfl ?_
        refine RW.done ?_
        refine NW.next ?_
        refine CW.seq ?_
        refine CW.lex [.W, .W] rfl ?_
        refine RW.pure tabOk 2 rfl ?_
        refine RW.done ?_
        refine NW.next ?_
        by_cases c11 : 0 ≤ y12
        ·
         rw [if_pos c11] at H
         refine CW.cond_t rfl (decide_eq_true c11) ?_
         refine CW.lex [.W, .L, .W, .X, .W, .W] rfl ?_
         refine RW.pure tabOk 1 rfl ?_
         have h122 := h119.ext x16
         refine RW.load tabOk [.slice A1 p0.P.Devices.length c_1, .slice A2 p0.P.Tables.length c_2, .int .i64 p0.P.Job.Dev, .int .i64 p0.P.Job.At, .int .i64 p0.P.Job.Table.Dev, .int .i64 p0.P.Job.Table.Size, .slice A3 p0.P.Job.Table.List_.length c_3, .int .i64 p0.P.Next] ((h122.at 0).take 8 rfl) ⟨rfl, rfl, rfl, rfl⟩ rfl rfl rfl rfl ?_
         refine RW.pure tabOk 1 rfl ?_
         have h123 := h120.ext x16
         have h124 := ((gF2_3.ext x14).ext x15).ext x16
         have h125 := ((gF3_3.ext x14).ext x15).ext x16
         obtain ⟨y13, h126, H⟩ := bind_some H
         refine RW.callF (.inl rfl) ent36 ⟨rfl, rfl, rfl, rfl⟩ rfl rfl (hermitageref9_Fits.calls k p0.P A1 c_1 A2 c_2 A3 c_3 y12 _ _ h123.all hl1 h124.all hl2 h125.all hl3 h126) ?_
         rintro _ w24 ⟨rfl, x17⟩
         refine ⟨_, rfl, x17, ?_⟩
         have sx17 := x17.size
         refine RW.pure tabOk 2 rfl ?_
         refine RW.done ?_
         have h127 := h123.ext x17
         have h128 := h124.ext x17
         have h129 := h125.ext x17
         have h130 := (((gF4_3.ext x14).ext x15).ext x16).ext x17
         have h131 := ((h115.ext x15).ext x16).ext x17
         have h132 := ((h116.ext x15).ext x16).ext x17
         have h133 := ((h117.ext x15).ext x16).ext x17
         have h134 := Ext.trans (Ext.trans (Ext.trans (Ext.trans x0_3 x14) x15) x16) x17
         have h135 := h122.ext x17
         have h136 := ((h114.ext x15).ext x16).ext x17
         exact NW.J fun a ha => ⟨0, y13, ha.sub ⟨rfl, rfl, rfl, rfl, rfl, rfl, rfl, rfl, rfl, rfl, rfl, rfl, rfl, trivial⟩, by omega, h127, h128, h129, h130, h131, h132, h133, h134, h135, h136, H⟩
        ·
         rw [if_neg c11] at H
         refine CW.cond_f rfl (decide_eq_false c11) ?_
         refine CW.skip ?_
         have h137 := h120.ext x16
         have h138 := ((gF2_3.ext x14).ext x15).ext x16
         have h139 := ((gF3_3.ext x14).ext x15).ext x16
         have h140 := ((gF4_3.ext x14).ext x15).ext x16
         have h141 := (h115.ext x15).ext x16
         have h142 := (h116.ext x15).ext x16
         have h143 := (h117.ext x15).ext x16
         have h144 := Ext.trans (Ext.trans (Ext.trans x0_3 x14) x15) x16
         have h145 := h119.ext x16
         have h146 := (h114.ext x15).ext x16
         exact NW.J fun a ha => ⟨3, false, ha.sub ⟨rfl, rfl, rfl, rfl, rfl, rfl, rfl, rfl, rfl, rfl, rfl, rfl, rfl, trivial⟩, by omega, h137, h138, h139, h140, h141, h142, h143, h144, h145, h146, H⟩
       intro a w22 hJ hp
       obtain ⟨it20_6, bt21_6, hS, hle, gF1_6, gF2_6, gF3_6, gF4_6, gF5_6, gF6_6, gF7_6, x0_6, gb1_6, gb2_6, H⟩ := hJ
       unfold hermitagelaw11_ForeTells.j5 at H
       refine CW.go hp hS ?_
       refine CW.seq ?_
       refine CW.lex [.W, .X] rfl ?_
       refine RW.pure tabOk 1 rfl ?_
       obtain ⟨y14, h147, H⟩ := bind_some H
       refine RW.callF (.inl rfl) ent37 ⟨rfl, rfl, rfl, rfl⟩ rfl rfl (hermitageref0_Between.calls it13_3 1 64 _ _ h147) ?_
       rintro _ w25 ⟨rfl, x18⟩
       refine ⟨_, rfl, x18, ?_⟩
       have sx18 := x18.size
       refine RW.done ?_
       refine NW.next ?_
       by_cases c12 : y14 = true
       ·
        rw [if_pos c12] at H
        refine CW.cond_t rfl (c12) ?_
        refine CW.seq ?_
        refine CW.lex [.W] rfl ?_
        refine RW.pure tabOk 1 rfl ?_
        refine RW.done ?_
        refine NW.next ?_
        refine CW.seq ?_
        refine CW.lex [.W, .W, .W, .L, .W] rfl ?_
        refine RW.pure tabOk 3 rfl ?_
        have h148 := gb1_6.ext x18
        refine RW.load tabOk [.int .i64 p0.P.Job.Dev] ((h148.at 2).take 1 rfl) ⟨rfl, rfl, rfl, rfl⟩ rfl rfl rfl rfl ?_
        refine RW.pure tabOk 1 rfl ?_
        refine RW.done ?_
        refine NW.next ?_
        by_cases c13 : p0.P.Job.Dev = 0
        ·
         rw [if_pos c13] at H
         refine CW.cond_f rfl (bne_f c13) ?_
         refine CW.skip ?_
         have h149 := gF1_6.ext x18
         have h150 := gF2_6.ext x18
         have h151 := gF3_6.ext x18
         have h152 := gF4_6.ext x18
         have h153 := gF5_6.ext x18
         have h154 := gF6_6.ext x18
         have h155 := gF7_6.ext x18
         have h156 := Ext.trans x0_6 x18
         have h157 := gb2_6.ext x18
         exact NW.J fun a ha => ⟨9, 0, it20_6, bt21_6, ha.sub ⟨rfl, rfl, rfl, rfl, rfl, rfl, rfl, rfl, rfl, rfl, rfl, rfl, trivial⟩, by omega, h149, h150, h151, h152, h153, h154, h155, h156, h148, h157, H⟩
        ·
         rw [if_neg c13] at H
         refine CW.cond_t rfl (bne_t c13) ?_
         refine CW.seq ?_
         refine CW.lex [.W, .L, .X, .W, .W, .W, .W, .W] rfl ?_
         refine RW.pure tabOk 1 rfl ?_
         refine RW.load tabOk [.slice A1 p0.P.Devices.length c_1, .slice A2 p0.P.Tables.length c_2, .int .i64 p0.P.Job.Dev, .int .i64 p0.P.Job.At, .int .i64 p0.P.Job.Table.Dev, .int .i64 p0.P.Job.Table.Size, .slice A3 p0.P.Job.Table.List_.length c_3, .int .i64 p0.P.Next] ((h148.at 0).take 8 rfl) ⟨rfl, rfl, rfl, rfl⟩ rfl rfl rfl rfl ?_
         have h158 := gF1_6.ext x18
         have h159 := gF2_6.ext x18
         have h160 := gF3_6.ext x18
         obtain ⟨y15, h161, H⟩ := bind_some H
         refine RW.callF (.inl rfl) ent38 ⟨rfl, rfl, rfl, rfl⟩ rfl rfl (hermitageref9_Rest.calls k p0.P A1 c_1 A2 c_2 A3 c_3 _ _ h158.all hl1 h159.all hl2 h160.all hl3 h161) ?_
         rintro _ w26 ⟨rfl, x19⟩
         refine ⟨_, rfl, x19, ?_⟩
         have sx19 := x19.size
         refine RW.pure tabOk 5 rfl ?_
         refine RW.done ?_
         refine NW.next ?_
         refine CW.ord [0, 0, 3, 7, 0, 31, 0, 127] (ofL [(0, .W), (1, .W), (2, .W), (3, .W), (4, .W), (5, .W), (6, .W), (7, .W)] .nil) mixed (by kernel_rfl) ?_
         intro w27 x20
         have sx20 := x20.size
         refine RW.pure tabOk 5 rfl ?_
         obtain ⟨g2, H⟩ := guard_some H
         refine RW.div g2 ⟨rfl, rfl, rfl, rfl⟩ rfl rfl rfl rfl ?_
         refine RW.pure tabOk 2 rfl ?_
         refine RW.done ?_
         have h162 := (h158.ext x19).ext x20
         have h163 := (h159.ext x19).ext x20
         have h164 := (h160.ext x19).ext x20
         have h165 := ((gF4_6.ext x18).ext x19).ext x20
         have h166 := ((gF5_6.ext x18).ext x19).ext x20
         have h167 := ((gF6_6.ext x18).ext x19).ext x20
         have h168 := ((gF7_6.ext x18).ext x19).ext x20
         have h169 := Ext.trans (Ext.trans (Ext.trans x0_6 x18) x19) x20
         have h170 := (h148.ext x19).ext x20
         have h171 := ((gb2_6.ext x18).ext x19).ext x20
         exact NW.J fun a ha => ⟨0, (w64 ((w64 ((w64 (y15.1 + it13_3)) - 1)).tdiv it13_3)), it20_6, bt21_6, ha.sub ⟨rfl, rfl, rfl, rfl, rfl, rfl, rfl, rfl, rfl, rfl, rfl, rfl, trivial⟩, by omega, h162, h163, h164, h165, h166, h167, h168, h169, h170, h171, H⟩
       ·
        rw [if_neg c12] at H
        refine CW.cond_f rfl (bool_f c12) ?_
        refine CW.skip ?_
        have h172 := gF1_6.ext x18
        have h173 := gF2_6.ext x18
        have h174 := gF3_6.ext x18
        have h175 := gF4_6.ext x18
        have h176 := gF5_6.ext x18
        have h177 := gF6_6.ext x18
        have h178 := gF7_6.ext x18
        have h179 := Ext.trans x0_6 x18
        have h180 := gb1_6.ext x18
        have h181 := gb2_6.ext x18
        exact NW.J fun a ha => ⟨1, 0, it20_6, bt21_6, ha.sub ⟨rfl, rfl, rfl, rfl, rfl, rfl, rfl, rfl, rfl, rfl, rfl, rfl, trivial⟩, by omega, h172, h173, h174, h175, h176, h177, h178, h179, h180, h181, H⟩
      ·
       rw [if_neg c10] at H
       refine CW.cond_f rfl (bool_f c10) ?_
       refine CW.skip ?_
       have h182 := (gF1_3.ext x14).ext x15
       have h183 := (gF2_3.ext x14).ext x15
       have h184 := (gF3_3.ext x14).ext x15
       have h185 := (gF4_3.ext x14).ext x15
       have h186 := h115.ext x15
       have h187 := h116.ext x15
       have h188 := h117.ext x15
       have h189 := Ext.trans (Ext.trans x0_3 x14) x15
       have h190 := (gb1_3.ext x14).ext x15
       have h191 := h114.ext x15
       exact NW.J fun a ha => ⟨1, 0, 1, false, ha.sub ⟨rfl, rfl, rfl, rfl, rfl, rfl, rfl, rfl, rfl, rfl, rfl, rfl, trivial⟩, by omega, h182, h183, h184, h185, h186, h187, h188, h189, h190, h191, H⟩
     intro a w21 hJ hp
     obtain ⟨it18_5, it19_5, it20_5, bt21_5, hS, hle, gF1_5, gF2_5, gF3_5, gF4_5, gF5_5, gF6_5, gF7_5, x0_5, gb1_5, gb2_5, H⟩ := hJ
     unfold hermitagelaw11_ForeTells.j4 at H
     refine CW.go hp hS ?_
     refine CW.seqJ (fun a w28 => ∃ (bt150_7 : Bool), Sat 162 [(1, .pointer (some ⟨b1, 0, none⟩)), (3, .pointer (some ⟨b2, 0, none⟩)), (4, .bool y3), (12, .int .i64 it12_2), (150, .bool bt150_7)] a ∧ w21.heap.size ≤ w28.heap.size ∧ Sl kDeviceR w28.heap (okL [(0, some w.heap.size, none)]) A1 p0.P.Devices ∧ Sl kTableR w28.heap (okL [(0, some w.heap.size, none)]) A2 p0.P.Tables ∧ Sl kEntry w28.heap (okL [(0, some w.heap.size, none)]) A3 p0.P.Job.Table.List_ ∧ Sl khermitagelaw10ActR w28.heap (okL [(0, some w.heap.size, none)]) A4 p0.A ∧ Ow kDeviceO 67 w28.heap (okL [(w2.heap.size, some w3.heap.size, some 67)]) (okL [(w2.heap.size, some w3.heap.size, some 132)]) A5 c_5 y2.Devices ∧ Ow kTableO 24 w28.heap (okL [(w2.heap.size, some w3.heap.size, some 24)]) (okL [(w2.heap.size, some w3.heap.size, some 45)]) A6 c_6 y2.Tables ∧ Ow kEntry 45 w28.heap (okL [(w2.heap.size, some w3.heap.size, some 45)]) (okL []) A7 c_7 y2.Job.Table.List_ ∧ Ext w w28 ∧ Box w28.heap b1 64 [.slice A1 p0.P.Devices.length c_1, .slice A2 p0.P.Tables.length c_2, .int .i64 p0.P.Job.Dev, .int .i64 p0.P.Job.At, .int .i64 p0.P.Job.Table.Dev, .int .i64 p0.P.Job.Table.Size, .slice A3 p0.P.Job.Table.List_.length c_3, .int .i64 p0.P.Next, .slice A4 p0.A.length c_4] ∧ Box w28.heap b2 61 [.slice A5 y2.Devices.length c_5, .slice A6 y2.Tables.length c_6, .int .i64 y2.Job.Dev, .int .i64 y2.Job.At, .int .i64 y2.Job.Table.Dev, .int .i64 y2.Job.Table.Size, .slice A7 y2.Job.Table.List_.length c_7, .int .i64 y2.Next] ∧ hermitagelaw11_ForeTells.j6 it12_2 (hermitagelaw11_ForeTells.l0 p0 k y2 y3 n1) bt150_7 = some r) ?_ ?_
     ·
      refine CW.lex [.W, .X, .W, .W, .W, .W, .W, .W, .W, .W, .W, .X, .W, .W, .W, .W, .W, .W, .W, .W] rfl ?_
      refine RW.pure tabOk 1 rfl ?_
      obtain ⟨y16, h192, H⟩ := bind_some H
      refine RW.callF (.inl rfl) ent25 ⟨rfl, rfl, rfl, rfl⟩ rfl rfl (hermitagelaw11_num.calls y10.2 _ _ h192) ?_
      rintro _ w29 ⟨rfl, x21⟩
      refine ⟨_, rfl, x21, ?_⟩
      have sx21 := x21.size
      refine RW.pure tabOk 3 rfl ?_
      by_cases c14 : y16 = it18_5
      ·
       rw [if_pos c14] at H
       refine RW.bool 135 (b' := false) (bne_f c14) rfl ?_
       refine RW.pure tabOk 5 rfl ?_
       by_cases c15 : y10.1 = it19_5
       ·
        rw [if_pos c15] at H
        refine RW.bool 140 (b' := false) (bne_f c15) rfl ?_
        refine RW.pure tabOk 1 rfl ?_
        obtain ⟨y17, h193, H⟩ := bind_some H
        refine RW.callF (.inl rfl) ent25 ⟨rfl, rfl, rfl, rfl⟩ rfl rfl (hermitagelaw11_num.calls y11.2 _ _ h193) ?_
        rintro _ w30 ⟨rfl, x22⟩
        refine ⟨_, rfl, x22, ?_⟩
        have sx22 := x22.size
        refine RW.pure tabOk 4 rfl ?_
        by_cases c16 : y17 = it20_5
        ·
         rw [if_pos c16] at H
         refine RW.bool 146 (b' := false) (bne_f c16) rfl ?_
         refine RW.pure tabOk 4 rfl ?_
         refine RW.done ?_
         have h194 := (gF1_5.ext x21).ext x22
         have h195 := (gF2_5.ext x21).ext x22
         have h196 := (gF3_5.ext x21).ext x22
         have h197 := (gF4_5.ext x21).ext x22
         have h198 := (gF5_5.ext x21).ext x22
         have h199 := (gF6_5.ext x21).ext x22
         have h200 := (gF7_5.ext x21).ext x22
         have h201 := Ext.trans (Ext.trans x0_5 x21) x22
         have h202 := (gb1_5.ext x21).ext x22
         have h203 := (gb2_5.ext x21).ext x22
         exact NW.J fun a ha => ⟨(!(y11.1 == bt21_5)), ha.sub ⟨rfl, rfl, rfl, rfl, rfl, trivial⟩, by omega, h194, h195, h196, h197, h198, h199, h200, h201, h202, h203, H⟩
        ·
         rw [if_neg c16] at H
         refine RW.bool 146 (b' := true) (bne_t c16) rfl ?_
         refine RW.pure tabOk 4 rfl ?_
         refine RW.done ?_
         have h204 := (gF1_5.ext x21).ext x22
         have h205 := (gF2_5.ext x21).ext x22
         have h206 := (gF3_5.ext x21).ext x22
         have h207 := (gF4_5.ext x21).ext x22
         have h208 := (gF5_5.ext x21).ext x22
         have h209 := (gF6_5.ext x21).ext x22
         have h210 := (gF7_5.ext x21).ext x22
         have h211 := Ext.trans (Ext.trans x0_5 x21) x22
         have h212 := (gb1_5.ext x21).ext x22
         have h213 := (gb2_5.ext x21).ext x22
         exact NW.J fun a ha => ⟨true, ha.sub ⟨rfl, rfl, rfl, rfl, rfl, trivial⟩, by omega, h204, h205, h206, h207, h208, h209, h210, h211, h212, h213, H⟩
       ·
        rw [if_neg c15] at H
        refine RW.bool 140 (b' := true) (bne_t c15) rfl ?_
        refine RW.pure tabOk 10 rfl ?_
        refine RW.done ?_
        have h214 := gF1_5.ext x21
        have h215 := gF2_5.ext x21
        have h216 := gF3_5.ext x21
        have h217 := gF4_5.ext x21
        have h218 := gF5_5.ext x21
        have h219 := gF6_5.ext x21
        have h220 := gF7_5.ext x21
        have h221 := Ext.trans x0_5 x21
        have h222 := gb1_5.ext x21
        have h223 := gb2_5.ext x21
        exact NW.J fun a ha => ⟨true, ha.sub ⟨rfl, rfl, rfl, rfl, rfl, trivial⟩, by omega, h214, h215, h216, h217, h218, h219, h220, h221, h222, h223, H⟩
      ·
       rw [if_neg c14] at H
       refine RW.bool 135 (b' := true) (bne_t c14) rfl ?_
       refine RW.pure tabOk 15 rfl ?_
       refine RW.done ?_
       have h224 := gF1_5.ext x21
       have h225 := gF2_5.ext x21
       have h226 := gF3_5.ext x21
       have h227 := gF4_5.ext x21
       have h228 := gF5_5.ext x21
       have h229 := gF6_5.ext x21
       have h230 := gF7_5.ext x21
       have h231 := Ext.trans x0_5 x21
       have h232 := gb1_5.ext x21
       have h233 := gb2_5.ext x21
       exact NW.J fun a ha => ⟨true, ha.sub ⟨rfl, rfl, rfl, rfl, rfl, trivial⟩, by omega, h224, h225, h226, h227, h228, h229, h230, h231, h232, h233, H⟩
     intro a w28 hJ hp
     obtain ⟨bt150_7, hS, hle, gF1_7, gF2_7, gF3_7, gF4_7, gF5_7, gF6_7, gF7_7, x0_7, gb1_7, gb2_7, H⟩ := hJ
     unfold hermitagelaw11_ForeTells.j6 at H
     refine CW.go hp hS ?_
     by_cases c17 : bt150_7 = true
     ·
      rw [if_pos c17] at H
      refine CW.cond_t rfl (c17) ?_
      refine CW.seq ?_
      refine CW.lex [.W] rfl ?_
      refine RW.pure tabOk 1 rfl ?_
      refine RW.done ?_
      refine NW.next ?_
      refine CW.ret ?_
      refine NW.ret_block (NW.ret_then (NW.ret_then (NW.ret_block (NW.ret_then ?_))))
      obtain rfl := Option.some.inj H
      exact NW.ret1 rfl (by rfl) ⟨rfl, x0_7⟩
     ·
      rw [if_neg c17] at H
      refine CW.cond_f rfl (bool_f c17) ?_
      refine CW.skip ?_
      refine NW.norm_block (NW.next ?_)
      refine CW.lex [.W, .W, .W] rfl ?_
      refine RW.pure tabOk 3 rfl ?_
      refine RW.done ?_
      exact NW.J fun a ha => ⟨n1, Nat.lt_succ_self n1, (w64 (it12_2 + 1)), ha.sub ⟨rfl, rfl, rfl, rfl, trivial⟩, by omega, gF1_7, gF2_7, gF3_7, gF4_7, gF5_7, gF6_7, gF7_7, x0_7, gb1_7, gb2_7, H⟩
    ·
     rw [if_neg c7] at H
     refine CW.cond_f rfl (decide_eq_false c7) ?_
     refine CW.exit ?_
     refine NW.exit_then (NW.exit_then (NW.exit_hit ?_))
     refine NW.next ?_
     refine CW.seq ?_
     refine CW.lex [.L, .W, .L, .X, .W, .X, .W, .W, .W, .X, .W, .W] rfl ?_
     refine RW.load tabOk [.slice A5 y2.Devices.length c_5, .slice A6 y2.Tables.length c_6, .int .i64 y2.Job.Dev, .int .i64 y2.Job.At, .int .i64 y2.Job.Table.Dev, .int .i64 y2.Job.Table.Size, .slice A7 y2.Job.Table.List_.length c_7, .int .i64 y2.Next] (gb2_2.at 0) ⟨rfl, rfl, rfl, rfl⟩ rfl rfl rfl rfl ?_
     refine RW.pure tabOk 1 rfl ?_
     refine RW.load tabOk [.slice A1 p0.P.Devices.length c_1, .slice A2 p0.P.Tables.length c_2, .int .i64 p0.P.Job.Dev, .int .i64 p0.P.Job.At, .int .i64 p0.P.Job.Table.Dev, .int .i64 p0.P.Job.Table.Size, .slice A3 p0.P.Job.Table.List_.length c_3, .int .i64 p0.P.Next] ((gb1_2.at 0).take 8 rfl) ⟨rfl, rfl, rfl, rfl⟩ rfl rfl rfl rfl ?_
     obtain ⟨y18, h234, H⟩ := bind_some H
     refine RW.callF (.inl rfl) ent39 ⟨rfl, rfl, rfl, rfl⟩ rfl rfl (hermitageref0_EqPool.calls k y2 A5 c_5 A6 c_6 A7 c_7 p0.P A1 c_1 A2 c_2 A3 c_3 _ _ (gF5_2.all.to kDevice_ro rfl) gF5_2.len (gF6_2.all.to kTable_ro rfl) gF6_2.len gF7_2.all gF7_2.len gF1_2.all hl1 gF2_2.all hl2 gF3_2.all hl3 h234) ?_
     rintro _ w31 ⟨rfl, x23⟩
     refine ⟨_, rfl, x23, ?_⟩
     have sx23 := x23.size
     refine RW.pure tabOk 1 rfl ?_
     by_cases c18 : y18 = true
     ·
      rw [if_pos c18] at H
      refine RW.bool 155 (b' := true) (c18) rfl ?_
      obtain ⟨y19, h235, H⟩ := bind_some H
      refine RW.callF (.inl rfl) ent11 ⟨rfl, rfl, rfl, rfl⟩ rfl rfl (hermitagelaw0_Within.calls 3 2 _ _ h235) ?_
      rintro _ w32 ⟨rfl, x24⟩
      refine ⟨_, rfl, x24, ?_⟩
      have sx24 := x24.size
      refine RW.pure tabOk 3 rfl ?_
      by_cases c19 : y19 = 1
      ·
       rw [if_pos c19] at H
       refine RW.bool 159 (b' := true) (beq_t c19) rfl ?_
       obtain ⟨y20, h236, H⟩ := bind_some H
       refine RW.callF (.inl rfl) ent26 ⟨rfl, rfl, rfl, rfl⟩ rfl rfl (hermitagelaw11_wakes.calls k _ _ h236) ?_
       rintro _ w33 ⟨rfl, x25⟩
       refine ⟨_, rfl, x25, ?_⟩
       have sx25 := x25.size
       refine RW.pure tabOk 2 rfl ?_
       refine RW.done ?_
       refine NW.next ?_
       refine CW.ret ?_
       obtain rfl := Option.some.inj H
       have h237 := Ext.trans (Ext.trans (Ext.trans x0_2 x23) x24) x25
       exact NW.ret1 rfl (by rfl) ⟨rfl, h237⟩
      ·
       rw [if_neg c19] at H
       refine RW.bool 159 (b' := false) (beq_f c19) rfl ?_
       refine RW.pure tabOk 3 rfl ?_
       refine RW.done ?_
       refine NW.next ?_
       refine CW.ret ?_
       obtain rfl := Option.some.inj H
       have h238 := Ext.trans (Ext.trans x0_2 x23) x24
       exact NW.ret1 rfl (by rfl) ⟨rfl, h238⟩
     ·
      rw [if_neg c18] at H
      refine RW.bool 155 (b' := false) (bool_f c18) rfl ?_
      refine RW.pure tabOk 7 rfl ?_
      refine RW.done ?_
      refine NW.next ?_
      refine CW.ret ?_
      obtain rfl := Option.some.inj H
      have h239 := Ext.trans x0_2 x23
      exact NW.ret1 rfl (by rfl) ⟨rfl, h239⟩

end Go.Proofs.Ytnaajldlloglkaa.W
