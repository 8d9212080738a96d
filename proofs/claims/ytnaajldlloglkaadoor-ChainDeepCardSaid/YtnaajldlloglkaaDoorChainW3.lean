/- Walks; printed by a program of the claim. -/
import Derived.Test.YtnaajldlloglkaaDoorChainW2
set_option linter.unusedVariables false
set_option linter.unusedSimpArgs false
namespace Go.Proofs.YtnaajldlloglkaaDoor.W
open Go.H Go.Proofs
set_option maxHeartbeats 20000000 in
set_option maxRecDepth 100000 in
theorem chain_Lose.calls (k : Nat) (p0 : Pool) (A1 : Option Addr) (c_1 : Nat) (A2 : Option Addr) (c_2 : Nat) (A3 : Option Addr) (c_3 : Nat) (A4 : Option Addr) (c_4 : Nat) (p1 : List Ptr) (r : Pool × Int) (w : World) (hs1 : Sl kDeviceR w.heap okAll A1 p0.Devices) (hl1 : p0.Devices.length ≤ c_1) (hs2 : Sl kTableR w.heap okAll A2 p0.Tables) (hl2 : p0.Tables.length ≤ c_2) (hs3 : Sl kEntry w.heap okAll A3 p0.Job.Table.List_) (hl3 : p0.Job.Table.List_.length ≤ c_3) (hs4 : Sl kPtr w.heap okAll A4 p1) (hl4 : p1.length ≤ c_4) {gT : Nat} (hG : Box w.heap 0 gT (arrI .u8 64 tz)) (H : chain_Lose.f k p0 p1 = some r) :
    Calls Tryd.prog 49 #[.agg #[.slice A1 p0.Devices.length c_1, .slice A2 p0.Tables.length c_2, .int .i64 p0.Job.Dev, .int .i64 p0.Job.At, .int .i64 p0.Job.Table.Dev, .int .i64 p0.Job.Table.Size, .slice A3 p0.Job.Table.List_.length c_3, .int .i64 p0.Next], .slice A4 p1.length c_4] w fun e w' => ∃ (B1 : Option Addr) (d1 : Nat) (B2 : Option Addr) (d2 : Nat) (B3 : Option Addr) (d3 : Nat), e = .returned (.tuple #[.agg #[.slice B1 r.1.Devices.length d1, .slice B2 r.1.Tables.length d2, .int .i64 r.1.Job.Dev, .int .i64 r.1.Job.At, .int .i64 r.1.Job.Table.Dev, .int .i64 r.1.Job.Table.Size, .slice B3 r.1.Job.Table.List_.length d3, .int .i64 r.1.Next], .int .i64 r.2]) ∧ Ext w w' ∧ Ow kDeviceO 84 w'.heap (okL [(w.heap.size, none, some 84)]) (okL [(w.heap.size, none, some 93)]) B1 d1 r.1.Devices ∧ Ow kTableO 75 w'.heap (okL [(w.heap.size, none, some 75)]) (okL [(w.heap.size, none, some 86)]) B2 d2 r.1.Tables ∧ Ow kEntry 86 w'.heap (okL [(w.heap.size, none, some 86)]) (okL []) B3 d3 r.1.Job.Table.List_ := by
 have h1 : Sl kDeviceR w.heap (okL [(0, some w.heap.size, none)]) A1 p0.Devices := hs1.old _ rfl
 have h2 : Sl kTableR w.heap (okL [(0, some w.heap.size, none)]) A2 p0.Tables := hs2.old _ rfl
 have h3 : Sl kEntry w.heap (okL [(0, some w.heap.size, none)]) A3 p0.Job.Table.List_ := hs3.old _ rfl
 have h4 : Sl kPtr w.heap (okL [(0, some w.heap.size, none)]) A4 p1 := hs4.old _ rfl
 have hG0 : 0 < w.heap.size := hG.lt
 have x0 : Ext w w := Upd.refl _ w
 unfold chain_Lose.f at H
 refine calls_start Tryd.func49 rfl 29 rfl [.agg #[.slice A1 p0.Devices.length c_1, .slice A2 p0.Tables.length c_2, .int .i64 p0.Job.Dev, .int .i64 p0.Job.At, .int .i64 p0.Job.Table.Dev, .int .i64 p0.Job.Table.Size, .slice A3 p0.Job.Table.List_.length c_3, .int .i64 p0.Next], .slice A4 p1.length c_4] rfl ?_
 refine CW.seq ?_
 refine CW.lex [.X, .X, .W] rfl ?_
 refine RW.box (cs := [.slice A1 p0.Devices.length c_1, .slice A2 p0.Tables.length c_2, .int .i64 p0.Job.Dev, .int .i64 p0.Job.At, .int .i64 p0.Job.Table.Dev, .int .i64 p0.Job.Table.Size, .slice A3 p0.Job.Table.List_.length c_3, .int .i64 p0.Next]) (.inl rfl) ⟨rfl, rfl, rfl, rfl⟩ rfl rfl rfl ?_
 intro b1 w1 x1 l1 h5
 have sx1 := x1.size
 have ltb1 := h5.lt
 refine RW.alloc tabOk (.inl rfl) ⟨rfl, rfl, rfl, rfl⟩ rfl rfl ?_
 intro b2 w2 x2 l2 h6
 have sx2 := x2.size
 have ltb2 := h6.lt
 refine RW.pure tabOk 1 rfl ?_
 refine RW.done ?_
 refine NW.next ?_
 refine CW.seq ?_
 refine CW.seq ?_
 refine CW.lex [.L, .X, .W] rfl ?_
 have h7 := h5.ext x2
 refine RW.load tabOk [.slice A1 p0.Devices.length c_1, .slice A2 p0.Tables.length c_2, .int .i64 p0.Job.Dev, .int .i64 p0.Job.At, .int .i64 p0.Job.Table.Dev, .int .i64 p0.Job.Table.Size, .slice A3 p0.Job.Table.List_.length c_3, .int .i64 p0.Next] (h7.at 0) ⟨rfl, rfl, rfl, rfl⟩ rfl rfl rfl rfl ?_
 have h8 := (h1.ext x1).ext x2
 have h9 := (h2.ext x1).ext x2
 have h10 := (h3.ext x1).ext x2
 obtain ⟨y1, h11, H⟩ := bind_some H
 refine RW.callF (.inl rfl) ent76 ⟨rfl, rfl, rfl, rfl⟩ rfl rfl (chain_May.calls k p0 A1 c_1 A2 c_2 A3 c_3 _ _ h8.all hl1 h9.all hl2 h10.all hl3 h11) ?_
 rintro _ w3 ⟨rfl, x3⟩
 refine ⟨_, rfl, x3, ?_⟩
 have sx3 := x3.size
 refine RW.pure tabOk 1 rfl ?_
 refine RW.done ?_
 refine NW.next ?_
 by_cases c1 : y1 = true
 ·
  rw [if_pos c1] at H
  refine CW.cond_f rfl (not_f (c1)) ?_
  refine CW.skip ?_
  refine NW.next ?_
  refine CW.seq ?_
  refine CW.lex [.L, .X, .M] rfl ?_
  have h12 := h7.ext x3
  refine RW.load tabOk [.slice A1 p0.Devices.length c_1, .slice A2 p0.Tables.length c_2, .int .i64 p0.Job.Dev, .int .i64 p0.Job.At, .int .i64 p0.Job.Table.Dev, .int .i64 p0.Job.Table.Size, .slice A3 p0.Job.Table.List_.length c_3, .int .i64 p0.Next] (h12.at 0) ⟨rfl, rfl, rfl, rfl⟩ rfl rfl rfl rfl ?_
  have xc1 : Ext w3 w3 := Upd.refl _ _
  refine RW.callK (.inl rfl) ent77 ⟨rfl, rfl, rfl, rfl⟩ rfl rfl rfl ?_
  refine calls_start Tryd.func77 rfl 36 rfl [.agg #[.slice A1 p0.Devices.length c_1, .slice A2 p0.Tables.length c_2, .int .i64 p0.Job.Dev, .int .i64 p0.Job.At, .int .i64 p0.Job.Table.Dev, .int .i64 p0.Job.Table.Size, .slice A3 p0.Job.Table.List_.length c_3, .int .i64 p0.Next]] rfl ?_
  refine CW.seq ?_
  refine CW.lex [.X, .X] rfl ?_
  refine RW.box (cs := [.slice A1 p0.Devices.length c_1, .slice A2 p0.Tables.length c_2, .int .i64 p0.Job.Dev, .int .i64 p0.Job.At, .int .i64 p0.Job.Table.Dev, .int .i64 p0.Job.Table.Size, .slice A3 p0.Job.Table.List_.length c_3, .int .i64 p0.Next]) (.inl rfl) ⟨rfl, rfl, rfl, rfl⟩ rfl rfl rfl ?_
  intro b3 w4 x4 l3 h13
  have sx4 := x4.size
  have ltb3 := h13.lt
  refine RW.alloc tabOk (.inl rfl) ⟨rfl, rfl, rfl, rfl⟩ rfl rfl ?_
  intro b4 w5 x5 l4 h14
  have sx5 := x5.size
  have ltb4 := h14.lt
  refine RW.done ?_
  refine NW.next ?_
  refine CW.seq ?_
  refine CW.ord [0, 1, 3, 0, 8, 31, 0, 64, 192, 511, 479, 2047, 4095, 8191, 16383, 32767, 65535] (ofL [(0, .W), (3, .W), (6, .W), (7, .W), (1, .L), (4, .L), (8, .L), (2, .X), (10, .W), (5, .X), (9, .X), (11, .M), (12, .W), (13, .M), (14, .W), (15, .W), (16, .M)] .nil) mixed (by kernel_rfl) ?_
  intro w6 x6
  have sx6 := x6.size
  refine RW.pure tabOk 4 rfl ?_
  have h15 := (h13.ext x5).ext x6
  refine RW.load tabOk [.slice A1 p0.Devices.length c_1] ((h15.at 0).take 1 rfl) ⟨rfl, rfl, rfl, rfl⟩ rfl rfl rfl rfl ?_
  refine RW.load tabOk [.slice A2 p0.Tables.length c_2] ((h15.at 1).take 1 rfl) ⟨rfl, rfl, rfl, rfl⟩ rfl rfl rfl rfl ?_
  refine RW.load tabOk [.int .i64 p0.Job.Table.Dev, .int .i64 p0.Job.Table.Size, .slice A3 p0.Job.Table.List_.length c_3] ((h15.at 4).take 3 rfl) ⟨rfl, rfl, rfl, rfl⟩ rfl rfl rfl rfl ?_
  have h16 := (((h8.ext x3).ext x4).ext x5).ext x6
  obtain ⟨y2, h17, H⟩ := bind_some H
  refine RW.callF (.inl rfl) ent67 ⟨rfl, rfl, rfl, rfl⟩ rfl rfl (room_Own.calls k A1 c_1 p0.Devices _ _ h16.all hl1 h17) ?_
  rintro _ w7 ⟨A5, c_5, rfl, x7, h18⟩
  refine ⟨_, rfl, x7, ?_⟩
  have sx7 := x7.size
  have h19 : Ow kDeviceO 84 w7.heap (okL [(w6.heap.size, some w7.heap.size, some 84)]) (okL [(w6.heap.size, some w7.heap.size, some 93)]) A5 c_5 y2 := h18.close
  refine RW.pure tabOk 1 rfl ?_
  have h20 := ((((h9.ext x3).ext x4).ext x5).ext x6).ext x7
  obtain ⟨y3, h21, H⟩ := bind_some H
  refine RW.callF (.inl rfl) ent96 ⟨rfl, rfl, rfl, rfl⟩ rfl rfl (slices_Clone_Table.calls A2 c_2 p0.Tables _ _ h20 hl2 (by omega) h21) ?_
  rintro _ w8 ⟨A6, c_6, rfl, x8, h22⟩
  refine ⟨_, rfl, x8, ?_⟩
  have sx8 := x8.size
  have h23 : Ow kTableR 75 w8.heap (okL [(w7.heap.size, some w8.heap.size, some 75)]) (okL [(0, some w.heap.size, none), (w7.heap.size, some w8.heap.size, some 86)]) A6 c_6 y3 := h22.close
  have h24 := (((((h10.ext x3).ext x4).ext x5).ext x6).ext x7).ext x8
  obtain ⟨y4, h25, H⟩ := bind_some H
  refine RW.callF (.inl rfl) ent97 ⟨rfl, rfl, rfl, rfl⟩ rfl rfl (table_Own.calls p0.Job.Table A3 c_3 _ _ h24.all hl3 h25) ?_
  rintro _ w9 ⟨A7, c_7, rfl, x9, h26⟩
  refine ⟨_, rfl, x9, ?_⟩
  have sx9 := x9.size
  have h27 : Ow kEntry 86 w9.heap (okL [(w8.heap.size, some w9.heap.size, some 86)]) (okL []) A7 c_7 y4.List_ := h26.close
  have h28 := ((h15.ext x7).ext x8).ext x9
  refine RW.storeBox tabOk h28 [.slice A5 y2.length c_5] ⟨rfl, rfl, rfl⟩ rfl rfl rfl rfl rfl rfl rfl rfl ?_
  intro w10 x10 h29
  have h30 : Box w10.heap b3 79 [.slice A5 y2.length c_5, .slice A2 p0.Tables.length c_2, .int .i64 p0.Job.Dev, .int .i64 p0.Job.At, .int .i64 p0.Job.Table.Dev, .int .i64 p0.Job.Table.Size, .slice A3 p0.Job.Table.List_.length c_3, .int .i64 p0.Next] := h29
  have sx10 := x10.size
  refine RW.pure tabOk 1 rfl ?_
  refine RW.storeBox tabOk h30 [.slice A6 y3.length c_6] ⟨rfl, rfl, rfl⟩ rfl rfl rfl rfl rfl rfl rfl rfl ?_
  intro w11 x11 h31
  have h32 : Box w11.heap b3 79 [.slice A5 y2.length c_5, .slice A6 y3.length c_6, .int .i64 p0.Job.Dev, .int .i64 p0.Job.At, .int .i64 p0.Job.Table.Dev, .int .i64 p0.Job.Table.Size, .slice A3 p0.Job.Table.List_.length c_3, .int .i64 p0.Next] := h31
  have sx11 := x11.size
  refine RW.pure tabOk 2 rfl ?_
  refine RW.storeBox tabOk h32 [.int .i64 y4.Dev, .int .i64 y4.Size, .slice A7 y4.List_.length c_7] ⟨rfl, rfl, rfl⟩ rfl rfl rfl rfl rfl rfl rfl rfl ?_
  intro w12 x12 h33
  have h34 : Box w12.heap b3 79 [.slice A5 y2.length c_5, .slice A6 y3.length c_6, .int .i64 p0.Job.Dev, .int .i64 p0.Job.At, .int .i64 y4.Dev, .int .i64 y4.Size, .slice A7 y4.List_.length c_7, .int .i64 p0.Next] := h33
  have sx12 := x12.size
  refine RW.done ?_
  refine NW.next ?_
  refine CW.seq ?_
  refine CW.seq ?_
  refine CW.lex [.W, .L, .W, .W] rfl ?_
  refine RW.pure tabOk 1 rfl ?_
  refine RW.load tabOk [.slice A6 y3.length c_6] ((h34.at 1).take 1 rfl) ⟨rfl, rfl, rfl, rfl⟩ rfl rfl rfl rfl ?_
  refine RW.pure tabOk 2 rfl ?_
  refine RW.done ?_
  refine NW.next ?_
  refine CW.block ?_
  refine CW.loop (fun n1 a w13 => ∃ (it21_0 : Int) (lb3_1_0 : List Table) (Ab3_1_0 : Option Addr) (cb3_1_0 : Nat), Sat 36 [(1, .pointer (some ⟨b3, 0, none⟩)), (2, .pointer (some ⟨b4, 0, none⟩)), (20, .int .i64 (y3.length : Int)), (21, .int .i64 it21_0)] a ∧ w12.heap.size ≤ w13.heap.size ∧ Ow kTableR 75 w13.heap (okL [(w7.heap.size, none, some 75)]) (okL [(0, some w.heap.size, none), (w7.heap.size, none, some 86)]) Ab3_1_0 cb3_1_0 lb3_1_0 ∧ Ow kDeviceO 84 w13.heap (okL [(w6.heap.size, some w7.heap.size, some 84)]) (okL [(w6.heap.size, some w7.heap.size, some 93)]) A5 c_5 y2 ∧ Ow kEntry 86 w13.heap (okL [(w8.heap.size, some w9.heap.size, some 86)]) (okL []) A7 c_7 y4.List_ ∧ Sl kPtr w13.heap (okL [(0, some w.heap.size, none)]) A4 p1 ∧ Sl kDeviceR w13.heap (okL [(0, some w.heap.size, none)]) A1 p0.Devices ∧ Sl kTableR w13.heap (okL [(0, some w.heap.size, none)]) A2 p0.Tables ∧ Sl kEntry w13.heap (okL [(0, some w.heap.size, none)]) A3 p0.Job.Table.List_ ∧ Ext w w13 ∧ Ext w3 w13 ∧ Box w13.heap b3 79 [.slice A5 y2.length c_5, .slice Ab3_1_0 lb3_1_0.length cb3_1_0, .int .i64 p0.Job.Dev, .int .i64 p0.Job.At, .int .i64 y4.Dev, .int .i64 y4.Size, .slice A7 y4.List_.length c_7, .int .i64 p0.Next] ∧ Box w13.heap b4 79 [.slice none 0 0, .slice none 0 0, .int .i64 0, .int .i64 0, .int .i64 0, .int .i64 0, .slice none 0 0, .int .i64 0] ∧ Box w13.heap b1 79 [.slice A1 p0.Devices.length c_1, .slice A2 p0.Tables.length c_2, .int .i64 p0.Job.Dev, .int .i64 p0.Job.At, .int .i64 p0.Job.Table.Dev, .int .i64 p0.Job.Table.Size, .slice A3 p0.Job.Table.List_.length c_3, .int .i64 p0.Next] ∧ Box w13.heap b2 79 [.slice none 0 0, .slice none 0 0, .int .i64 0, .int .i64 0, .int .i64 0, .int .i64 0, .slice none 0 0, .int .i64 0] ∧ Box w13.heap 0 gT (arrI .u8 64 tz) ∧ lb3_1_0.length = y3.length ∧ 0 ≤ it21_0 ∧ OwPartB kTableO 86 w13.heap (w12.heap.size) w13.heap.size Ab3_1_0 lb3_1_0 default it21_0.toNat ∧ chain_Lose.l0 p0 p1 k y2 y3 y4 n1 it21_0 lb3_1_0 = some r) k ?_ ?_
  have h35 := (((h23.ext x9).turnB x10 h28 ⟨.inl (show (75 : Nat) ≠ 79 by decide), trivial⟩ ⟨.inr (by omega), ⟨.inl (show (86 : Nat) ≠ 79 by decide), trivial⟩⟩).turnB x11 h30 ⟨.inl (show (75 : Nat) ≠ 79 by decide), trivial⟩ ⟨.inr (by omega), ⟨.inl (show (86 : Nat) ≠ 79 by decide), trivial⟩⟩).turnB x12 h32 ⟨.inl (show (75 : Nat) ≠ 79 by decide), trivial⟩ ⟨.inr (by omega), ⟨.inl (show (86 : Nat) ≠ 79 by decide), trivial⟩⟩
  have h36 := ((((h19.ext x8).ext x9).turnB x10 h28 ⟨.inl (show (84 : Nat) ≠ 79 by decide), trivial⟩ ⟨.inl (show (93 : Nat) ≠ 79 by decide), trivial⟩).turnB x11 h30 ⟨.inl (show (84 : Nat) ≠ 79 by decide), trivial⟩ ⟨.inl (show (93 : Nat) ≠ 79 by decide), trivial⟩).turnB x12 h32 ⟨.inl (show (84 : Nat) ≠ 79 by decide), trivial⟩ ⟨.inl (show (93 : Nat) ≠ 79 by decide), trivial⟩
  have h37 := ((h27.turnB x10 h28 ⟨.inl (show (86 : Nat) ≠ 79 by decide), trivial⟩ trivial).turnB x11 h30 ⟨.inl (show (86 : Nat) ≠ 79 by decide), trivial⟩ trivial).turnB x12 h32 ⟨.inl (show (86 : Nat) ≠ 79 by decide), trivial⟩ trivial
  have h38 := (((((((((((h4.ext x1).ext x2).ext x3).ext x4).ext x5).ext x6).ext x7).ext x8).ext x9).turnB x10 h28 ⟨.inr (by omega), trivial⟩).turnB x11 h30 ⟨.inr (by omega), trivial⟩).turnB x12 h32 ⟨.inr (by omega), trivial⟩
  have h39 := (((((h16.ext x7).ext x8).ext x9).turnB x10 h28 ⟨.inr (by omega), trivial⟩).turnB x11 h30 ⟨.inr (by omega), trivial⟩).turnB x12 h32 ⟨.inr (by omega), trivial⟩
  have h40 := ((((h20.ext x8).ext x9).turnB x10 h28 ⟨.inr (by omega), trivial⟩).turnB x11 h30 ⟨.inr (by omega), trivial⟩).turnB x12 h32 ⟨.inr (by omega), trivial⟩
  have h41 := (((h24.ext x9).turnB x10 h28 ⟨.inr (by omega), trivial⟩).turnB x11 h30 ⟨.inr (by omega), trivial⟩).turnB x12 h32 ⟨.inr (by omega), trivial⟩
  have h42 := Ext.turnB (Ext.turnB (Ext.turnB (Ext.trans (Ext.trans (Ext.trans (Ext.trans (Ext.trans (Ext.trans (Ext.trans (Ext.trans (Ext.trans x0 x1) x2) x3) x4) x5) x6) x7) x8) x9) x10 (by omega)) x11 (by omega)) x12 (by omega)
  have h43 := Ext.turnB (Ext.turnB (Ext.turnB (Ext.trans (Ext.trans (Ext.trans (Ext.trans (Ext.trans (Ext.trans xc1 x4) x5) x6) x7) x8) x9) x10 (by omega)) x11 (by omega)) x12 (by omega)
  have h44 := ((((((h14.ext x6).ext x7).ext x8).ext x9).turnB x10 (by omega)).turnB x11 (by omega)).turnB x12 (by omega)
  have h45 := ((((((((h12.ext x4).ext x5).ext x6).ext x7).ext x8).ext x9).turnB x10 (by omega)).turnB x11 (by omega)).turnB x12 (by omega)
  have h46 := (((((((((h6.ext x3).ext x4).ext x5).ext x6).ext x7).ext x8).ext x9).turnB x10 (by omega)).turnB x11 (by omega)).turnB x12 (by omega)
  have h47 := (((((((((((hG.ext x1).ext x2).ext x3).ext x4).ext x5).ext x6).ext x7).ext x8).ext x9).turnB x10 (by omega)).turnB x11 (by omega)).turnB x12 (by omega)
  · exact fun a ha => ⟨0, y3, A6, c_6, ha.sub ⟨rfl, rfl, rfl, rfl, trivial⟩, by omega, (h35.sub ⟨(.inl ⟨by omega, trivial, rfl⟩), trivial⟩ ⟨(.inl ⟨by omega, by omega, trivial⟩), ⟨(.inr (.inl ⟨by omega, trivial, rfl⟩)), trivial⟩⟩), h36, h37, h38, h39, h40, h41, h42, h43, h34, h44, h45, h46, h47, rfl, Int.le_refl 0, OwPartB.zero, H⟩
  intro n1 a w13 hI hp
  obtain ⟨it21_0, lb3_1_0, Ab3_1_0, cb3_1_0, hS, hle, fb3_1_0, gF5_0, gF7_0, gF4_0, gF1_0, gF2_0, gF3_0, x0_0, x_xc1_0, gb3_0, gb4_0, gb1_0, gb2_0, g0_0, hln_0, hi0_0, hpt_0, H⟩ := hI
  cases n1 with
  | zero => cases H
  | succ n1 =>
   rw [chain_Lose.l0] at H
   refine CW.go hp hS ?_
   have h48 : Ow kTableR 75 w13.heap (okL [(w7.heap.size, some w13.heap.size, some 75)]) (okL [(0, some w.heap.size, none), (w7.heap.size, some w13.heap.size, some 86)]) Ab3_1_0 cb3_1_0 lb3_1_0 := fb3_1_0.close
   refine CW.seq ?_
   refine CW.lex [.W] rfl ?_
   refine RW.pure tabOk 1 rfl ?_
   refine RW.done ?_
   refine NW.next ?_
   refine CW.seq ?_
   by_cases c2 : it21_0 < (y3.length : Int)
   ·
    rw [if_pos c2] at H
    refine CW.cond_t rfl (decide_eq_true c2) ?_
    refine CW.skip ?_
    refine NW.next ?_
    refine CW.seq ?_
    refine CW.block ?_
    refine CW.seq ?_
    refine CW.lex [.W, .W] rfl ?_
    refine RW.pure tabOk 2 rfl ?_
    refine RW.done ?_
    refine NW.next ?_
    refine CW.ord [0, 1, 0, 0, 8, 0, 56, 120, 248, 511, 1023] (ofL [(0, .W), (2, .W), (3, .W), (5, .W), (1, .L), (4, .L), (6, .W), (7, .L), (8, .X), (9, .W), (10, .M)] .nil) mixed (by kernel_rfl) ?_
    intro w14 x13
    have sx13 := x13.size
    refine RW.pure tabOk 4 rfl ?_
    have h49 := gb3_0.ext x13
    refine RW.load tabOk [.slice Ab3_1_0 lb3_1_0.length cb3_1_0] ((h49.at 1).take 1 rfl) ⟨rfl, rfl, rfl, rfl⟩ rfl rfl rfl rfl ?_
    refine RW.load tabOk [.slice Ab3_1_0 lb3_1_0.length cb3_1_0] ((h49.at 1).take 1 rfl) ⟨rfl, rfl, rfl, rfl⟩ rfl rfl rfl rfl ?_
    obtain ⟨g1, H⟩ := guard_some H
    have h50 := h48.ext x13
    obtain ⟨ad1, A8, c_8, e1, a1, l5, h51⟩ := kTableR_ato h50 g1.1 g1.2
    refine RW.index tabOk g1.1 g1.2 e1 ⟨rfl, rfl, rfl, rfl⟩ rfl rfl rfl rfl rfl rfl ?_
    refine RW.load tabOk [.int .i64 ((rd lb3_1_0 it21_0).Dev), .int .i64 ((rd lb3_1_0 it21_0).Size), .slice A8 ((rd lb3_1_0 it21_0).List_).length c_8] a1 ⟨rfl, rfl, rfl, rfl⟩ rfl rfl rfl rfl ?_
    obtain ⟨y5, h52, H⟩ := bind_some H
    refine RW.callF (.inl rfl) ent97 ⟨rfl, rfl, rfl, rfl⟩ rfl rfl (table_Own.calls (rd lb3_1_0 it21_0) A8 c_8 _ _ h51.all l5 h52) ?_
    rintro _ w15 ⟨A9, c_9, rfl, x14, h53⟩
    refine ⟨_, rfl, x14, ?_⟩
    have sx14 := x14.size
    have h54 : Ow kEntry 86 w15.heap (okL [(w14.heap.size, some w15.heap.size, some 86)]) (okL []) A9 c_9 y5.List_ := h53.close
    obtain ⟨g2, H⟩ := guard_some H
    have h55 := h50.ext x14
    obtain ⟨ad2, A10, c_10, e2, a2, l6, h56⟩ := kTableR_ato h55 g2.1 g2.2
    refine RW.index tabOk g2.1 g2.2 e2 ⟨rfl, rfl, rfl, rfl⟩ rfl rfl rfl rfl rfl rfl ?_
    refine RW.storeElX0 (y := y5) (lv := [(w14.heap.size, some w15.heap.size, some 86)]) tabOk h55 (j := it21_0.toNat) (by have := g2; omega) default [.int .i64 y5.Dev, .int .i64 y5.Size, .slice A9 y5.List_.length c_9] (fun cs ok' hr => by obtain ⟨qa1, qc1, rfl, ql1, q1⟩ := kTableR_open hr; exact ⟨by simp, kTableR_mk y5 h54.len (Sl.mono h54.slL fun _ _ ho => Or.inr (okL_sub (l := [(w14.heap.size, some w15.heap.size, some 86)]) (l' := [(w14.heap.size, some w15.heap.size, some 86)]) ⟨(.inl ⟨by omega, by omega, rfl⟩), trivial⟩ ho))⟩) ⟨⟨.inl (show (86 : Nat) ≠ 75 by decide), trivial⟩, trivial⟩ ⟨rfl, rfl, rfl⟩ rfl rfl e2 rfl rfl rfl rfl rfl ?_
    intro w16 x15 Xx15 h57
    have sx15 := x15.size
    have h58 := h57.close.sub (l' := [(w7.heap.size, some w13.heap.size, some 75)]) (li' := [(0, some w.heap.size, none), (w7.heap.size, some w15.heap.size, some 86)]) ⟨(.inl ⟨by omega, by omega, rfl⟩), trivial⟩ ⟨(.inl ⟨by omega, by omega, trivial⟩), ⟨(.inr (.inl ⟨by omega, by omega, rfl⟩)), ⟨(.inr (.inl ⟨by omega, by omega, rfl⟩)), trivial⟩⟩⟩
    have h59 := (h49.ext x14).turnL x15 (.inl (by decide))
    have h60 : Box w16.heap b3 79 [.slice A5 y2.length c_5, .slice Ab3_1_0 (lb3_1_0.set it21_0.toNat y5).length cb3_1_0, .int .i64 p0.Job.Dev, .int .i64 p0.Job.At, .int .i64 y4.Dev, .int .i64 y4.Size, .slice A7 y4.List_.length c_7, .int .i64 p0.Next] := by simpa only [List.length_set] using h59
    refine RW.done ?_
    refine NW.norm_block (NW.next ?_)
    refine CW.lex [.W, .W] rfl ?_
    refine RW.pure tabOk 2 rfl ?_
    refine RW.done ?_
    have h61 := ((gF5_0.ext x13).ext x14).turnL x15 ⟨⟨.inl (show (84 : Nat) ≠ 75 by decide), trivial⟩, trivial⟩ ⟨⟨.inl (show (93 : Nat) ≠ 75 by decide), trivial⟩, trivial⟩
    have h62 := ((gF7_0.ext x13).ext x14).turnL x15 ⟨⟨.inl (show (86 : Nat) ≠ 75 by decide), trivial⟩, trivial⟩ trivial
    have h63 := ((gF4_0.ext x13).ext x14).turnL x15 ⟨⟨.inr (.inl (by omega)), trivial⟩, trivial⟩
    have h64 := ((gF1_0.ext x13).ext x14).turnL x15 ⟨⟨.inr (.inl (by omega)), trivial⟩, trivial⟩
    have h65 := ((gF2_0.ext x13).ext x14).turnL x15 ⟨⟨.inr (.inl (by omega)), trivial⟩, trivial⟩
    have h66 := ((gF3_0.ext x13).ext x14).turnL x15 ⟨⟨.inr (.inl (by omega)), trivial⟩, trivial⟩
    have h67 := Ext.turn (Ext.trans (Ext.trans x0_0 x13) x14) x15 ⟨by omega, trivial⟩
    have h68 := Ext.turn (Ext.trans (Ext.trans x_xc1_0 x13) x14) x15 ⟨by omega, trivial⟩
    have h69 := ((gb4_0.ext x13).ext x14).turnL x15 (.inl (by decide))
    have h70 := ((gb1_0.ext x13).ext x14).turnL x15 (.inl (by decide))
    have h71 := ((gb2_0.ext x13).ext x14).turnL x15 (.inl (by decide))
    have h72 := ((g0_0.ext x13).ext x14).turnL x15 (.inr ⟨⟨.inr (.inl (by omega)), trivial⟩, trivial⟩)
    have h73 := h54.turnL x15 ⟨⟨.inl (show (86 : Nat) ≠ 75 by decide), trivial⟩, trivial⟩ trivial
    have Xx15' : Laid kTableO _ _ _ _ _ 0 _ := Xx15
    have ptx15 := ((hpt_0.ext x13).ext x14).store (y := y5) x15 Xx15' (Nat.le_refl _) (show (86 : Nat) ≠ 75 by decide)
    have atx15 := a2.here Xx15 (d := kTableR) e2 (Nat.le_of_ble_eq_true rfl)
    have ljx15 : it21_0.toNat < lb3_1_0.length := by have := g2; omega
    have egx15 : (lb3_1_0.set it21_0.toNat y5).getD it21_0.toNat default = y5 := by rw [List.getD_eq_getElem?_getD, List.getElem?_set_self ljx15]; rfl
    have rpx15 : kTableO.rep w16.heap (okL [(w14.heap.size, some w15.heap.size, some 86)]) [.int .i64 y5.Dev, .int .i64 y5.Size, .slice A9 y5.List_.length c_9] ((lb3_1_0.set it21_0.toNat y5).getD it21_0.toNat default) := by rw [egx15]; exact kTableO_mk y5 (h73.sub (l' := [(w14.heap.size, some w15.heap.size, some 86)]) (li' := [(w14.heap.size, some w15.heap.size, some 86)]) ⟨(.inl ⟨by omega, by omega, rfl⟩), trivial⟩ trivial)
    have shx15 := h55.short
    have ewx15 : w64 (it21_0 + 1) = it21_0 + 1 := w64_id (by omega) (by simp only [maxLen] at shx15; omega)
    exact NW.J fun a ha => ⟨n1, Nat.lt_succ_self n1, (w64 (it21_0 + 1)), (lb3_1_0.set it21_0.toNat y5), Ab3_1_0, cb3_1_0, ha.sub ⟨rfl, rfl, rfl, rfl, trivial⟩, by omega, (h58.sub ⟨(.inl ⟨by omega, trivial, rfl⟩), trivial⟩ ⟨(.inl ⟨by omega, by omega, trivial⟩), ⟨(.inr (.inl ⟨by omega, trivial, rfl⟩)), trivial⟩⟩), h61, h62, h63, h64, h65, h66, h67, h68, h60, h69, h70, h71, h72, by simp only [List.length_set]; exact hln_0, by omega, (by rw [show (w64 (it21_0 + 1)).toNat = it21_0.toNat + 1 by omega]; exact (ptx15.snoc (n1 := w14.heap.size) (n2 := w15.heap.size) (by omega) (by omega) (by omega) e2 rpx15 atx15).up (by omega)), H⟩
   ·
    rw [if_neg c2] at H
    refine CW.cond_f rfl (decide_eq_false c2) ?_
    have h74 : OwB kTableO 75 86 w13.heap (okL [(w7.heap.size, some w13.heap.size, some 75)]) (okL [(w12.heap.size, some w13.heap.size, some 86)]) Ab3_1_0 cb3_1_0 lb3_1_0 := h48.upgradeB (d := kTableO) rfl hpt_0 (by omega) (Nat.le_refl _)
    refine CW.exit ?_
    refine NW.exit_then (NW.exit_then (NW.exit_hit ?_))
    refine NW.next ?_
    refine CW.seq ?_
    refine CW.lex [.L, .M] rfl ?_
    refine RW.load tabOk [.slice A5 y2.length c_5, .slice Ab3_1_0 lb3_1_0.length cb3_1_0, .int .i64 p0.Job.Dev, .int .i64 p0.Job.At, .int .i64 y4.Dev, .int .i64 y4.Size, .slice A7 y4.List_.length c_7, .int .i64 p0.Next] (gb3_0.at 0) ⟨rfl, rfl, rfl, rfl⟩ rfl rfl rfl rfl ?_
    refine RW.storeBox tabOk gb4_0 [.slice A5 y2.length c_5, .slice Ab3_1_0 lb3_1_0.length cb3_1_0, .int .i64 p0.Job.Dev, .int .i64 p0.Job.At, .int .i64 y4.Dev, .int .i64 y4.Size, .slice A7 y4.List_.length c_7, .int .i64 p0.Next] ⟨rfl, rfl, rfl⟩ rfl rfl rfl rfl rfl rfl rfl rfl ?_
    intro w17 x16 h75
    have h76 : Box w17.heap b4 79 [.slice A5 y2.length c_5, .slice Ab3_1_0 lb3_1_0.length cb3_1_0, .int .i64 p0.Job.Dev, .int .i64 p0.Job.At, .int .i64 y4.Dev, .int .i64 y4.Size, .slice A7 y4.List_.length c_7, .int .i64 p0.Next] := h75
    have sx16 := x16.size
    refine RW.done ?_
    refine NW.next ?_
    refine CW.ret ?_
    have h77 := Ext.turnB x_xc1_0 x16 (by omega)
    refine NW.ret1 rfl (resOne_cell tabOk (h76.at 0) rfl rfl rfl) ⟨_, rfl, h77, ?_⟩
    have h78 := gb1_0.turnB x16 (by omega)
    refine RW.storeBox tabOk h78 [.slice A5 y2.length c_5, .slice Ab3_1_0 lb3_1_0.length cb3_1_0, .int .i64 p0.Job.Dev, .int .i64 p0.Job.At, .int .i64 y4.Dev, .int .i64 y4.Size, .slice A7 y4.List_.length c_7, .int .i64 p0.Next] ⟨rfl, rfl, rfl⟩ rfl rfl rfl rfl rfl rfl rfl rfl ?_
    intro w18 x17 h79
    have h80 : Box w18.heap b1 79 [.slice A5 y2.length c_5, .slice Ab3_1_0 lb3_1_0.length cb3_1_0, .int .i64 p0.Job.Dev, .int .i64 p0.Job.At, .int .i64 y4.Dev, .int .i64 y4.Size, .slice A7 y4.List_.length c_7, .int .i64 p0.Next] := h79
    have sx17 := x17.size
    refine RW.done ?_
    refine NW.next ?_
    refine CW.seq ?_
    refine CW.seq ?_
    refine CW.lex [.W, .W, .W] rfl ?_
    refine RW.pure tabOk 3 rfl ?_
    refine RW.done ?_
    refine NW.next ?_
    refine CW.block ?_
    refine CW.loop (fun n2 a w19 => ∃ (it17_1 : Int) (lb1_0_1 : List Device) (Ab1_0_1 : Option Addr) (cb1_0_1 : Nat) (lb1_1_1 : List Table) (Ab1_1_1 : Option Addr) (cb1_1_1 : Nat) (lb1_6_1 : List Entry) (Ab1_6_1 : Option Addr) (cb1_6_1 : Nat), Sat 29 [(2, .pointer (some ⟨b1, 0, none⟩)), (4, .pointer (some ⟨b2, 0, none⟩)), (15, .slice A4 p1.length c_4), (16, .int .i64 (p1.length : Int)), (17, .int .i64 it17_1)] a ∧ w18.heap.size ≤ w19.heap.size ∧ Ow kDeviceO 84 w19.heap (okL [(w6.heap.size, none, some 84)]) (okL [(w6.heap.size, none, some 93)]) Ab1_0_1 cb1_0_1 lb1_0_1 ∧ OwB kTableO 75 86 w19.heap (okL [(w7.heap.size, none, some 75)]) (okL [(w12.heap.size, none, some 86)]) Ab1_1_1 cb1_1_1 lb1_1_1 ∧ Ow kEntry 86 w19.heap (okL [(w8.heap.size, some w9.heap.size, some 86)]) (okL []) Ab1_6_1 cb1_6_1 lb1_6_1 ∧ Sl kPtr w19.heap (okL [(0, some w.heap.size, none)]) A4 p1 ∧ Ext w w19 ∧ Box w19.heap b1 79 [.slice Ab1_0_1 lb1_0_1.length cb1_0_1, .slice Ab1_1_1 lb1_1_1.length cb1_1_1, .int .i64 p0.Job.Dev, .int .i64 p0.Job.At, .int .i64 y4.Dev, .int .i64 y4.Size, .slice Ab1_6_1 lb1_6_1.length cb1_6_1, .int .i64 p0.Next] ∧ Box w19.heap b2 79 [.slice none 0 0, .slice none 0 0, .int .i64 0, .int .i64 0, .int .i64 0, .int .i64 0, .slice none 0 0, .int .i64 0] ∧ Box w19.heap 0 gT (arrI .u8 64 tz) ∧ chain_Lose.l1 p0 p1 k y4 n2 it17_1 lb1_0_1 lb1_1_1 lb1_6_1 = some r) k ?_ ?_
    have h81 := (gF5_0.turnB x16 gb4_0 ⟨.inl (show (84 : Nat) ≠ 79 by decide), trivial⟩ ⟨.inl (show (93 : Nat) ≠ 79 by decide), trivial⟩).turnB x17 h78 ⟨.inl (show (84 : Nat) ≠ 79 by decide), trivial⟩ ⟨.inl (show (93 : Nat) ≠ 79 by decide), trivial⟩
    have h82 := (h74.turnB x16 gb4_0 ⟨.inl (show (75 : Nat) ≠ 79 by decide), trivial⟩ ⟨.inl (show (86 : Nat) ≠ 79 by decide), trivial⟩).turnB x17 h78 ⟨.inl (show (75 : Nat) ≠ 79 by decide), trivial⟩ ⟨.inl (show (86 : Nat) ≠ 79 by decide), trivial⟩
    have h83 := (gF7_0.turnB x16 gb4_0 ⟨.inl (show (86 : Nat) ≠ 79 by decide), trivial⟩ trivial).turnB x17 h78 ⟨.inl (show (86 : Nat) ≠ 79 by decide), trivial⟩ trivial
    have h84 := (gF4_0.turnB x16 gb4_0 ⟨.inr (by omega), trivial⟩).turnB x17 h78 ⟨.inr (by omega), trivial⟩
    have h85 := Ext.turnB (Ext.turnB x0_0 x16 (by omega)) x17 (by omega)
    have h86 := (gb2_0.turnB x16 (by omega)).turnB x17 (by omega)
    have h87 := (g0_0.turnB x16 (by omega)).turnB x17 (by omega)
    · exact fun a ha => ⟨0, y2, A5, c_5, lb3_1_0, Ab3_1_0, cb3_1_0, y4.List_, A7, c_7, ha.sub ⟨rfl, rfl, rfl, rfl, rfl, trivial⟩, by omega, (h81.sub ⟨(.inl ⟨by omega, trivial, rfl⟩), trivial⟩ ⟨(.inl ⟨by omega, trivial, rfl⟩), trivial⟩), (h82.sub ⟨(.inl ⟨by omega, trivial, rfl⟩), trivial⟩ ⟨(.inl ⟨by omega, trivial, rfl⟩), trivial⟩), (h83.sub ⟨(.inl ⟨by omega, by omega, rfl⟩), trivial⟩ trivial), h84, h85, h80, h86, h87, H⟩
    intro n2 a w19 hI hp
    obtain ⟨it17_1, lb1_0_1, Ab1_0_1, cb1_0_1, lb1_1_1, Ab1_1_1, cb1_1_1, lb1_6_1, Ab1_6_1, cb1_6_1, hS, hle, fb1_0_1, fb1_1_1, fb1_6_1, gF4_1, x0_1, gb1_1, gb2_1, g0_1, H⟩ := hI
    cases n2 with
    | zero => cases H
    | succ n2 =>
     rw [chain_Lose.l1] at H
     refine CW.go hp hS ?_
     have h88 : Ow kDeviceO 84 w19.heap (okL [(w6.heap.size, some w19.heap.size, some 84)]) (okL [(w6.heap.size, some w19.heap.size, some 93)]) Ab1_0_1 cb1_0_1 lb1_0_1 := fb1_0_1.close
     have h89 : OwB kTableO 75 86 w19.heap (okL [(w7.heap.size, some w19.heap.size, some 75)]) (okL [(w12.heap.size, some w19.heap.size, some 86)]) Ab1_1_1 cb1_1_1 lb1_1_1 := fb1_1_1.close
     refine CW.seq ?_
     refine CW.lex [.W] rfl ?_
     refine RW.pure tabOk 1 rfl ?_
     refine RW.done ?_
     refine NW.next ?_
     refine CW.seq ?_
     by_cases c3 : it17_1 < (p1.length : Int)
     ·
      rw [if_pos c3] at H
      refine CW.cond_t rfl (decide_eq_true c3) ?_
      refine CW.skip ?_
      refine NW.next ?_
      refine CW.seq ?_
      refine CW.block ?_
      refine CW.seq ?_
      refine CW.lex [.W, .L, .X, .M] rfl ?_
      obtain ⟨g3, H⟩ := guard_some H
      obtain ⟨ad3, e3, a3⟩ := kPtr_at gF4_1 g3.1 g3.2
      refine RW.index tabOk g3.1 g3.2 e3 ⟨rfl, rfl, rfl, rfl⟩ rfl rfl rfl rfl rfl rfl ?_
      refine RW.load tabOk [.int .i64 ((rd p1 it17_1).Dev), .int .i64 ((rd p1 it17_1).At)] a3 ⟨rfl, rfl, rfl, rfl⟩ rfl rfl rfl rfl ?_
      refine RW.alloc tabOk (.inl rfl) ⟨rfl, rfl, rfl, rfl⟩ rfl rfl ?_
      intro b5 w20 x18 l7 h90
      have sx18 := x18.size
      have ltb5 := h90.lt
      refine RW.storeBox tabOk h90 [.int .i64 ((rd p1 it17_1).Dev), .int .i64 ((rd p1 it17_1).At)] ⟨rfl, rfl, rfl⟩ rfl rfl rfl rfl rfl rfl rfl rfl ?_
      intro w21 x19 h91
      have h92 : Box w21.heap b5 70 [.int .i64 ((rd p1 it17_1).Dev), .int .i64 ((rd p1 it17_1).At)] := h91
      have sx19 := x19.size
      refine RW.done ?_
      refine NW.next ?_
      refine CW.seq ?_
      refine CW.lex [.L, .M, .W] rfl ?_
      refine RW.load tabOk [.int .i64 ((rd p1 it17_1).Dev), .int .i64 ((rd p1 it17_1).At)] (h92.at 0) ⟨rfl, rfl, rfl, rfl⟩ rfl rfl rfl rfl ?_
      refine RW.callFM (R := fun e w22 => ∃ (it22_2 : Int) (lb1_0_2 : List Device) (Ab1_0_2 : Option Addr) (cb1_0_2 : Nat) (lb1_1_2 : List Table) (Ab1_1_2 : Option Addr) (cb1_1_2 : Nat) (lb1_6_2 : List Entry) (Ab1_6_2 : Option Addr) (cb1_6_2 : Nat), e = .returned (.int .i64 it22_2) ∧ w21.heap.size ≤ w22.heap.size ∧ Ow kDeviceO 84 w22.heap (okL [(w6.heap.size, some w19.heap.size, some 84)]) (okL [(w6.heap.size, none, some 93)]) Ab1_0_2 cb1_0_2 lb1_0_2 ∧ OwB kTableO 75 86 w22.heap (okL [(w7.heap.size, none, some 75)]) (okL [(w12.heap.size, none, some 86)]) Ab1_1_2 cb1_1_2 lb1_1_2 ∧ Ow kEntry 86 w22.heap (okL [(w8.heap.size, some w9.heap.size, some 86)]) (okL []) Ab1_6_2 cb1_6_2 lb1_6_2 ∧ Sl kPtr w22.heap (okL [(0, some w.heap.size, none)]) A4 p1 ∧ Ext w w22 ∧ Box w22.heap b1 79 [.slice Ab1_0_2 lb1_0_2.length cb1_0_2, .slice Ab1_1_2 lb1_1_2.length cb1_1_2, .int .i64 p0.Job.Dev, .int .i64 p0.Job.At, .int .i64 y4.Dev, .int .i64 y4.Size, .slice Ab1_6_2 lb1_6_2.length cb1_6_2, .int .i64 p0.Next] ∧ Box w22.heap b2 79 [.slice none 0 0, .slice none 0 0, .int .i64 0, .int .i64 0, .int .i64 0, .int .i64 0, .slice none 0 0, .int .i64 0] ∧ Box w22.heap 0 gT (arrI .u8 64 tz) ∧ chain_Lose.j0 it17_1 (chain_Lose.l1 p0 p1 k y4 n2) it22_2 lb1_0_2 lb1_1_2 lb1_6_2 = some r) ent78 ⟨rfl, rfl, rfl, rfl⟩ rfl rfl rfl ?_ ?_
      ·
       refine calls_start Tryd.func78 rfl 65 rfl [.pointer (some ⟨b1, 0, none⟩), .agg #[.int .i64 ((rd p1 it17_1).Dev), .int .i64 ((rd p1 it17_1).At)]] rfl ?_
       refine CW.seq ?_
       refine CW.lex [.X, .W] rfl ?_
       refine RW.box (cs := [.int .i64 ((rd p1 it17_1).Dev), .int .i64 ((rd p1 it17_1).At)]) (.inl rfl) ⟨rfl, rfl, rfl, rfl⟩ rfl rfl rfl ?_
       intro b6 w23 x20 l8 h93
       have sx20 := x20.size
       have ltb6 := h93.lt
       refine RW.pure tabOk 1 rfl ?_
       refine RW.done ?_
       refine NW.next ?_
       refine CW.seq ?_
       refine CW.ord [0, 1, 3, 0, 15, 31, 63, 63, 0, 383, 1023] (ofL [(0, .W), (1, .W), (2, .L), (3, .L)] (.two 4 .X (ofL [(5, .W), (6, .W), (7, .W), (8, .X), (9, .M), (10, .W)] .nil) 8 .X (ofL [(4, .X), (5, .W), (6, .W), (7, .W), (9, .M), (10, .W)] .nil))) mixed (by kernel_rfl) ?_
       intro w24 x21
       have sx21 := x21.size
       refine RW.pure tabOk 2 rfl ?_
       have h94 := (((gb1_1.ext x18).turnB x19 (by omega)).ext x20).ext x21
       refine RW.load tabOk [.slice Ab1_0_1 lb1_0_1.length cb1_0_1, .slice Ab1_1_1 lb1_1_1.length cb1_1_1, .int .i64 p0.Job.Dev, .int .i64 p0.Job.At, .int .i64 y4.Dev, .int .i64 y4.Size, .slice Ab1_6_1 lb1_6_1.length cb1_6_1, .int .i64 p0.Next] (h94.at 0) ⟨rfl, rfl, rfl, rfl⟩ rfl rfl rfl rfl ?_
       have h95 := h93.ext x21
       refine RW.load tabOk [.int .i64 ((rd p1 it17_1).Dev), .int .i64 ((rd p1 it17_1).At)] (h95.at 0) ⟨rfl, rfl, rfl, rfl⟩ rfl rfl rfl rfl ?_
       refine RW.two ?_ ?_
       ·
        have h96 := (((h88.ext x18).turnB x19 h90 ⟨.inl (show (84 : Nat) ≠ 70 by decide), trivial⟩ ⟨.inl (show (93 : Nat) ≠ 70 by decide), trivial⟩).ext x20).ext x21
        have h97 := (((h89.ext x18).turnB x19 h90 ⟨.inl (show (75 : Nat) ≠ 70 by decide), trivial⟩ ⟨.inl (show (86 : Nat) ≠ 70 by decide), trivial⟩).ext x20).ext x21
        have h98 := (((fb1_6_1.ext x18).turnB x19 h90 ⟨.inl (show (86 : Nat) ≠ 70 by decide), trivial⟩ trivial).ext x20).ext x21
        obtain ⟨y6, h99, H⟩ := bind_some H
        refine RW.callF (.inl rfl) ent90 ⟨rfl, rfl, rfl, rfl⟩ rfl rfl (chain_Trace.calls k (⟨lb1_0_1, lb1_1_1, (⟨p0.Job.Dev, p0.Job.At, (⟨y4.Dev, y4.Size, lb1_6_1⟩ : Table)⟩ : Job), p0.Next⟩ : Pool) Ab1_0_1 cb1_0_1 Ab1_1_1 cb1_1_1 Ab1_6_1 cb1_6_1 (rd p1 it17_1) true _ _ (h96.all.to kDevice_ro rfl) h96.len ((h97.ow (show (86 : Nat) ≠ 75 by decide)).all.to kTable_ro rfl) (h97.ow (show (86 : Nat) ≠ 75 by decide)).len h98.all h98.len h99) ?_
        rintro _ w25 ⟨A11, c_11, rfl, x22, h100⟩
        refine ⟨_, rfl, x22, ?_⟩
        have sx22 := x22.size
        have h101 : Ow kPtr 70 w25.heap (okL [(w24.heap.size, some w25.heap.size, some 70)]) (okL []) A11 c_11 y6.1.Way := h100.close
        refine RW.pure tabOk 3 rfl ?_
        refine RW.alloc tabOk (.inl rfl) ⟨rfl, rfl, rfl, rfl⟩ rfl rfl ?_
        intro b7 w26 x23 l9 h102
        have sx23 := x23.size
        have ltb7 := h102.lt
        refine RW.storeBox tabOk h102 [.int .i64 y6.1.Ptr_.Dev, .int .i64 y6.1.Ptr_.At, .slice A11 y6.1.Way.length c_11] ⟨rfl, rfl, rfl⟩ rfl rfl rfl rfl rfl rfl rfl rfl ?_
        intro w27 x24 h103
        have h104 : Box w27.heap b7 121 [.int .i64 y6.1.Ptr_.Dev, .int .i64 y6.1.Ptr_.At, .slice A11 y6.1.Way.length c_11] := h103
        have sx24 := x24.size
        refine RW.pure tabOk 1 rfl ?_
        refine RW.done ?_
        refine NW.next ?_
        refine CW.seq ?_
        refine CW.seq ?_
        refine CW.lex [.W, .W] rfl ?_
        refine RW.pure tabOk 2 rfl ?_
        refine RW.done ?_
        refine NW.next ?_
        by_cases c4 : y6.2 = true
        ·
         rw [if_pos c4] at H
         refine CW.cond_f rfl (not_f (c4)) ?_
         refine CW.skip ?_
         refine NW.next ?_
         refine CW.seq ?_
         refine CW.seq ?_
         refine CW.lex [.W, .L, .W, .W] rfl ?_
         refine RW.pure tabOk 1 rfl ?_
         refine RW.load tabOk [.slice A11 y6.1.Way.length c_11] (h104.at 2) ⟨rfl, rfl, rfl, rfl⟩ rfl rfl rfl rfl ?_
         refine RW.pure tabOk 2 rfl ?_
         refine RW.done ?_
         refine NW.next ?_
         refine CW.block ?_
         refine CW.loop (fun n3 a w28 => ∃ (it26_3 : Int) (lb1_1_3 : List Table) (Ab1_1_3 : Option Addr) (cb1_1_3 : Nat) (lb1_6_3 : List Entry) (Ab1_6_3 : Option Addr) (cb1_6_3 : Nat), Sat 65 [(0, .pointer (some ⟨b1, 0, none⟩)), (5, .pointer (some ⟨b7, 0, none⟩)), (24, .slice A11 y6.1.Way.length c_11), (25, .int .i64 (y6.1.Way.length : Int)), (26, .int .i64 it26_3)] a ∧ w27.heap.size ≤ w28.heap.size ∧ OwB kTableO 75 86 w28.heap (okL [(w7.heap.size, none, some 75)]) (okL [(w12.heap.size, none, some 86)]) Ab1_1_3 cb1_1_3 lb1_1_3 ∧ Ow kEntry 86 w28.heap (okL [(w8.heap.size, some w9.heap.size, some 86)]) (okL []) Ab1_6_3 cb1_6_3 lb1_6_3 ∧ Ow kDeviceO 84 w28.heap (okL [(w6.heap.size, some w19.heap.size, some 84)]) (okL [(w6.heap.size, some w19.heap.size, some 93)]) Ab1_0_1 cb1_0_1 lb1_0_1 ∧ Ow kPtr 70 w28.heap (okL [(w24.heap.size, some w25.heap.size, some 70)]) (okL []) A11 c_11 y6.1.Way ∧ Sl kPtr w28.heap (okL [(0, some w.heap.size, none)]) A4 p1 ∧ Ext w w28 ∧ Box w28.heap b1 79 [.slice Ab1_0_1 lb1_0_1.length cb1_0_1, .slice Ab1_1_3 lb1_1_3.length cb1_1_3, .int .i64 p0.Job.Dev, .int .i64 p0.Job.At, .int .i64 y4.Dev, .int .i64 y4.Size, .slice Ab1_6_3 lb1_6_3.length cb1_6_3, .int .i64 p0.Next] ∧ Box w28.heap b7 121 [.int .i64 y6.1.Ptr_.Dev, .int .i64 y6.1.Ptr_.At, .slice A11 y6.1.Way.length c_11] ∧ Box w28.heap b2 79 [.slice none 0 0, .slice none 0 0, .int .i64 0, .int .i64 0, .int .i64 0, .int .i64 0, .slice none 0 0, .int .i64 0] ∧ Box w28.heap 0 gT (arrI .u8 64 tz) ∧ chain_Lose.l2 p0 k y4 it17_1 lb1_0_1 y6 (chain_Lose.l1 p0 p1 k y4 n2) n3 it26_3 lb1_1_3 lb1_6_3 = some r) k ?_ ?_
         have h105 := ((h97.ext x22).ext x23).turnB x24 h102 ⟨.inl (show (75 : Nat) ≠ 121 by decide), trivial⟩ ⟨.inl (show (86 : Nat) ≠ 121 by decide), trivial⟩
         have h106 := ((h98.ext x22).ext x23).turnB x24 h102 ⟨.inl (show (86 : Nat) ≠ 121 by decide), trivial⟩ trivial
         have h107 := ((h96.ext x22).ext x23).turnB x24 h102 ⟨.inl (show (84 : Nat) ≠ 121 by decide), trivial⟩ ⟨.inl (show (93 : Nat) ≠ 121 by decide), trivial⟩
         have h108 := (h101.ext x23).turnB x24 h102 ⟨.inl (show (70 : Nat) ≠ 121 by decide), trivial⟩ trivial
         have h109 := ((((((gF4_1.ext x18).turnB x19 h90 ⟨.inr (by omega), trivial⟩).ext x20).ext x21).ext x22).ext x23).turnB x24 h102 ⟨.inr (by omega), trivial⟩
         have h110 := Ext.turnB (Ext.trans (Ext.trans (Ext.trans (Ext.trans (Ext.turnB (Ext.trans x0_1 x18) x19 (by omega)) x20) x21) x22) x23) x24 (by omega)
         have h111 := ((h94.ext x22).ext x23).turnB x24 (by omega)
         have h112 := ((((((gb2_1.ext x18).turnB x19 (by omega)).ext x20).ext x21).ext x22).ext x23).turnB x24 (by omega)
         have h113 := ((((((g0_1.ext x18).turnB x19 (by omega)).ext x20).ext x21).ext x22).ext x23).turnB x24 (by omega)
         · exact fun a ha => ⟨0, lb1_1_1, Ab1_1_1, cb1_1_1, lb1_6_1, Ab1_6_1, cb1_6_1, ha.sub ⟨rfl, rfl, rfl, rfl, rfl, trivial⟩, by omega, (h105.sub ⟨(.inl ⟨by omega, trivial, rfl⟩), trivial⟩ ⟨(.inl ⟨by omega, trivial, rfl⟩), trivial⟩), (h106.sub ⟨(.inl ⟨by omega, by omega, rfl⟩), trivial⟩ trivial), h107, h108, h109, h110, h111, h104, h112, h113, H⟩
         intro n3 a w28 hI hp
         obtain ⟨it26_3, lb1_1_3, Ab1_1_3, cb1_1_3, lb1_6_3, Ab1_6_3, cb1_6_3, hS, hle, fb1_1_3, fb1_6_3, gL1_b1_0_3, gF12_3, gF4_3, x0_3, gb1_3, gb7_3, gb2_3, g0_3, H⟩ := hI
         cases n3 with
         | zero => cases H
         | succ n3 =>
          rw [chain_Lose.l2] at H
          refine CW.go hp hS ?_
          have h114 : OwB kTableO 75 86 w28.heap (okL [(w7.heap.size, some w28.heap.size, some 75)]) (okL [(w12.heap.size, some w28.heap.size, some 86)]) Ab1_1_3 cb1_1_3 lb1_1_3 := fb1_1_3.close
          refine CW.seq ?_
          refine CW.lex [.W] rfl ?_
          refine RW.pure tabOk 1 rfl ?_
          refine RW.done ?_
          refine NW.next ?_
          refine CW.seq ?_
          by_cases c5 : it26_3 < (y6.1.Way.length : Int)
          ·
           rw [if_pos c5] at H
           refine CW.cond_t rfl (decide_eq_true c5) ?_
           refine CW.skip ?_
           refine NW.next ?_
           refine CW.seq ?_
           refine CW.block ?_
           refine CW.seq ?_
           refine CW.lex [.W, .L, .X, .M] rfl ?_
           obtain ⟨g4, H⟩ := guard_some H
           obtain ⟨ad4, e4, a4⟩ := kPtr_at gF12_3.slL g4.1 g4.2
           refine RW.index tabOk g4.1 g4.2 e4 ⟨rfl, rfl, rfl, rfl⟩ rfl rfl rfl rfl rfl rfl ?_
           refine RW.load tabOk [.int .i64 ((rd y6.1.Way it26_3).Dev), .int .i64 ((rd y6.1.Way it26_3).At)] a4 ⟨rfl, rfl, rfl, rfl⟩ rfl rfl rfl rfl ?_
           refine RW.alloc tabOk (.inl rfl) ⟨rfl, rfl, rfl, rfl⟩ rfl rfl ?_
           intro b8 w29 x25 l10 h115
           have sx25 := x25.size
           have ltb8 := h115.lt
           refine RW.storeBox tabOk h115 [.int .i64 ((rd y6.1.Way it26_3).Dev), .int .i64 ((rd y6.1.Way it26_3).At)] ⟨rfl, rfl, rfl⟩ rfl rfl rfl rfl rfl rfl rfl rfl ?_
           intro w30 x26 h116
           have h117 : Box w30.heap b8 70 [.int .i64 ((rd y6.1.Way it26_3).Dev), .int .i64 ((rd y6.1.Way it26_3).At)] := h116
           have sx26 := x26.size
           refine RW.done ?_
           refine NW.next ?_
           refine CW.seq ?_
           refine CW.lex [.W, .W, .W, .W, .W] rfl ?_
           refine RW.pure tabOk 5 rfl ?_
           refine RW.done ?_
           refine NW.next ?_
           refine CW.seq ?_
           refine CW.seq ?_
           refine CW.ord [0, 1, 3, 0, 8, 31, 63, 127, 127, 255, 1023] (ofL [(0, .W), (1, .W), (3, .W), (2, .L), (4, .L), (5, .X), (6, .W), (7, .W), (8, .W), (9, .W), (10, .W)] .nil) mixed (by kernel_rfl) ?_
           intro w31 x27
           have sx27 := x27.size
           refine RW.pure tabOk 3 rfl ?_
           have h118 := ((gb1_3.ext x25).turnB x26 (by omega)).ext x27
           refine RW.load tabOk [.slice Ab1_0_1 lb1_0_1.length cb1_0_1, .slice Ab1_1_3 lb1_1_3.length cb1_1_3, .int .i64 p0.Job.Dev, .int .i64 p0.Job.At, .int .i64 y4.Dev, .int .i64 y4.Size, .slice Ab1_6_3 lb1_6_3.length cb1_6_3, .int .i64 p0.Next] (h118.at 0) ⟨rfl, rfl, rfl, rfl⟩ rfl rfl rfl rfl ?_
           have h119 := h117.ext x27
           refine RW.load tabOk [.int .i64 ((rd y6.1.Way it26_3).Dev)] ((h119.at 0).take 1 rfl) ⟨rfl, rfl, rfl, rfl⟩ rfl rfl rfl rfl ?_
           have h120 := ((gL1_b1_0_3.ext x25).turnB x26 h115 ⟨.inl (show (84 : Nat) ≠ 70 by decide), trivial⟩ ⟨.inl (show (93 : Nat) ≠ 70 by decide), trivial⟩).ext x27
           have h121 := ((h114.ext x25).turnB x26 h115 ⟨.inl (show (75 : Nat) ≠ 70 by decide), trivial⟩ ⟨.inl (show (86 : Nat) ≠ 70 by decide), trivial⟩).ext x27
           have h122 := ((fb1_6_3.ext x25).turnB x26 h115 ⟨.inl (show (86 : Nat) ≠ 70 by decide), trivial⟩ trivial).ext x27
           obtain ⟨y7, h123, H⟩ := bind_some H
           refine RW.callF (.inl rfl) ent98 ⟨rfl, rfl, rfl, rfl⟩ rfl rfl (chain_Find.calls k (⟨lb1_0_1, lb1_1_3, (⟨p0.Job.Dev, p0.Job.At, (⟨y4.Dev, y4.Size, lb1_6_3⟩ : Table)⟩ : Job), p0.Next⟩ : Pool) Ab1_0_1 cb1_0_1 Ab1_1_3 cb1_1_3 Ab1_6_3 cb1_6_3 ((rd y6.1.Way it26_3).Dev) _ _ (h120.all.to kDevice_ro rfl) h120.len ((h121.ow (show (86 : Nat) ≠ 75 by decide)).all.to kTable_ro rfl) (h121.ow (show (86 : Nat) ≠ 75 by decide)).len h122.all h122.len h123) ?_
           rintro _ w32 ⟨rfl, x28⟩
           refine ⟨_, rfl, x28, ?_⟩
           have sx28 := x28.size
           refine RW.pure tabOk 5 rfl ?_
           refine RW.done ?_
           refine NW.next ?_
           refine CW.seq ?_
           refine CW.lex [.W] rfl ?_
           refine RW.pure tabOk 1 rfl ?_
           refine RW.done ?_
           refine NW.next ?_
           by_cases c6 : y7.2 = true
           ·
            rw [if_pos c6] at H
            refine CW.cond_t rfl (c6) ?_
            refine CW.lex [.W, .W, .W, .L, .W, .W, .W] rfl ?_
            refine RW.pure tabOk 3 rfl ?_
            have h124 := h118.ext x28
            refine RW.load tabOk [.slice Ab1_1_3 lb1_1_3.length cb1_1_3] ((h124.at 1).take 1 rfl) ⟨rfl, rfl, rfl, rfl⟩ rfl rfl rfl rfl ?_
            refine RW.pure tabOk 1 rfl ?_
            obtain ⟨g5, H⟩ := guard_some H
            have h125 := h121.ext x28
            obtain ⟨ad5, A12, c_12, e5, a5, h126⟩ := kTableO_ato (h125.ow (show (86 : Nat) ≠ 75 by decide)) g5.1 g5.2
            refine RW.index tabOk g5.1 g5.2 e5 ⟨rfl, rfl, rfl, rfl⟩ rfl rfl rfl rfl rfl rfl ?_
            refine RW.pure tabOk 1 rfl ?_
            refine RW.done ?_
            refine NW.next ?_
            refine CW.seq ?_
            refine CW.lex [.W, .W, .L, .M, .W] rfl ?_
            refine RW.pure tabOk 2 rfl ?_
            have h127 := h119.ext x28
            refine RW.load tabOk [.int .i64 ((rd y6.1.Way it26_3).At)] (h127.at 1) ⟨rfl, rfl, rfl, rfl⟩ rfl rfl rfl rfl ?_
            refine RW.callFM (R := fun e w33 => ∃ (it53_4 : Int) (lb1_1_4 : List Table) (Ab1_1_4 : Option Addr) (cb1_1_4 : Nat), e = .returned (.int .i64 it53_4) ∧ w32.heap.size ≤ w33.heap.size ∧ OwB kTableO 75 86 w33.heap (okL [(w7.heap.size, some w28.heap.size, some 75)]) (okL [(w12.heap.size, none, some 86)]) Ab1_1_4 cb1_1_4 lb1_1_4 ∧ Ow kDeviceO 84 w33.heap (okL [(w6.heap.size, some w19.heap.size, some 84)]) (okL [(w6.heap.size, some w19.heap.size, some 93)]) Ab1_0_1 cb1_0_1 lb1_0_1 ∧ Ow kEntry 86 w33.heap (okL [(w8.heap.size, some w9.heap.size, some 86)]) (okL []) Ab1_6_3 cb1_6_3 lb1_6_3 ∧ Ow kPtr 70 w33.heap (okL [(w24.heap.size, some w25.heap.size, some 70)]) (okL []) A11 c_11 y6.1.Way ∧ Sl kPtr w33.heap (okL [(0, some w.heap.size, none)]) A4 p1 ∧ Ext w w33 ∧ Box w33.heap b1 79 [.slice Ab1_0_1 lb1_0_1.length cb1_0_1, .slice Ab1_1_4 lb1_1_4.length cb1_1_4, .int .i64 p0.Job.Dev, .int .i64 p0.Job.At, .int .i64 y4.Dev, .int .i64 y4.Size, .slice Ab1_6_3 lb1_6_3.length cb1_6_3, .int .i64 p0.Next] ∧ Box w33.heap b7 121 [.int .i64 y6.1.Ptr_.Dev, .int .i64 y6.1.Ptr_.At, .slice A11 y6.1.Way.length c_11] ∧ Box w33.heap b2 79 [.slice none 0 0, .slice none 0 0, .int .i64 0, .int .i64 0, .int .i64 0, .int .i64 0, .slice none 0 0, .int .i64 0] ∧ Box w33.heap 0 gT (arrI .u8 64 tz) ∧ chain_Lose.j1 it17_1 lb1_0_1 it26_3 lb1_6_3 (chain_Lose.l1 p0 p1 k y4 n2) (chain_Lose.l2 p0 k y4 it17_1 lb1_0_1 y6 (chain_Lose.l1 p0 p1 k y4 n2) n3) it53_4 lb1_1_4 = some r) ent99 ⟨rfl, rfl, rfl, rfl⟩ rfl rfl rfl ?_ ?_
            ·
             refine calls_start Tryd.func99 rfl 43 rfl [.pointer (some (ad5.add (y7.1.toNat * 3))), .int .i64 ((rd y6.1.Way it26_3).At)] rfl ?_
             refine CW.seq ?_
             refine CW.lex [.W] rfl ?_
             refine RW.pure tabOk 1 rfl ?_
             refine RW.done ?_
             refine NW.next ?_
             refine CW.seq ?_
             refine CW.lex [.W, .W, .L, .W, .X, .W] rfl ?_
             refine RW.pure tabOk 2 rfl ?_
             refine RW.load tabOk [.int .i64 ((rd lb1_1_3 y7.1).Dev), .int .i64 ((rd lb1_1_3 y7.1).Size), .slice A12 ((rd lb1_1_3 y7.1).List_).length c_12] a5 ⟨rfl, rfl, rfl, rfl⟩ rfl rfl rfl rfl ?_
             refine RW.pure tabOk 1 rfl ?_
             obtain ⟨y8, h128, H⟩ := bind_some H
             refine RW.callF (.inl rfl) ent132 ⟨rfl, rfl, rfl, rfl⟩ rfl rfl (table_At.calls k (rd lb1_1_3 y7.1) A12 c_12 ((rd y6.1.Way it26_3).At) _ _ h126.all h126.len h128) ?_
             rintro _ w34 ⟨rfl, x29⟩
             refine ⟨_, rfl, x29, ?_⟩
             have sx29 := x29.size
             refine RW.pure tabOk 1 rfl ?_
             refine RW.done ?_
             refine NW.next ?_
             refine CW.seq ?_
             refine CW.block ?_
             refine CW.seq ?_
             refine CW.lex [.W, .W, .W] rfl ?_
             refine RW.pure tabOk 3 rfl ?_
             refine RW.done ?_
             refine NW.next ?_
             by_cases c7 : y8 < 0
             ·
              rw [if_pos c7] at H
              refine CW.cond_t rfl (decide_eq_true c7) ?_
              refine CW.seq ?_
              refine CW.lex [.W] rfl ?_
              refine RW.pure tabOk 1 rfl ?_
              refine RW.done ?_
              refine NW.next ?_
              refine CW.ret ?_
              refine NW.ret_block (NW.ret_then ?_)
              have h129 := h125.ext x29
              have h130 := (h120.ext x28).ext x29
              have h131 := (h122.ext x28).ext x29
              have h132 := ((((gF12_3.ext x25).turnB x26 h115 ⟨.inr (by omega), trivial⟩ trivial).ext x27).ext x28).ext x29
              have h133 := ((((gF4_3.ext x25).turnB x26 h115 ⟨.inr (by omega), trivial⟩).ext x27).ext x28).ext x29
              have h134 := Ext.trans (Ext.trans (Ext.trans (Ext.turnB (Ext.trans x0_3 x25) x26 (by omega)) x27) x28) x29
              have h135 := h124.ext x29
              have h136 := ((((gb7_3.ext x25).turnB x26 (by omega)).ext x27).ext x28).ext x29
              have h137 := ((((gb2_3.ext x25).turnB x26 (by omega)).ext x27).ext x28).ext x29
              have h138 := ((((g0_3.ext x25).turnB x26 (by omega)).ext x27).ext x28).ext x29
              exact NW.ret1 rfl (by rfl) ⟨3, lb1_1_3, Ab1_1_3, cb1_1_3, rfl, by omega, (h129.sub ⟨(.inl ⟨by omega, by omega, rfl⟩), trivial⟩ ⟨(.inl ⟨by omega, trivial, rfl⟩), trivial⟩), h130, h131, h132, h133, h134, h135, h136, h137, h138, H⟩
             ·
              rw [if_neg c7] at H
              refine CW.cond_f rfl (decide_eq_false c7) ?_
              refine CW.seq ?_
              refine CW.ord [0, 1, 3, 7, 0, 31, 63, 127, 0, 256, 768, 1792, 0, 7936, 16128, 32512, 65535, 131071] (ofL [(0, .W), (1, .W), (2, .W), (4, .W), (8, .W), (9, .W), (10, .W), (12, .W), (3, .L), (5, .W), (6, .W), (7, .L), (11, .L), (13, .W), (14, .W), (15, .L), (16, .W), (17, .W)] .nil) mixed (by kernel_rfl) ?_
              intro w35 x30
              have sx30 := x30.size
              refine RW.pure tabOk 8 rfl ?_
              have h139 := (h125.ext x29).ext x30
              obtain ⟨ad6, A13, c_13, e6, a6, h140⟩ := kTableO_ato (h139.ow (show (86 : Nat) ≠ 75 by decide)) g5.1 g5.2
              obtain rfl : ad6 = ad5 := Option.some.inj (e6.symm.trans e5)
              refine RW.load tabOk [.slice A13 ((rd lb1_1_3 y7.1).List_).length c_13] (a6.fld 2) ⟨rfl, rfl, rfl, rfl⟩ rfl rfl rfl rfl ?_
              obtain ⟨g6, H⟩ := guard_some H
              obtain ⟨ad7, e7, a7⟩ := kEntry_at h140.slL g6.1 g6.2
              refine RW.index tabOk g6.1 g6.2 e7 ⟨rfl, rfl, rfl, rfl⟩ rfl rfl rfl rfl rfl rfl ?_
              refine RW.pure tabOk 1 rfl ?_
              refine RW.load tabOk [.int .i64 ((rd ((rd lb1_1_3 y7.1).List_) y8).Stale)] (a7.fld 4) ⟨rfl, rfl, rfl, rfl⟩ rfl rfl rfl rfl ?_
              refine RW.load tabOk [.slice A13 ((rd lb1_1_3 y7.1).List_).length c_13] (a6.fld 2) ⟨rfl, rfl, rfl, rfl⟩ rfl rfl rfl rfl ?_
              obtain ⟨g7, H⟩ := guard_some H
              obtain ⟨ad8, e8, a8⟩ := kEntry_at h140.slL g7.1 g7.2
              refine RW.index tabOk g7.1 g7.2 e8 ⟨rfl, rfl, rfl, rfl⟩ rfl rfl rfl rfl rfl rfl ?_
              refine RW.pure tabOk 1 rfl ?_
              refine RW.load tabOk [.int .i64 ((rd ((rd lb1_1_3 y7.1).List_) y8).Len)] ((a8.fld 1).take 1 rfl) ⟨rfl, rfl, rfl, rfl⟩ rfl rfl rfl rfl ?_
              refine RW.pure tabOk 2 rfl ?_
              refine RW.done ?_
              refine NW.next ?_
              by_cases c8 : (rd ((rd lb1_1_3 y7.1).List_) y8).Stale = (rd ((rd lb1_1_3 y7.1).List_) y8).Len
              ·
               rw [if_pos c8] at H
               refine CW.cond_t rfl (beq_t c8) ?_
               refine CW.seq ?_
               refine CW.lex [.W] rfl ?_
               refine RW.pure tabOk 1 rfl ?_
               refine RW.done ?_
               refine NW.next ?_
               refine CW.ret ?_
               refine NW.ret_block (NW.ret_then ?_)
               have h141 := ((h120.ext x28).ext x29).ext x30
               have h142 := ((h122.ext x28).ext x29).ext x30
               have h143 := (((((gF12_3.ext x25).turnB x26 h115 ⟨.inr (by omega), trivial⟩ trivial).ext x27).ext x28).ext x29).ext x30
               have h144 := (((((gF4_3.ext x25).turnB x26 h115 ⟨.inr (by omega), trivial⟩).ext x27).ext x28).ext x29).ext x30
               have h145 := Ext.trans (Ext.trans (Ext.trans (Ext.trans (Ext.turnB (Ext.trans x0_3 x25) x26 (by omega)) x27) x28) x29) x30
               have h146 := (h124.ext x29).ext x30
               have h147 := (((((gb7_3.ext x25).turnB x26 (by omega)).ext x27).ext x28).ext x29).ext x30
               have h148 := (((((gb2_3.ext x25).turnB x26 (by omega)).ext x27).ext x28).ext x29).ext x30
               have h149 := (((((g0_3.ext x25).turnB x26 (by omega)).ext x27).ext x28).ext x29).ext x30
               exact NW.ret1 rfl (by rfl) ⟨9, lb1_1_3, Ab1_1_3, cb1_1_3, rfl, by omega, (h139.sub ⟨(.inl ⟨by omega, by omega, rfl⟩), trivial⟩ ⟨(.inl ⟨by omega, trivial, rfl⟩), trivial⟩), h141, h142, h143, h144, h145, h146, h147, h148, h149, H⟩
              ·
               rw [if_neg c8] at H
               refine CW.cond_f rfl (beq_f c8) ?_
               refine CW.skip ?_
               refine NW.norm_block (NW.next ?_)
               refine CW.seq ?_
               refine CW.lex [.W, .W, .W, .L, .W, .W, .W, .L, .W, .W, .W, .M] rfl ?_
               refine RW.pure tabOk 3 rfl ?_
               refine RW.load tabOk [.slice A13 ((rd lb1_1_3 y7.1).List_).length c_13] (a6.fld 2) ⟨rfl, rfl, rfl, rfl⟩ rfl rfl rfl rfl ?_
               refine RW.pure tabOk 1 rfl ?_
               obtain ⟨g8, H⟩ := guard_some H
               obtain ⟨ad9, e9, a9⟩ := kEntry_at h140.slL g8.1 g8.2
               refine RW.index tabOk g8.1 g8.2 e9 ⟨rfl, rfl, rfl, rfl⟩ rfl rfl rfl rfl rfl rfl ?_
               refine RW.pure tabOk 1 rfl ?_
               refine RW.load tabOk [.int .i64 ((rd ((rd lb1_1_3 y7.1).List_) y8).Stale)] (a9.fld 4) ⟨rfl, rfl, rfl, rfl⟩ rfl rfl rfl rfl ?_
               refine RW.pure tabOk 1 rfl ?_
               obtain ⟨g9, H⟩ := guard_some H
               obtain ⟨ad10, e10, a10⟩ := kEntry_at h140.slL g9.1 g9.2
               refine RW.index tabOk g9.1 g9.2 e10 ⟨rfl, rfl, rfl, rfl⟩ rfl rfl rfl rfl rfl rfl ?_
               refine RW.pure tabOk 1 rfl ?_
               obtain ⟨blkI1, h150, lblkI1, ublkI1, zblkI1, k1⟩ := OwB.inner (z0 := default) (de := kEntry) h139 (show (86 : Nat) ≠ 75 by decide) (i := y7.1.toNat) (by have := g5; omega) e6 rfl a6 (A1 := A13) (c1 := c_13) (ys := ((rd lb1_1_3 y7.1).List_)) (fun ok hr => by obtain ⟨qa, qc, qe, qh⟩ := kTableO_open hr; cases qe; exact qh) (fun _ _ _ _ _ _ e => e) (by have := g9; omega)
               refine RW.storeElL (y := (⟨(rd ((rd lb1_1_3 y7.1).List_) y8).From, (rd ((rd lb1_1_3 y7.1).List_) y8).Len, (rd ((rd lb1_1_3 y7.1).List_) y8).Dev, (rd ((rd lb1_1_3 y7.1).List_) y8).To, w64 (((rd ((rd lb1_1_3 y7.1).List_) y8).Stale) + 1)⟩ : Entry)) (lv := []) (k := 4) tabOk h150 (j := y8.toNat) (by have := g9; omega) default [.int .i64 (w64 (((rd ((rd lb1_1_3 y7.1).List_) y8).Stale) + 1))] (fun cs ok' hr => by obtain rfl := kEntry_open hr; exact ⟨by simp, kEntry_mk (⟨(rd ((rd lb1_1_3 y7.1).List_) y8).From, (rd ((rd lb1_1_3 y7.1).List_) y8).Len, (rd ((rd lb1_1_3 y7.1).List_) y8).Dev, (rd ((rd lb1_1_3 y7.1).List_) y8).To, w64 (((rd ((rd lb1_1_3 y7.1).List_) y8).Stale) + 1)⟩ : Entry)⟩) trivial ⟨rfl, rfl, rfl⟩ rfl rfl e10 rfl rfl rfl rfl rfl ?_
               intro w36 x31 h151
               have h152 := k1 _ (((rd lb1_1_3 y7.1).List_).set y8.toNat (⟨(rd ((rd lb1_1_3 y7.1).List_) y8).From, (rd ((rd lb1_1_3 y7.1).List_) y8).Len, (rd ((rd lb1_1_3 y7.1).List_) y8).Dev, (rd ((rd lb1_1_3 y7.1).List_) y8).To, w64 (((rd ((rd lb1_1_3 y7.1).List_) y8).Stale) + 1)⟩ : Entry)) (⟨(rd lb1_1_3 y7.1).Dev, (rd lb1_1_3 y7.1).Size, (((rd lb1_1_3 y7.1).List_).set y8.toNat (⟨(rd ((rd lb1_1_3 y7.1).List_) y8).From, (rd ((rd lb1_1_3 y7.1).List_) y8).Len, (rd ((rd lb1_1_3 y7.1).List_) y8).Dev, (rd ((rd lb1_1_3 y7.1).List_) y8).To, w64 (((rd ((rd lb1_1_3 y7.1).List_) y8).Stale) + 1)⟩ : Entry))⟩ : Table) x31 (h151.sub ⟨(.inl ⟨Nat.le_refl _, Nat.le_refl _, rfl⟩), trivial⟩ trivial) (fun ok q => by have q' := kTableO_mk ((⟨(rd lb1_1_3 y7.1).Dev, (rd lb1_1_3 y7.1).Size, (((rd lb1_1_3 y7.1).List_).set y8.toNat (⟨(rd ((rd lb1_1_3 y7.1).List_) y8).From, (rd ((rd lb1_1_3 y7.1).List_) y8).Len, (rd ((rd lb1_1_3 y7.1).List_) y8).Dev, (rd ((rd lb1_1_3 y7.1).List_) y8).To, w64 (((rd ((rd lb1_1_3 y7.1).List_) y8).Stale) + 1)⟩ : Entry))⟩ : Table)) q; simpa only [List.length_set] using q')
               have sx31 := x31.size
               have h153 := ((h124.ext x29).ext x30).turnL x31 (.inl (by decide))
               have h154 : Box w36.heap b1 79 [.slice Ab1_0_1 lb1_0_1.length cb1_0_1, .slice Ab1_1_3 (lb1_1_3.set y7.1.toNat (⟨(rd lb1_1_3 y7.1).Dev, (rd lb1_1_3 y7.1).Size, (((rd lb1_1_3 y7.1).List_).set y8.toNat (⟨(rd ((rd lb1_1_3 y7.1).List_) y8).From, (rd ((rd lb1_1_3 y7.1).List_) y8).Len, (rd ((rd lb1_1_3 y7.1).List_) y8).Dev, (rd ((rd lb1_1_3 y7.1).List_) y8).To, w64 (((rd ((rd lb1_1_3 y7.1).List_) y8).Stale) + 1)⟩ : Entry))⟩ : Table)).length cb1_1_3, .int .i64 p0.Job.Dev, .int .i64 p0.Job.At, .int .i64 y4.Dev, .int .i64 y4.Size, .slice Ab1_6_3 lb1_6_3.length cb1_6_3, .int .i64 p0.Next] := by simpa only [List.length_set] using h153
               refine RW.done ?_
               refine NW.next ?_
               refine CW.seq ?_
               refine CW.lex [.W] rfl ?_
               refine RW.pure tabOk 1 rfl ?_
               refine RW.done ?_
               refine NW.next ?_
               refine CW.ret ?_
               have h155 := (((h120.ext x28).ext x29).ext x30).turnL x31 ⟨⟨.inl (show (84 : Nat) ≠ 86 by decide), trivial⟩, trivial⟩ ⟨⟨.inl (show (93 : Nat) ≠ 86 by decide), trivial⟩, trivial⟩
               have h156 := (((h122.ext x28).ext x29).ext x30).turnL x31 ⟨⟨disjE (by omega), trivial⟩, trivial⟩ trivial
               have h157 := ((((((gF12_3.ext x25).turnB x26 h115 ⟨.inr (by omega), trivial⟩ trivial).ext x27).ext x28).ext x29).ext x30).turnL x31 ⟨⟨.inl (show (70 : Nat) ≠ 86 by decide), trivial⟩, trivial⟩ trivial
               have h158 := ((((((gF4_3.ext x25).turnB x26 h115 ⟨.inr (by omega), trivial⟩).ext x27).ext x28).ext x29).ext x30).turnL x31 ⟨⟨disjE (by omega), trivial⟩, trivial⟩
               have h159 := Ext.turn (Ext.trans (Ext.trans (Ext.trans (Ext.trans (Ext.turnB (Ext.trans x0_3 x25) x26 (by omega)) x27) x28) x29) x30) x31 ⟨by omega, trivial⟩
               have h160 := ((((((gb7_3.ext x25).turnB x26 (by omega)).ext x27).ext x28).ext x29).ext x30).turnL x31 (.inl (by decide))
               have h161 := ((((((gb2_3.ext x25).turnB x26 (by omega)).ext x27).ext x28).ext x29).ext x30).turnL x31 (.inl (by decide))
               have h162 := ((((((g0_3.ext x25).turnB x26 (by omega)).ext x27).ext x28).ext x29).ext x30).turnL x31 (.inr ⟨⟨disjE (by omega), trivial⟩, trivial⟩)
               exact NW.ret1 rfl (by rfl) ⟨0, (lb1_1_3.set y7.1.toNat (⟨(rd lb1_1_3 y7.1).Dev, (rd lb1_1_3 y7.1).Size, (((rd lb1_1_3 y7.1).List_).set y8.toNat (⟨(rd ((rd lb1_1_3 y7.1).List_) y8).From, (rd ((rd lb1_1_3 y7.1).List_) y8).Len, (rd ((rd lb1_1_3 y7.1).List_) y8).Dev, (rd ((rd lb1_1_3 y7.1).List_) y8).To, w64 (((rd ((rd lb1_1_3 y7.1).List_) y8).Stale) + 1)⟩ : Entry))⟩ : Table)), Ab1_1_3, cb1_1_3, rfl, by omega, (h152.sub ⟨(.inl ⟨by omega, by omega, rfl⟩), trivial⟩ ⟨(.inl ⟨by omega, trivial, rfl⟩), trivial⟩), h155, h156, h157, h158, h159, h154, h160, h161, h162, H⟩
            rintro _ w33 ⟨it53_4, lb1_1_4, Ab1_1_4, cb1_1_4, rfl, hle, fb1_1_4, gL1_b1_0_4, gL3_b1_6_4, gF12_4, gF4_4, x0_4, gb1_4, gb7_4, gb2_4, g0_4, H⟩
            refine ⟨_, rfl, ?_⟩
            unfold chain_Lose.j1 at H
            have h163 : OwB kTableO 75 86 w33.heap (okL [(w7.heap.size, some w28.heap.size, some 75)]) (okL [(w12.heap.size, some w33.heap.size, some 86)]) Ab1_1_4 cb1_1_4 lb1_1_4 := fb1_1_4.close
            refine RW.pure tabOk 1 rfl ?_
            refine RW.done ?_
            refine NW.next ?_
            refine CW.seq ?_
            refine CW.lex [.W, .W] rfl ?_
            refine RW.pure tabOk 2 rfl ?_
            refine RW.done ?_
            refine NW.next ?_
            by_cases c9 : it53_4 = 0
            ·
             rw [if_pos c9] at H
             refine CW.cond_f rfl (bne_f c9) ?_
             refine CW.skip ?_
             refine NW.norm_block (NW.next ?_)
             refine CW.lex [.W, .W] rfl ?_
             refine RW.pure tabOk 2 rfl ?_
             refine RW.done ?_
             exact NW.J fun a ha => ⟨n3, Nat.lt_succ_self n3, (w64 (it26_3 + 1)), lb1_1_4, Ab1_1_4, cb1_1_4, lb1_6_3, Ab1_6_3, cb1_6_3, ha.sub ⟨rfl, rfl, rfl, rfl, rfl, trivial⟩, by omega, (h163.sub ⟨(.inl ⟨by omega, trivial, rfl⟩), trivial⟩ ⟨(.inl ⟨by omega, trivial, rfl⟩), trivial⟩), (gL3_b1_6_4.sub ⟨(.inl ⟨by omega, by omega, rfl⟩), trivial⟩ trivial), gL1_b1_0_4, gF12_4, gF4_4, x0_4, gb1_4, gb7_4, gb2_4, g0_4, H⟩
            ·
             rw [if_neg c9] at H
             refine CW.cond_t rfl (bne_t c9) ?_
             refine CW.seq ?_
             refine CW.lex [.W, .W] rfl ?_
             refine RW.pure tabOk 2 rfl ?_
             refine RW.done ?_
             refine NW.next ?_
             refine CW.ret ?_
             refine NW.ret_block (NW.ret_then (NW.ret_then (NW.ret_block (NW.ret_then ?_))))
             exact NW.ret1 rfl (by rfl) ⟨it53_4, lb1_0_1, Ab1_0_1, cb1_0_1, lb1_1_4, Ab1_1_4, cb1_1_4, lb1_6_3, Ab1_6_3, cb1_6_3, rfl, by omega, (gL1_b1_0_4.sub ⟨(.inl ⟨by omega, by omega, rfl⟩), trivial⟩ ⟨(.inl ⟨by omega, trivial, rfl⟩), trivial⟩), (h163.sub ⟨(.inl ⟨by omega, trivial, rfl⟩), trivial⟩ ⟨(.inl ⟨by omega, trivial, rfl⟩), trivial⟩), (gL3_b1_6_4.sub ⟨(.inl ⟨by omega, by omega, rfl⟩), trivial⟩ trivial), gF4_4, x0_4, gb1_4, gb2_4, g0_4, H⟩
           ·
            rw [if_neg c6] at H
            refine CW.cond_f rfl (bool_f c6) ?_
            refine CW.skip ?_
            refine NW.next ?_
            refine CW.seq ?_
            refine CW.lex [.W, .W, .L, .M, .W] rfl ?_
            refine RW.pure tabOk 2 rfl ?_
            have h164 := h119.ext x28
            refine RW.load tabOk [.int .i64 ((rd y6.1.Way it26_3).At)] (h164.at 1) ⟨rfl, rfl, rfl, rfl⟩ rfl rfl rfl rfl ?_
            refine RW.callFM (R := fun e w37 => ∃ (it53_5 : Int) (lb1_6_5 : List Entry) (Ab1_6_5 : Option Addr) (cb1_6_5 : Nat), e = .returned (.int .i64 it53_5) ∧ w32.heap.size ≤ w37.heap.size ∧ Ow kEntry 86 w37.heap (okL [(w8.heap.size, some w9.heap.size, some 86)]) (okL []) Ab1_6_5 cb1_6_5 lb1_6_5 ∧ Ow kDeviceO 84 w37.heap (okL [(w6.heap.size, some w19.heap.size, some 84)]) (okL [(w6.heap.size, some w19.heap.size, some 93)]) Ab1_0_1 cb1_0_1 lb1_0_1 ∧ OwB kTableO 75 86 w37.heap (okL [(w7.heap.size, some w28.heap.size, some 75)]) (okL [(w12.heap.size, some w28.heap.size, some 86)]) Ab1_1_3 cb1_1_3 lb1_1_3 ∧ Ow kPtr 70 w37.heap (okL [(w24.heap.size, some w25.heap.size, some 70)]) (okL []) A11 c_11 y6.1.Way ∧ Sl kPtr w37.heap (okL [(0, some w.heap.size, none)]) A4 p1 ∧ Ext w w37 ∧ Box w37.heap b1 79 [.slice Ab1_0_1 lb1_0_1.length cb1_0_1, .slice Ab1_1_3 lb1_1_3.length cb1_1_3, .int .i64 p0.Job.Dev, .int .i64 p0.Job.At, .int .i64 y4.Dev, .int .i64 y4.Size, .slice Ab1_6_5 lb1_6_5.length cb1_6_5, .int .i64 p0.Next] ∧ Box w37.heap b7 121 [.int .i64 y6.1.Ptr_.Dev, .int .i64 y6.1.Ptr_.At, .slice A11 y6.1.Way.length c_11] ∧ Box w37.heap b2 79 [.slice none 0 0, .slice none 0 0, .int .i64 0, .int .i64 0, .int .i64 0, .int .i64 0, .slice none 0 0, .int .i64 0] ∧ Box w37.heap 0 gT (arrI .u8 64 tz) ∧ chain_Lose.j2 it17_1 lb1_0_1 it26_3 lb1_1_3 (chain_Lose.l1 p0 p1 k y4 n2) (chain_Lose.l2 p0 k y4 it17_1 lb1_0_1 y6 (chain_Lose.l1 p0 p1 k y4 n2) n3) it53_5 lb1_6_5 = some r) ent99 ⟨rfl, rfl, rfl, rfl⟩ rfl rfl rfl ?_ ?_
            ·
             refine calls_start Tryd.func99 rfl 43 rfl [.pointer (some ⟨b1, 4, none⟩), .int .i64 ((rd y6.1.Way it26_3).At)] rfl ?_
             refine CW.seq ?_
             refine CW.lex [.W] rfl ?_
             refine RW.pure tabOk 1 rfl ?_
             refine RW.done ?_
             refine NW.next ?_
             refine CW.seq ?_
             refine CW.lex [.W, .W, .L, .W, .X, .W] rfl ?_
             refine RW.pure tabOk 2 rfl ?_
             have h165 := h118.ext x28
             refine RW.load tabOk [.int .i64 y4.Dev, .int .i64 y4.Size, .slice Ab1_6_3 lb1_6_3.length cb1_6_3] ((h165.at 4).take 3 rfl) ⟨rfl, rfl, rfl, rfl⟩ rfl rfl rfl rfl ?_
             refine RW.pure tabOk 1 rfl ?_
             have h166 := h122.ext x28
             obtain ⟨y9, h167, H⟩ := bind_some H
             refine RW.callF (.inl rfl) ent132 ⟨rfl, rfl, rfl, rfl⟩ rfl rfl (table_At.calls k (⟨y4.Dev, y4.Size, lb1_6_3⟩ : Table) Ab1_6_3 cb1_6_3 ((rd y6.1.Way it26_3).At) _ _ h166.all h166.len h167) ?_
             rintro _ w38 ⟨rfl, x32⟩
             refine ⟨_, rfl, x32, ?_⟩
             have sx32 := x32.size
             refine RW.pure tabOk 1 rfl ?_
             refine RW.done ?_
             refine NW.next ?_
             refine CW.seq ?_
             refine CW.block ?_
             refine CW.seq ?_
             refine CW.lex [.W, .W, .W] rfl ?_
             refine RW.pure tabOk 3 rfl ?_
             refine RW.done ?_
             refine NW.next ?_
             by_cases c10 : y9 < 0
             ·
              rw [if_pos c10] at H
              refine CW.cond_t rfl (decide_eq_true c10) ?_
              refine CW.seq ?_
              refine CW.lex [.W] rfl ?_
              refine RW.pure tabOk 1 rfl ?_
              refine RW.done ?_
              refine NW.next ?_
              refine CW.ret ?_
              refine NW.ret_block (NW.ret_then ?_)
              have h168 := h166.ext x32
              have h169 := (h120.ext x28).ext x32
              have h170 := (h121.ext x28).ext x32
              have h171 := ((((gF12_3.ext x25).turnB x26 h115 ⟨.inr (by omega), trivial⟩ trivial).ext x27).ext x28).ext x32
              have h172 := ((((gF4_3.ext x25).turnB x26 h115 ⟨.inr (by omega), trivial⟩).ext x27).ext x28).ext x32
              have h173 := Ext.trans (Ext.trans (Ext.trans (Ext.turnB (Ext.trans x0_3 x25) x26 (by omega)) x27) x28) x32
              have h174 := h165.ext x32
              have h175 := ((((gb7_3.ext x25).turnB x26 (by omega)).ext x27).ext x28).ext x32
              have h176 := ((((gb2_3.ext x25).turnB x26 (by omega)).ext x27).ext x28).ext x32
              have h177 := ((((g0_3.ext x25).turnB x26 (by omega)).ext x27).ext x28).ext x32
              exact NW.ret1 rfl (by rfl) ⟨3, lb1_6_3, Ab1_6_3, cb1_6_3, rfl, by omega, (h168.sub ⟨(.inl ⟨by omega, by omega, rfl⟩), trivial⟩ trivial), h169, h170, h171, h172, h173, h174, h175, h176, h177, H⟩
             ·
              rw [if_neg c10] at H
              refine CW.cond_f rfl (decide_eq_false c10) ?_
              refine CW.seq ?_
              refine CW.ord [0, 1, 3, 7, 0, 31, 63, 127, 0, 256, 768, 1792, 0, 7936, 16128, 32512, 65535, 131071] (ofL [(0, .W), (1, .W), (2, .W), (4, .W), (8, .W), (9, .W), (10, .W), (12, .W), (3, .L), (5, .W), (6, .W), (7, .L), (11, .L), (13, .W), (14, .W), (15, .L), (16, .W), (17, .W)] .nil) mixed (by kernel_rfl) ?_
              intro w39 x33
              have sx33 := x33.size
              refine RW.pure tabOk 8 rfl ?_
              have h178 := (h165.ext x32).ext x33
              refine RW.load tabOk [.slice Ab1_6_3 lb1_6_3.length cb1_6_3] ((h178.at 6).take 1 rfl) ⟨rfl, rfl, rfl, rfl⟩ rfl rfl rfl rfl ?_
              obtain ⟨g10, H⟩ := guard_some H
              have h179 := (h166.ext x32).ext x33
              obtain ⟨ad11, e11, a11⟩ := kEntry_at h179.slL g10.1 g10.2
              refine RW.index tabOk g10.1 g10.2 e11 ⟨rfl, rfl, rfl, rfl⟩ rfl rfl rfl rfl rfl rfl ?_
              refine RW.pure tabOk 1 rfl ?_
              refine RW.load tabOk [.int .i64 ((rd lb1_6_3 y9).Stale)] (a11.fld 4) ⟨rfl, rfl, rfl, rfl⟩ rfl rfl rfl rfl ?_
              refine RW.load tabOk [.slice Ab1_6_3 lb1_6_3.length cb1_6_3] ((h178.at 6).take 1 rfl) ⟨rfl, rfl, rfl, rfl⟩ rfl rfl rfl rfl ?_
              obtain ⟨g11, H⟩ := guard_some H
              obtain ⟨ad12, e12, a12⟩ := kEntry_at h179.slL g11.1 g11.2
              refine RW.index tabOk g11.1 g11.2 e12 ⟨rfl, rfl, rfl, rfl⟩ rfl rfl rfl rfl rfl rfl ?_
              refine RW.pure tabOk 1 rfl ?_
              refine RW.load tabOk [.int .i64 ((rd lb1_6_3 y9).Len)] ((a12.fld 1).take 1 rfl) ⟨rfl, rfl, rfl, rfl⟩ rfl rfl rfl rfl ?_
              refine RW.pure tabOk 2 rfl ?_
              refine RW.done ?_
              refine NW.next ?_
              by_cases c11 : (rd lb1_6_3 y9).Stale = (rd lb1_6_3 y9).Len
              ·
               rw [if_pos c11] at H
               refine CW.cond_t rfl (beq_t c11) ?_
               refine CW.seq ?_
               refine CW.lex [.W] rfl ?_
               refine RW.pure tabOk 1 rfl ?_
               refine RW.done ?_
               refine NW.next ?_
               refine CW.ret ?_
               refine NW.ret_block (NW.ret_then ?_)
               have h180 := ((h120.ext x28).ext x32).ext x33
               have h181 := ((h121.ext x28).ext x32).ext x33
               have h182 := (((((gF12_3.ext x25).turnB x26 h115 ⟨.inr (by omega), trivial⟩ trivial).ext x27).ext x28).ext x32).ext x33
               have h183 := (((((gF4_3.ext x25).turnB x26 h115 ⟨.inr (by omega), trivial⟩).ext x27).ext x28).ext x32).ext x33
               have h184 := Ext.trans (Ext.trans (Ext.trans (Ext.trans (Ext.turnB (Ext.trans x0_3 x25) x26 (by omega)) x27) x28) x32) x33
               have h185 := (((((gb7_3.ext x25).turnB x26 (by omega)).ext x27).ext x28).ext x32).ext x33
               have h186 := (((((gb2_3.ext x25).turnB x26 (by omega)).ext x27).ext x28).ext x32).ext x33
               have h187 := (((((g0_3.ext x25).turnB x26 (by omega)).ext x27).ext x28).ext x32).ext x33
               exact NW.ret1 rfl (by rfl) ⟨9, lb1_6_3, Ab1_6_3, cb1_6_3, rfl, by omega, (h179.sub ⟨(.inl ⟨by omega, by omega, rfl⟩), trivial⟩ trivial), h180, h181, h182, h183, h184, h178, h185, h186, h187, H⟩
              ·
               rw [if_neg c11] at H
               refine CW.cond_f rfl (beq_f c11) ?_
               refine CW.skip ?_
               refine NW.norm_block (NW.next ?_)
               refine CW.seq ?_
               refine CW.lex [.W, .W, .W, .L, .W, .W, .W, .L, .W, .W, .W, .M] rfl ?_
               refine RW.pure tabOk 3 rfl ?_
               refine RW.load tabOk [.slice Ab1_6_3 lb1_6_3.length cb1_6_3] ((h178.at 6).take 1 rfl) ⟨rfl, rfl, rfl, rfl⟩ rfl rfl rfl rfl ?_
               refine RW.pure tabOk 1 rfl ?_
               obtain ⟨g12, H⟩ := guard_some H
               obtain ⟨ad13, e13, a13⟩ := kEntry_at h179.slL g12.1 g12.2
               refine RW.index tabOk g12.1 g12.2 e13 ⟨rfl, rfl, rfl, rfl⟩ rfl rfl rfl rfl rfl rfl ?_
               refine RW.pure tabOk 1 rfl ?_
               refine RW.load tabOk [.int .i64 ((rd lb1_6_3 y9).Stale)] (a13.fld 4) ⟨rfl, rfl, rfl, rfl⟩ rfl rfl rfl rfl ?_
               refine RW.pure tabOk 1 rfl ?_
               obtain ⟨g13, H⟩ := guard_some H
               obtain ⟨ad14, e14, a14⟩ := kEntry_at h179.slL g13.1 g13.2
               refine RW.index tabOk g13.1 g13.2 e14 ⟨rfl, rfl, rfl, rfl⟩ rfl rfl rfl rfl rfl rfl ?_
               refine RW.pure tabOk 1 rfl ?_
               refine RW.storeElL (y := (⟨(rd lb1_6_3 y9).From, (rd lb1_6_3 y9).Len, (rd lb1_6_3 y9).Dev, (rd lb1_6_3 y9).To, w64 (((rd lb1_6_3 y9).Stale) + 1)⟩ : Entry)) (lv := []) (k := 4) tabOk h179 (j := y9.toNat) (by have := g13; omega) default [.int .i64 (w64 (((rd lb1_6_3 y9).Stale) + 1))] (fun cs ok' hr => by obtain rfl := kEntry_open hr; exact ⟨by simp, kEntry_mk (⟨(rd lb1_6_3 y9).From, (rd lb1_6_3 y9).Len, (rd lb1_6_3 y9).Dev, (rd lb1_6_3 y9).To, w64 (((rd lb1_6_3 y9).Stale) + 1)⟩ : Entry)⟩) trivial ⟨rfl, rfl, rfl⟩ rfl rfl e14 rfl rfl rfl rfl rfl ?_
               intro w40 x34 h188
               have sx34 := x34.size
               have h189 := h188.sub (l' := [(w8.heap.size, some w9.heap.size, some 86)]) (li' := []) ⟨(.inl ⟨by omega, by omega, rfl⟩), trivial⟩ trivial
               have h190 := h178.turnL x34 (.inl (by decide))
               have h191 : Box w40.heap b1 79 [.slice Ab1_0_1 lb1_0_1.length cb1_0_1, .slice Ab1_1_3 lb1_1_3.length cb1_1_3, .int .i64 p0.Job.Dev, .int .i64 p0.Job.At, .int .i64 y4.Dev, .int .i64 y4.Size, .slice Ab1_6_3 (lb1_6_3.set y9.toNat (⟨(rd lb1_6_3 y9).From, (rd lb1_6_3 y9).Len, (rd lb1_6_3 y9).Dev, (rd lb1_6_3 y9).To, w64 (((rd lb1_6_3 y9).Stale) + 1)⟩ : Entry)).length cb1_6_3, .int .i64 p0.Next] := by simpa only [List.length_set] using h190
               refine RW.done ?_
               refine NW.next ?_
               refine CW.seq ?_
               refine CW.lex [.W] rfl ?_
               refine RW.pure tabOk 1 rfl ?_
               refine RW.done ?_
               refine NW.next ?_
               refine CW.ret ?_
               have h192 := (((h120.ext x28).ext x32).ext x33).turnL x34 ⟨⟨.inl (show (84 : Nat) ≠ 86 by decide), trivial⟩, trivial⟩ ⟨⟨.inl (show (93 : Nat) ≠ 86 by decide), trivial⟩, trivial⟩
               have h193 := (((h121.ext x28).ext x32).ext x33).turnL x34 ⟨⟨.inl (show (75 : Nat) ≠ 86 by decide), trivial⟩, trivial⟩ ⟨⟨.inr (.inr (by omega)), trivial⟩, trivial⟩
               have h194 := ((((((gF12_3.ext x25).turnB x26 h115 ⟨.inr (by omega), trivial⟩ trivial).ext x27).ext x28).ext x32).ext x33).turnL x34 ⟨⟨.inl (show (70 : Nat) ≠ 86 by decide), trivial⟩, trivial⟩ trivial
               have h195 := ((((((gF4_3.ext x25).turnB x26 h115 ⟨.inr (by omega), trivial⟩).ext x27).ext x28).ext x32).ext x33).turnL x34 ⟨⟨.inr (.inl (by omega)), trivial⟩, trivial⟩
               have h196 := Ext.turn (Ext.trans (Ext.trans (Ext.trans (Ext.trans (Ext.turnB (Ext.trans x0_3 x25) x26 (by omega)) x27) x28) x32) x33) x34 ⟨by omega, trivial⟩
               have h197 := ((((((gb7_3.ext x25).turnB x26 (by omega)).ext x27).ext x28).ext x32).ext x33).turnL x34 (.inl (by decide))
               have h198 := ((((((gb2_3.ext x25).turnB x26 (by omega)).ext x27).ext x28).ext x32).ext x33).turnL x34 (.inl (by decide))
               have h199 := ((((((g0_3.ext x25).turnB x26 (by omega)).ext x27).ext x28).ext x32).ext x33).turnL x34 (.inr ⟨⟨.inr (.inl (by omega)), trivial⟩, trivial⟩)
               exact NW.ret1 rfl (by rfl) ⟨0, (lb1_6_3.set y9.toNat (⟨(rd lb1_6_3 y9).From, (rd lb1_6_3 y9).Len, (rd lb1_6_3 y9).Dev, (rd lb1_6_3 y9).To, w64 (((rd lb1_6_3 y9).Stale) + 1)⟩ : Entry)), Ab1_6_3, cb1_6_3, rfl, by omega, (h189.sub ⟨(.inl ⟨by omega, by omega, rfl⟩), trivial⟩ trivial), h192, h193, h194, h195, h196, h191, h197, h198, h199, H⟩
            rintro _ w37 ⟨it53_5, lb1_6_5, Ab1_6_5, cb1_6_5, rfl, hle, fb1_6_5, gL1_b1_0_5, gL3_b1_1_5, gF12_5, gF4_5, x0_5, gb1_5, gb7_5, gb2_5, g0_5, H⟩
            refine ⟨_, rfl, ?_⟩
            unfold chain_Lose.j2 at H
            refine RW.pure tabOk 1 rfl ?_
            refine RW.done ?_
            refine NW.next ?_
            refine CW.seq ?_
            refine CW.lex [.W, .W] rfl ?_
            refine RW.pure tabOk 2 rfl ?_
            refine RW.done ?_
            refine NW.next ?_
            by_cases c12 : it53_5 = 0
            ·
             rw [if_pos c12] at H
             refine CW.cond_f rfl (bne_f c12) ?_
             refine CW.skip ?_
             refine NW.norm_block (NW.next ?_)
             refine CW.lex [.W, .W] rfl ?_
             refine RW.pure tabOk 2 rfl ?_
             refine RW.done ?_
             exact NW.J fun a ha => ⟨n3, Nat.lt_succ_self n3, (w64 (it26_3 + 1)), lb1_1_3, Ab1_1_3, cb1_1_3, lb1_6_5, Ab1_6_5, cb1_6_5, ha.sub ⟨rfl, rfl, rfl, rfl, rfl, trivial⟩, by omega, (gL3_b1_1_5.sub ⟨(.inl ⟨by omega, trivial, rfl⟩), trivial⟩ ⟨(.inl ⟨by omega, trivial, rfl⟩), trivial⟩), (fb1_6_5.sub ⟨(.inl ⟨by omega, by omega, rfl⟩), trivial⟩ trivial), gL1_b1_0_5, gF12_5, gF4_5, x0_5, gb1_5, gb7_5, gb2_5, g0_5, H⟩
            ·
             rw [if_neg c12] at H
             refine CW.cond_t rfl (bne_t c12) ?_
             refine CW.seq ?_
             refine CW.lex [.W, .W] rfl ?_
             refine RW.pure tabOk 2 rfl ?_
             refine RW.done ?_
             refine NW.next ?_
             refine CW.ret ?_
             refine NW.ret_block (NW.ret_then (NW.ret_then (NW.ret_block (NW.ret_then ?_))))
             exact NW.ret1 rfl (by rfl) ⟨it53_5, lb1_0_1, Ab1_0_1, cb1_0_1, lb1_1_3, Ab1_1_3, cb1_1_3, lb1_6_5, Ab1_6_5, cb1_6_5, rfl, by omega, (gL1_b1_0_5.sub ⟨(.inl ⟨by omega, by omega, rfl⟩), trivial⟩ ⟨(.inl ⟨by omega, trivial, rfl⟩), trivial⟩), (gL3_b1_1_5.sub ⟨(.inl ⟨by omega, trivial, rfl⟩), trivial⟩ ⟨(.inl ⟨by omega, trivial, rfl⟩), trivial⟩), (fb1_6_5.sub ⟨(.inl ⟨by omega, by omega, rfl⟩), trivial⟩ trivial), gF4_5, x0_5, gb1_5, gb2_5, g0_5, H⟩
          ·
           rw [if_neg c5] at H
           refine CW.cond_f rfl (decide_eq_false c5) ?_
           refine CW.exit ?_
           refine NW.exit_then (NW.exit_then (NW.exit_hit ?_))
           refine NW.next ?_
           refine CW.seq ?_
           refine CW.ord [0, 1, 3, 7, 0, 16, 63, 127] (ofL [(0, .W), (1, .W), (2, .W), (4, .W), (3, .L), (5, .L), (6, .M), (7, .W)] .nil) mixed (by kernel_rfl) ?_
           intro w41 x35
           have sx35 := x35.size
           refine RW.pure tabOk 4 rfl ?_
           have h200 := gb1_3.ext x35
           refine RW.load tabOk [.slice Ab1_0_1 lb1_0_1.length cb1_0_1] ((h200.at 0).take 1 rfl) ⟨rfl, rfl, rfl, rfl⟩ rfl rfl rfl rfl ?_
           have h201 := gb7_3.ext x35
           refine RW.load tabOk [.int .i64 y6.1.Ptr_.Dev, .int .i64 y6.1.Ptr_.At] ((h201.at 0).take 2 rfl) ⟨rfl, rfl, rfl, rfl⟩ rfl rfl rfl rfl ?_
           refine RW.callFM (R := fun e w42 => ∃ (it64_6 : Int) (lb1_0_6 : List Device) (Ab1_0_6 : Option Addr) (cb1_0_6 : Nat), e = .returned (.int .i64 it64_6) ∧ w41.heap.size ≤ w42.heap.size ∧ Ow kDeviceO 84 w42.heap (okL [(w6.heap.size, some w19.heap.size, some 84)]) (okL [(w6.heap.size, none, some 93)]) Ab1_0_6 cb1_0_6 lb1_0_6 ∧ OwB kTableO 75 86 w42.heap (okL [(w7.heap.size, some w28.heap.size, some 75)]) (okL [(w12.heap.size, some w28.heap.size, some 86)]) Ab1_1_3 cb1_1_3 lb1_1_3 ∧ Ow kEntry 86 w42.heap (okL [(w8.heap.size, some w9.heap.size, some 86)]) (okL []) Ab1_6_3 cb1_6_3 lb1_6_3 ∧ Sl kPtr w42.heap (okL [(0, some w.heap.size, none)]) A4 p1 ∧ Ext w w42 ∧ Box w42.heap b1 79 [.slice Ab1_0_6 lb1_0_6.length cb1_0_6, .slice Ab1_1_3 lb1_1_3.length cb1_1_3, .int .i64 p0.Job.Dev, .int .i64 p0.Job.At, .int .i64 y4.Dev, .int .i64 y4.Size, .slice Ab1_6_3 lb1_6_3.length cb1_6_3, .int .i64 p0.Next] ∧ Box w42.heap b2 79 [.slice none 0 0, .slice none 0 0, .int .i64 0, .int .i64 0, .int .i64 0, .int .i64 0, .slice none 0 0, .int .i64 0] ∧ Box w42.heap 0 gT (arrI .u8 64 tz) ∧ chain_Lose.j3 it17_1 lb1_1_3 lb1_6_3 (chain_Lose.l1 p0 p1 k y4 n2) it64_6 lb1_0_6 = some r) ent71 ⟨rfl, rfl, rfl, rfl⟩ rfl rfl rfl ?_ ?_
           ·
            refine calls_start Tryd.func71 rfl 56 rfl [.slice Ab1_0_1 lb1_0_1.length cb1_0_1, .agg #[.int .i64 y6.1.Ptr_.Dev, .int .i64 y6.1.Ptr_.At]] rfl ?_
            refine CW.seq ?_
            refine CW.lex [.X, .W] rfl ?_
            refine RW.box (cs := [.int .i64 y6.1.Ptr_.Dev, .int .i64 y6.1.Ptr_.At]) (.inl rfl) ⟨rfl, rfl, rfl, rfl⟩ rfl rfl rfl ?_
            intro b9 w43 x36 l13 h202
            have sx36 := x36.size
            have ltb9 := h202.lt
            refine RW.pure tabOk 1 rfl ?_
            refine RW.done ?_
            refine NW.next ?_
            refine CW.seq ?_
            refine CW.lex [.W, .W, .L, .X, .W, .W, .W, .W, .W] rfl ?_
            refine RW.pure tabOk 2 rfl ?_
            refine RW.load tabOk [.int .i64 y6.1.Ptr_.Dev] ((h202.at 0).take 1 rfl) ⟨rfl, rfl, rfl, rfl⟩ rfl rfl rfl rfl ?_
            have h203 := (gL1_b1_0_3.ext x35).ext x36
            obtain ⟨y10, h204, H⟩ := bind_some H
            refine RW.callF (.inl rfl) ent86 ⟨rfl, rfl, rfl, rfl⟩ rfl rfl (room_Find.calls k Ab1_0_1 cb1_0_1 lb1_0_1 y6.1.Ptr_.Dev _ _ (h203.all.to kDevice_ro rfl) h203.len h204) ?_
            rintro _ w44 ⟨rfl, x37⟩
            refine ⟨_, rfl, x37, ?_⟩
            have sx37 := x37.size
            refine RW.pure tabOk 5 rfl ?_
            refine RW.done ?_
            refine NW.next ?_
            refine CW.seq ?_
            refine CW.block ?_
            refine CW.seq ?_
            refine CW.lex [.W, .W, .W] rfl ?_
            refine RW.pure tabOk 3 rfl ?_
            refine RW.done ?_
            refine NW.next ?_
            by_cases c13 : y10.2 = true
            ·
             rw [if_pos c13] at H
             refine CW.cond_f rfl (not_f (c13)) ?_
             refine CW.seqJ (fun a w45 => ∃ (bt17_7 : Bool), Sat 56 [(0, .slice Ab1_0_1 lb1_0_1.length cb1_0_1), (3, .pointer (some ⟨b9, 0, none⟩)), (5, .int .i64 y10.1), (17, .bool bt17_7)] a ∧ w44.heap.size ≤ w45.heap.size ∧ Ow kDeviceO 84 w45.heap (okL [(w6.heap.size, some w19.heap.size, some 84)]) (okL [(w6.heap.size, some w19.heap.size, some 93)]) Ab1_0_1 cb1_0_1 lb1_0_1 ∧ OwB kTableO 75 86 w45.heap (okL [(w7.heap.size, some w28.heap.size, some 75)]) (okL [(w12.heap.size, some w28.heap.size, some 86)]) Ab1_1_3 cb1_1_3 lb1_1_3 ∧ Ow kEntry 86 w45.heap (okL [(w8.heap.size, some w9.heap.size, some 86)]) (okL []) Ab1_6_3 cb1_6_3 lb1_6_3 ∧ Sl kPtr w45.heap (okL [(0, some w.heap.size, none)]) A4 p1 ∧ Ext w w45 ∧ Box w45.heap b9 70 [.int .i64 y6.1.Ptr_.Dev, .int .i64 y6.1.Ptr_.At] ∧ Box w45.heap b1 79 [.slice Ab1_0_1 lb1_0_1.length cb1_0_1, .slice Ab1_1_3 lb1_1_3.length cb1_1_3, .int .i64 p0.Job.Dev, .int .i64 p0.Job.At, .int .i64 y4.Dev, .int .i64 y4.Size, .slice Ab1_6_3 lb1_6_3.length cb1_6_3, .int .i64 p0.Next] ∧ Box w45.heap b2 79 [.slice none 0 0, .slice none 0 0, .int .i64 0, .int .i64 0, .int .i64 0, .int .i64 0, .slice none 0 0, .int .i64 0] ∧ Box w45.heap 0 gT (arrI .u8 64 tz) ∧ chain_Lose.j4 k it17_1 lb1_0_1 y6 lb1_1_3 lb1_6_3 y10 (chain_Lose.l1 p0 p1 k y4 n2) bt17_7 = some r) ?_ ?_
             ·
              refine CW.ord [0, 1, 3, 7, 15, 31, 15, 15, 207, 463, 975, 2047, 4095, 8191] (ofL [(0, .W), (1, .L), (2, .W), (3, .W), (4, .W), (6, .W), (7, .W), (8, .W), (9, .W), (5, .L), (10, .L), (11, .W), (12, .W), (13, .W)] .nil) mixed (by kernel_rfl) ?_
              intro w46 x38
              have sx38 := x38.size
              refine RW.pure tabOk 1 rfl ?_
              have h205 := (h202.ext x37).ext x38
              refine RW.load tabOk [.int .i64 y6.1.Ptr_.At] (h205.at 1) ⟨rfl, rfl, rfl, rfl⟩ rfl rfl rfl rfl ?_
              refine RW.pure tabOk 2 rfl ?_
              by_cases c14 : y6.1.Ptr_.At < 0
              ·
               rw [if_pos c14] at H
               refine RW.bool 21 (b' := true) (decide_eq_true c14) rfl ?_
               refine RW.pure tabOk 10 rfl ?_
               refine RW.done ?_
               have h206 := (h203.ext x37).ext x38
               have h207 := (((h114.ext x35).ext x36).ext x37).ext x38
               have h208 := (((fb1_6_3.ext x35).ext x36).ext x37).ext x38
               have h209 := (((gF4_3.ext x35).ext x36).ext x37).ext x38
               have h210 := Ext.trans (Ext.trans (Ext.trans (Ext.trans x0_3 x35) x36) x37) x38
               have h211 := ((h200.ext x36).ext x37).ext x38
               have h212 := (((gb2_3.ext x35).ext x36).ext x37).ext x38
               have h213 := (((g0_3.ext x35).ext x36).ext x37).ext x38
               exact NW.J fun a ha => ⟨true, ha.sub ⟨rfl, rfl, rfl, rfl, trivial⟩, by omega, h206, h207, h208, h209, h210, h205, h211, h212, h213, H⟩
              ·
               rw [if_neg c14] at H
               refine RW.bool 21 (b' := false) (decide_eq_false c14) rfl ?_
               refine RW.pure tabOk 3 rfl ?_
               obtain ⟨g14, H⟩ := guard_some H
               have h214 := (h203.ext x37).ext x38
               obtain ⟨ad15, A14, c_14, A15, c_15, e15, a15, h215, h216⟩ := kDeviceO_ato h214 g14.1 g14.2
               refine RW.index tabOk g14.1 g14.2 e15 ⟨rfl, rfl, rfl, rfl⟩ rfl rfl rfl rfl rfl rfl ?_
               refine RW.pure tabOk 1 rfl ?_
               refine RW.load tabOk [.int .i64 y6.1.Ptr_.At] (h205.at 1) ⟨rfl, rfl, rfl, rfl⟩ rfl rfl rfl rfl ?_
               refine RW.load tabOk [.int .i64 ((rd lb1_0_1 y10.1).Size)] ((a15.fld 1).take 1 rfl) ⟨rfl, rfl, rfl, rfl⟩ rfl rfl rfl rfl ?_
               refine RW.pure tabOk 3 rfl ?_
               refine RW.done ?_
               have h217 := (((h114.ext x35).ext x36).ext x37).ext x38
               have h218 := (((fb1_6_3.ext x35).ext x36).ext x37).ext x38
               have h219 := (((gF4_3.ext x35).ext x36).ext x37).ext x38
               have h220 := Ext.trans (Ext.trans (Ext.trans (Ext.trans x0_3 x35) x36) x37) x38
               have h221 := ((h200.ext x36).ext x37).ext x38
               have h222 := (((gb2_3.ext x35).ext x36).ext x37).ext x38
               have h223 := (((g0_3.ext x35).ext x36).ext x37).ext x38
               exact NW.J fun a ha => ⟨(decide (((rd lb1_0_1 y10.1).Size) ≤ y6.1.Ptr_.At)), ha.sub ⟨rfl, rfl, rfl, rfl, trivial⟩, by omega, h214, h217, h218, h219, h220, h205, h221, h222, h223, H⟩
             intro a w45 hJ hp
             obtain ⟨bt17_7, hS, hle, gL1_b1_0_7, gL3_b1_1_7, gL3_b1_6_7, gF4_7, x0_7, gb9_7, gb1_7, gb2_7, g0_7, H⟩ := hJ
             unfold chain_Lose.j4 at H
             refine CW.go hp hS ?_
             by_cases c15 : bt17_7 = true
             ·
              rw [if_pos c15] at H
              refine CW.cond_t rfl (c15) ?_
              refine CW.seq ?_
              refine CW.lex [.W] rfl ?_
              refine RW.pure tabOk 1 rfl ?_
              refine RW.done ?_
              refine NW.next ?_
              refine CW.ret ?_
              refine NW.ret_block (NW.ret_then ?_)
              exact NW.ret1 rfl (by rfl) ⟨1, lb1_0_1, Ab1_0_1, cb1_0_1, rfl, by omega, (gL1_b1_0_7.sub ⟨(.inl ⟨by omega, by omega, rfl⟩), trivial⟩ ⟨(.inl ⟨by omega, trivial, rfl⟩), trivial⟩), gL3_b1_1_7, gL3_b1_6_7, gF4_7, x0_7, gb1_7, gb2_7, g0_7, H⟩
             ·
              rw [if_neg c15] at H
              refine CW.cond_f rfl (bool_f c15) ?_
              refine CW.seq ?_
              refine CW.ord [0, 0, 3, 7, 15, 0, 32, 127, 255, 511] (ofL [(0, .W), (1, .W), (2, .W), (5, .W), (3, .L), (6, .L), (4, .X), (7, .X), (8, .W), (9, .W)] .nil) mixed (by kernel_rfl) ?_
              intro w47 x39
              have sx39 := x39.size
              refine RW.pure tabOk 2 rfl ?_
              obtain ⟨g15, H⟩ := guard_some H
              have h224 := gL1_b1_0_7.ext x39
              obtain ⟨ad16, A16, c_16, A17, c_17, e16, a16, h225, h226⟩ := kDeviceO_ato h224 g15.1 g15.2
              refine RW.index tabOk g15.1 g15.2 e16 ⟨rfl, rfl, rfl, rfl⟩ rfl rfl rfl rfl rfl rfl ?_
              refine RW.pure tabOk 1 rfl ?_
              refine RW.load tabOk [.int .i64 ((rd lb1_0_1 y10.1).ID), .int .i64 ((rd lb1_0_1 y10.1).Size), .slice A16 ((rd lb1_0_1 y10.1).Free).length c_16, .slice A17 ((rd lb1_0_1 y10.1).Late).length c_17] a16 ⟨rfl, rfl, rfl, rfl⟩ rfl rfl rfl rfl ?_
              have h227 := gb9_7.ext x39
              refine RW.load tabOk [.int .i64 y6.1.Ptr_.At] (h227.at 1) ⟨rfl, rfl, rfl, rfl⟩ rfl rfl rfl rfl ?_
              obtain ⟨y11, h228, H⟩ := bind_some H
              refine RW.callF (.inl rfl) ent87 ⟨rfl, rfl, rfl, rfl⟩ rfl rfl (room_Busy.calls k (rd lb1_0_1 y10.1) A16 c_16 A17 c_17 _ _ h225.all h225.len h226.all h226.len h228) ?_
              rintro _ w48 ⟨rfl, x40⟩
              refine ⟨_, rfl, x40, ?_⟩
              have sx40 := x40.size
              obtain ⟨y12, h229, H⟩ := bind_some H
              refine RW.callF (.inl rfl) ent64 ⟨rfl, rfl, rfl, rfl⟩ rfl rfl (seg_Set_Has.calls y11 y6.1.Ptr_.At _ _ h229) ?_
              rintro _ w49 ⟨rfl, x41⟩
              refine ⟨_, rfl, x41, ?_⟩
              have sx41 := x41.size
              refine RW.pure tabOk 2 rfl ?_
              refine RW.done ?_
              refine NW.next ?_
              by_cases c16 : y12 = true
              ·
               rw [if_pos c16] at H
               refine CW.cond_f rfl (not_f (c16)) ?_
               refine CW.skip ?_
               refine NW.norm_block (NW.next ?_)
               refine CW.seq ?_
               refine CW.ord [0, 0, 0, 0, 12, 28, 60, 124, 0, 256, 1020, 2044, 4092, 8191, 16383, 32767] (ofL [(0, .W), (1, .W), (2, .W), (3, .W), (4, .W), (5, .W), (8, .W), (6, .L), (9, .L), (7, .X), (10, .X), (11, .W), (12, .X), (13, .W), (14, .W), (15, .M)] .nil) mixed (by kernel_rfl) ?_
               intro w50 x42
               have sx42 := x42.size
               refine RW.pure tabOk 4 rfl ?_
               obtain ⟨g16, H⟩ := guard_some H
               have h230 := ((h224.ext x40).ext x41).ext x42
               obtain ⟨ad17, A18, c_18, A19, c_19, e17, a17, h231, h232⟩ := kDeviceO_ato h230 g16.1 g16.2
               refine RW.index tabOk g16.1 g16.2 e17 ⟨rfl, rfl, rfl, rfl⟩ rfl rfl rfl rfl rfl rfl ?_
               refine RW.pure tabOk 2 rfl ?_
               refine RW.load tabOk [.slice A19 ((rd lb1_0_1 y10.1).Late).length c_19] (a17.fld 3) ⟨rfl, rfl, rfl, rfl⟩ rfl rfl rfl rfl ?_
               have h233 := ((h227.ext x40).ext x41).ext x42
               refine RW.load tabOk [.int .i64 y6.1.Ptr_.At] (h233.at 1) ⟨rfl, rfl, rfl, rfl⟩ rfl rfl rfl rfl ?_
               obtain ⟨y13, h234, H⟩ := bind_some H
               refine RW.callF (.inl rfl) ent52 ⟨rfl, rfl, rfl, rfl⟩ rfl rfl (seg_Make.calls k A19 c_19 ((rd lb1_0_1 y10.1).Late) _ _ h232.all h232.len h234) ?_
               rintro _ w51 ⟨rfl, x43⟩
               refine ⟨_, rfl, x43, ?_⟩
               have sx43 := x43.size
               obtain ⟨y14, h235, H⟩ := bind_some H
               refine RW.callF (.inl rfl) ent63 ⟨rfl, rfl, rfl, rfl⟩ rfl rfl (seg_One.calls y6.1.Ptr_.At _ _ h235) ?_
               rintro _ w52 ⟨rfl, x44⟩
               refine ⟨_, rfl, x44, ?_⟩
               have sx44 := x44.size
               refine RW.pure tabOk 1 rfl ?_
               have h236 := (((((g0_7.ext x39).ext x40).ext x41).ext x42).ext x43).ext x44
               obtain ⟨y15, h237, H⟩ := bind_some H
               refine RW.callF (.inl rfl) ent53 ⟨rfl, rfl, rfl, rfl⟩ rfl rfl (seg_Set_Segs.calls k (uor y13 y14) _ _ h236 h237) ?_
               rintro _ w53 ⟨A20, c_20, rfl, x45, h238⟩
               refine ⟨_, rfl, x45, ?_⟩
               have sx45 := x45.size
               have h239 : Ow kSeg 93 w53.heap (okL [(w52.heap.size, some w53.heap.size, some 93)]) (okL []) A20 c_20 y15 := h238.close
               obtain ⟨g17, H⟩ := guard_some H
               have h240 := ((h230.ext x43).ext x44).ext x45
               obtain ⟨ad18, A21, c_21, A22, c_22, e18, a18, h241, h242⟩ := kDeviceO_ato h240 g17.1 g17.2
               refine RW.index tabOk g17.1 g17.2 e18 ⟨rfl, rfl, rfl, rfl⟩ rfl rfl rfl rfl rfl rfl ?_
               refine RW.pure tabOk 1 rfl ?_
               refine RW.storeElL (y := (⟨(rd lb1_0_1 y10.1).ID, (rd lb1_0_1 y10.1).Size, (rd lb1_0_1 y10.1).Free, y15⟩ : Device)) (lv := [(w52.heap.size, some w53.heap.size, some 93)]) (k := 3) tabOk h240 (j := y10.1.toNat) (by have := g17; omega) default [.slice A20 y15.length c_20] (fun cs ok' hr => by obtain ⟨qa1, qc1, qa2, qc2, rfl, q1, q2⟩ := kDeviceO_open hr; exact ⟨by simp, kDeviceO_mk (⟨(rd lb1_0_1 y10.1).ID, (rd lb1_0_1 y10.1).Size, (rd lb1_0_1 y10.1).Free, y15⟩ : Device) (q1.mono (fun _ _ ho => Or.inl ho) (fun _ _ ho => Or.inl ho)) (h239.mono (fun _ _ ho => Or.inr (okL_sub (l := [(w52.heap.size, some w53.heap.size, some 93)]) (l' := [(w52.heap.size, some w53.heap.size, some 93)]) ⟨(.inl ⟨by omega, by omega, rfl⟩), trivial⟩ ho)) (fun _ _ ho => Or.inr (okL_sub (l := []) (l' := [(w52.heap.size, some w53.heap.size, some 93)]) trivial ho)))⟩) ⟨⟨.inl (show (93 : Nat) ≠ 84 by decide), trivial⟩, trivial⟩ ⟨rfl, rfl, rfl⟩ rfl rfl e18 rfl rfl rfl rfl rfl ?_
               intro w54 x46 h243
               have sx46 := x46.size
               have h244 := h243.close.sub (l' := [(w6.heap.size, some w19.heap.size, some 84)]) (li' := [(w6.heap.size, some w53.heap.size, some 93)]) ⟨(.inl ⟨by omega, by omega, rfl⟩), trivial⟩ ⟨(.inl ⟨by omega, by omega, rfl⟩), ⟨(.inl ⟨by omega, by omega, rfl⟩), trivial⟩⟩
               have h245 := (((((((gb1_7.ext x39).ext x40).ext x41).ext x42).ext x43).ext x44).ext x45).turnL x46 (.inl (by decide))
               have h246 : Box w54.heap b1 79 [.slice Ab1_0_1 (lb1_0_1.set y10.1.toNat (⟨(rd lb1_0_1 y10.1).ID, (rd lb1_0_1 y10.1).Size, (rd lb1_0_1 y10.1).Free, y15⟩ : Device)).length cb1_0_1, .slice Ab1_1_3 lb1_1_3.length cb1_1_3, .int .i64 p0.Job.Dev, .int .i64 p0.Job.At, .int .i64 y4.Dev, .int .i64 y4.Size, .slice Ab1_6_3 lb1_6_3.length cb1_6_3, .int .i64 p0.Next] := by simpa only [List.length_set] using h245
               refine RW.done ?_
               refine NW.next ?_
               refine CW.seq ?_
               refine CW.lex [.W] rfl ?_
               refine RW.pure tabOk 1 rfl ?_
               refine RW.done ?_
               refine NW.next ?_
               refine CW.ret ?_
               have h247 := (((((((gL3_b1_1_7.ext x39).ext x40).ext x41).ext x42).ext x43).ext x44).ext x45).turnL x46 ⟨⟨.inl (show (75 : Nat) ≠ 84 by decide), trivial⟩, trivial⟩ ⟨⟨.inl (show (86 : Nat) ≠ 84 by decide), trivial⟩, trivial⟩
               have h248 := (((((((gL3_b1_6_7.ext x39).ext x40).ext x41).ext x42).ext x43).ext x44).ext x45).turnL x46 ⟨⟨.inl (show (86 : Nat) ≠ 84 by decide), trivial⟩, trivial⟩ trivial
               have h249 := (((((((gF4_7.ext x39).ext x40).ext x41).ext x42).ext x43).ext x44).ext x45).turnL x46 ⟨⟨.inr (.inl (by omega)), trivial⟩, trivial⟩
               have h250 := Ext.turn (Ext.trans (Ext.trans (Ext.trans (Ext.trans (Ext.trans (Ext.trans (Ext.trans x0_7 x39) x40) x41) x42) x43) x44) x45) x46 ⟨by omega, trivial⟩
               have h251 := (((((((gb2_7.ext x39).ext x40).ext x41).ext x42).ext x43).ext x44).ext x45).turnL x46 (.inl (by decide))
               have h252 := (h236.ext x45).turnL x46 (.inr ⟨⟨.inr (.inl (by omega)), trivial⟩, trivial⟩)
               exact NW.ret1 rfl (by rfl) ⟨0, (lb1_0_1.set y10.1.toNat (⟨(rd lb1_0_1 y10.1).ID, (rd lb1_0_1 y10.1).Size, (rd lb1_0_1 y10.1).Free, y15⟩ : Device)), Ab1_0_1, cb1_0_1, rfl, by omega, (h244.sub ⟨(.inl ⟨by omega, by omega, rfl⟩), trivial⟩ ⟨(.inl ⟨by omega, trivial, rfl⟩), trivial⟩), h247, h248, h249, h250, h246, h251, h252, H⟩
              ·
               rw [if_neg c16] at H
               refine CW.cond_t rfl (not_t (bool_f c16)) ?_
               refine CW.seq ?_
               refine CW.lex [.W] rfl ?_
               refine RW.pure tabOk 1 rfl ?_
               refine RW.done ?_
               refine NW.next ?_
               refine CW.ret ?_
               refine NW.ret_block (NW.ret_then ?_)
               have h253 := (h224.ext x40).ext x41
               have h254 := ((gL3_b1_1_7.ext x39).ext x40).ext x41
               have h255 := ((gL3_b1_6_7.ext x39).ext x40).ext x41
               have h256 := ((gF4_7.ext x39).ext x40).ext x41
               have h257 := Ext.trans (Ext.trans (Ext.trans x0_7 x39) x40) x41
               have h258 := ((gb1_7.ext x39).ext x40).ext x41
               have h259 := ((gb2_7.ext x39).ext x40).ext x41
               have h260 := ((g0_7.ext x39).ext x40).ext x41
               exact NW.ret1 rfl (by rfl) ⟨4, lb1_0_1, Ab1_0_1, cb1_0_1, rfl, by omega, (h253.sub ⟨(.inl ⟨by omega, by omega, rfl⟩), trivial⟩ ⟨(.inl ⟨by omega, trivial, rfl⟩), trivial⟩), h254, h255, h256, h257, h258, h259, h260, H⟩
            ·
             rw [if_neg c13] at H
             refine CW.cond_t rfl (not_t (bool_f c13)) ?_
             refine CW.seq ?_
             refine CW.lex [.W] rfl ?_
             refine RW.pure tabOk 1 rfl ?_
             refine RW.done ?_
             refine NW.next ?_
             refine CW.ret ?_
             refine NW.ret_block (NW.ret_then ?_)
             have h261 := h203.ext x37
             have h262 := ((h114.ext x35).ext x36).ext x37
             have h263 := ((fb1_6_3.ext x35).ext x36).ext x37
             have h264 := ((gF4_3.ext x35).ext x36).ext x37
             have h265 := Ext.trans (Ext.trans (Ext.trans x0_3 x35) x36) x37
             have h266 := (h200.ext x36).ext x37
             have h267 := ((gb2_3.ext x35).ext x36).ext x37
             have h268 := ((g0_3.ext x35).ext x36).ext x37
             exact NW.ret1 rfl (by rfl) ⟨3, lb1_0_1, Ab1_0_1, cb1_0_1, rfl, by omega, (h261.sub ⟨(.inl ⟨by omega, by omega, rfl⟩), trivial⟩ ⟨(.inl ⟨by omega, trivial, rfl⟩), trivial⟩), h262, h263, h264, h265, h266, h267, h268, H⟩
           rintro _ w42 ⟨it64_6, lb1_0_6, Ab1_0_6, cb1_0_6, rfl, hle, fb1_0_6, gL3_b1_1_6, gL3_b1_6_6, gF4_6, x0_6, gb1_6, gb2_6, g0_6, H⟩
           refine ⟨_, rfl, ?_⟩
           unfold chain_Lose.j3 at H
           have h269 : Ow kDeviceO 84 w42.heap (okL [(w6.heap.size, some w19.heap.size, some 84)]) (okL [(w6.heap.size, some w42.heap.size, some 93)]) Ab1_0_6 cb1_0_6 lb1_0_6 := fb1_0_6.close
           refine RW.pure tabOk 1 rfl ?_
           refine RW.done ?_
           refine NW.next ?_
           refine CW.ret ?_
           exact NW.ret1 rfl (by rfl) ⟨it64_6, lb1_0_6, Ab1_0_6, cb1_0_6, lb1_1_3, Ab1_1_3, cb1_1_3, lb1_6_3, Ab1_6_3, cb1_6_3, rfl, by omega, (h269.sub ⟨(.inl ⟨by omega, by omega, rfl⟩), trivial⟩ ⟨(.inl ⟨by omega, trivial, rfl⟩), trivial⟩), (gL3_b1_1_6.sub ⟨(.inl ⟨by omega, trivial, rfl⟩), trivial⟩ ⟨(.inl ⟨by omega, trivial, rfl⟩), trivial⟩), (gL3_b1_6_6.sub ⟨(.inl ⟨by omega, by omega, rfl⟩), trivial⟩ trivial), gF4_6, x0_6, gb1_6, gb2_6, g0_6, H⟩
        ·
         rw [if_neg c4] at H
         refine CW.cond_t rfl (not_t (bool_f c4)) ?_
         refine CW.seq ?_
         refine CW.lex [.W] rfl ?_
         refine RW.pure tabOk 1 rfl ?_
         refine RW.done ?_
         refine NW.next ?_
         refine CW.ret ?_
         refine NW.ret_then ?_
         have h270 := ((h96.ext x22).ext x23).turnB x24 h102 ⟨.inl (show (84 : Nat) ≠ 121 by decide), trivial⟩ ⟨.inl (show (93 : Nat) ≠ 121 by decide), trivial⟩
         have h271 := ((h97.ext x22).ext x23).turnB x24 h102 ⟨.inl (show (75 : Nat) ≠ 121 by decide), trivial⟩ ⟨.inl (show (86 : Nat) ≠ 121 by decide), trivial⟩
         have h272 := ((h98.ext x22).ext x23).turnB x24 h102 ⟨.inl (show (86 : Nat) ≠ 121 by decide), trivial⟩ trivial
         have h273 := ((((((gF4_1.ext x18).turnB x19 h90 ⟨.inr (by omega), trivial⟩).ext x20).ext x21).ext x22).ext x23).turnB x24 h102 ⟨.inr (by omega), trivial⟩
         have h274 := Ext.turnB (Ext.trans (Ext.trans (Ext.trans (Ext.trans (Ext.turnB (Ext.trans x0_1 x18) x19 (by omega)) x20) x21) x22) x23) x24 (by omega)
         have h275 := ((h94.ext x22).ext x23).turnB x24 (by omega)
         have h276 := ((((((gb2_1.ext x18).turnB x19 (by omega)).ext x20).ext x21).ext x22).ext x23).turnB x24 (by omega)
         have h277 := ((((((g0_1.ext x18).turnB x19 (by omega)).ext x20).ext x21).ext x22).ext x23).turnB x24 (by omega)
         exact NW.ret1 rfl (by rfl) ⟨3, lb1_0_1, Ab1_0_1, cb1_0_1, lb1_1_1, Ab1_1_1, cb1_1_1, lb1_6_1, Ab1_6_1, cb1_6_1, rfl, by omega, (h270.sub ⟨(.inl ⟨by omega, by omega, rfl⟩), trivial⟩ ⟨(.inl ⟨by omega, trivial, rfl⟩), trivial⟩), (h271.sub ⟨(.inl ⟨by omega, trivial, rfl⟩), trivial⟩ ⟨(.inl ⟨by omega, trivial, rfl⟩), trivial⟩), (h272.sub ⟨(.inl ⟨by omega, by omega, rfl⟩), trivial⟩ trivial), h273, h274, h275, h276, h277, H⟩
       ·
        refine RW.alloc tabOk (.inl rfl) ⟨rfl, rfl, rfl, rfl⟩ rfl rfl ?_
        intro b7 w25 x22 l9 h96
        have sx22 := x22.size
        have ltb7 := h96.lt
        have h97 := ((((h88.ext x18).turnB x19 h90 ⟨.inl (show (84 : Nat) ≠ 70 by decide), trivial⟩ ⟨.inl (show (93 : Nat) ≠ 70 by decide), trivial⟩).ext x20).ext x21).ext x22
        have h98 := ((((h89.ext x18).turnB x19 h90 ⟨.inl (show (75 : Nat) ≠ 70 by decide), trivial⟩ ⟨.inl (show (86 : Nat) ≠ 70 by decide), trivial⟩).ext x20).ext x21).ext x22
        have h99 := ((((fb1_6_1.ext x18).turnB x19 h90 ⟨.inl (show (86 : Nat) ≠ 70 by decide), trivial⟩ trivial).ext x20).ext x21).ext x22
        obtain ⟨y6, h100, H⟩ := bind_some H
        refine RW.callF (.inl rfl) ent90 ⟨rfl, rfl, rfl, rfl⟩ rfl rfl (chain_Trace.calls k (⟨lb1_0_1, lb1_1_1, (⟨p0.Job.Dev, p0.Job.At, (⟨y4.Dev, y4.Size, lb1_6_1⟩ : Table)⟩ : Job), p0.Next⟩ : Pool) Ab1_0_1 cb1_0_1 Ab1_1_1 cb1_1_1 Ab1_6_1 cb1_6_1 (rd p1 it17_1) true _ _ (h97.all.to kDevice_ro rfl) h97.len ((h98.ow (show (86 : Nat) ≠ 75 by decide)).all.to kTable_ro rfl) (h98.ow (show (86 : Nat) ≠ 75 by decide)).len h99.all h99.len h100) ?_
        rintro _ w26 ⟨A11, c_11, rfl, x23, h101⟩
        refine ⟨_, rfl, x23, ?_⟩
        have sx23 := x23.size
        have h102 : Ow kPtr 70 w26.heap (okL [(w25.heap.size, some w26.heap.size, some 70)]) (okL []) A11 c_11 y6.1.Way := h101.close
        refine RW.pure tabOk 3 rfl ?_
        have h103 := h96.ext x23
        refine RW.storeBox tabOk h103 [.int .i64 y6.1.Ptr_.Dev, .int .i64 y6.1.Ptr_.At, .slice A11 y6.1.Way.length c_11] ⟨rfl, rfl, rfl⟩ rfl rfl rfl rfl rfl rfl rfl rfl ?_
        intro w27 x24 h104
        have h105 : Box w27.heap b7 121 [.int .i64 y6.1.Ptr_.Dev, .int .i64 y6.1.Ptr_.At, .slice A11 y6.1.Way.length c_11] := h104
        have sx24 := x24.size
        refine RW.pure tabOk 1 rfl ?_
        refine RW.done ?_
        refine NW.next ?_
        refine CW.seq ?_
        refine CW.seq ?_
        refine CW.lex [.W, .W] rfl ?_
        refine RW.pure tabOk 2 rfl ?_
        refine RW.done ?_
        refine NW.next ?_
        by_cases c4 : y6.2 = true
        ·
         rw [if_pos c4] at H
         refine CW.cond_f rfl (not_f (c4)) ?_
         refine CW.skip ?_
         refine NW.next ?_
         refine CW.seq ?_
         refine CW.seq ?_
         refine CW.lex [.W, .L, .W, .W] rfl ?_
         refine RW.pure tabOk 1 rfl ?_
         refine RW.load tabOk [.slice A11 y6.1.Way.length c_11] (h105.at 2) ⟨rfl, rfl, rfl, rfl⟩ rfl rfl rfl rfl ?_
         refine RW.pure tabOk 2 rfl ?_
         refine RW.done ?_
         refine NW.next ?_
         refine CW.block ?_
         refine CW.loop (fun n3 a w28 => ∃ (it26_3 : Int) (lb1_1_3 : List Table) (Ab1_1_3 : Option Addr) (cb1_1_3 : Nat) (lb1_6_3 : List Entry) (Ab1_6_3 : Option Addr) (cb1_6_3 : Nat), Sat 65 [(0, .pointer (some ⟨b1, 0, none⟩)), (5, .pointer (some ⟨b7, 0, none⟩)), (24, .slice A11 y6.1.Way.length c_11), (25, .int .i64 (y6.1.Way.length : Int)), (26, .int .i64 it26_3)] a ∧ w27.heap.size ≤ w28.heap.size ∧ OwB kTableO 75 86 w28.heap (okL [(w7.heap.size, none, some 75)]) (okL [(w12.heap.size, none, some 86)]) Ab1_1_3 cb1_1_3 lb1_1_3 ∧ Ow kEntry 86 w28.heap (okL [(w8.heap.size, some w9.heap.size, some 86)]) (okL []) Ab1_6_3 cb1_6_3 lb1_6_3 ∧ Ow kDeviceO 84 w28.heap (okL [(w6.heap.size, some w19.heap.size, some 84)]) (okL [(w6.heap.size, some w19.heap.size, some 93)]) Ab1_0_1 cb1_0_1 lb1_0_1 ∧ Ow kPtr 70 w28.heap (okL [(w25.heap.size, some w26.heap.size, some 70)]) (okL []) A11 c_11 y6.1.Way ∧ Sl kPtr w28.heap (okL [(0, some w.heap.size, none)]) A4 p1 ∧ Ext w w28 ∧ Box w28.heap b1 79 [.slice Ab1_0_1 lb1_0_1.length cb1_0_1, .slice Ab1_1_3 lb1_1_3.length cb1_1_3, .int .i64 p0.Job.Dev, .int .i64 p0.Job.At, .int .i64 y4.Dev, .int .i64 y4.Size, .slice Ab1_6_3 lb1_6_3.length cb1_6_3, .int .i64 p0.Next] ∧ Box w28.heap b7 121 [.int .i64 y6.1.Ptr_.Dev, .int .i64 y6.1.Ptr_.At, .slice A11 y6.1.Way.length c_11] ∧ Box w28.heap b2 79 [.slice none 0 0, .slice none 0 0, .int .i64 0, .int .i64 0, .int .i64 0, .int .i64 0, .slice none 0 0, .int .i64 0] ∧ Box w28.heap 0 gT (arrI .u8 64 tz) ∧ chain_Lose.l2 p0 k y4 it17_1 lb1_0_1 y6 (chain_Lose.l1 p0 p1 k y4 n2) n3 it26_3 lb1_1_3 lb1_6_3 = some r) k ?_ ?_
         have h106 := (h98.ext x23).turnB x24 h103 ⟨.inl (show (75 : Nat) ≠ 121 by decide), trivial⟩ ⟨.inl (show (86 : Nat) ≠ 121 by decide), trivial⟩
         have h107 := (h99.ext x23).turnB x24 h103 ⟨.inl (show (86 : Nat) ≠ 121 by decide), trivial⟩ trivial
         have h108 := (h97.ext x23).turnB x24 h103 ⟨.inl (show (84 : Nat) ≠ 121 by decide), trivial⟩ ⟨.inl (show (93 : Nat) ≠ 121 by decide), trivial⟩
         have h109 := h102.turnB x24 h103 ⟨.inl (show (70 : Nat) ≠ 121 by decide), trivial⟩ trivial
         have h110 := ((((((gF4_1.ext x18).turnB x19 h90 ⟨.inr (by omega), trivial⟩).ext x20).ext x21).ext x22).ext x23).turnB x24 h103 ⟨.inr (by omega), trivial⟩
         have h111 := Ext.turnB (Ext.trans (Ext.trans (Ext.trans (Ext.trans (Ext.turnB (Ext.trans x0_1 x18) x19 (by omega)) x20) x21) x22) x23) x24 (by omega)
         have h112 := ((h94.ext x22).ext x23).turnB x24 (by omega)
         have h113 := ((((((gb2_1.ext x18).turnB x19 (by omega)).ext x20).ext x21).ext x22).ext x23).turnB x24 (by omega)
         have h114 := ((((((g0_1.ext x18).turnB x19 (by omega)).ext x20).ext x21).ext x22).ext x23).turnB x24 (by omega)
         · exact fun a ha => ⟨0, lb1_1_1, Ab1_1_1, cb1_1_1, lb1_6_1, Ab1_6_1, cb1_6_1, ha.sub ⟨rfl, rfl, rfl, rfl, rfl, trivial⟩, by omega, (h106.sub ⟨(.inl ⟨by omega, trivial, rfl⟩), trivial⟩ ⟨(.inl ⟨by omega, trivial, rfl⟩), trivial⟩), (h107.sub ⟨(.inl ⟨by omega, by omega, rfl⟩), trivial⟩ trivial), h108, h109, h110, h111, h112, h105, h113, h114, H⟩
         intro n3 a w28 hI hp
         obtain ⟨it26_3, lb1_1_3, Ab1_1_3, cb1_1_3, lb1_6_3, Ab1_6_3, cb1_6_3, hS, hle, fb1_1_3, fb1_6_3, gL1_b1_0_3, gF12_3, gF4_3, x0_3, gb1_3, gb7_3, gb2_3, g0_3, H⟩ := hI
         cases n3 with
         | zero => cases H
         | succ n3 =>
          rw [chain_Lose.l2] at H
          refine CW.go hp hS ?_
          have h115 : OwB kTableO 75 86 w28.heap (okL [(w7.heap.size, some w28.heap.size, some 75)]) (okL [(w12.heap.size, some w28.heap.size, some 86)]) Ab1_1_3 cb1_1_3 lb1_1_3 := fb1_1_3.close
          refine CW.seq ?_
          refine CW.lex [.W] rfl ?_
          refine RW.pure tabOk 1 rfl ?_
          refine RW.done ?_
          refine NW.next ?_
          refine CW.seq ?_
          by_cases c5 : it26_3 < (y6.1.Way.length : Int)
          ·
           rw [if_pos c5] at H
           refine CW.cond_t rfl (decide_eq_true c5) ?_
           refine CW.skip ?_
           refine NW.next ?_
           refine CW.seq ?_
           refine CW.block ?_
           refine CW.seq ?_
           refine CW.lex [.W, .L, .X, .M] rfl ?_
           obtain ⟨g4, H⟩ := guard_some H
           obtain ⟨ad4, e4, a4⟩ := kPtr_at gF12_3.slL g4.1 g4.2
           refine RW.index tabOk g4.1 g4.2 e4 ⟨rfl, rfl, rfl, rfl⟩ rfl rfl rfl rfl rfl rfl ?_
           refine RW.load tabOk [.int .i64 ((rd y6.1.Way it26_3).Dev), .int .i64 ((rd y6.1.Way it26_3).At)] a4 ⟨rfl, rfl, rfl, rfl⟩ rfl rfl rfl rfl ?_
           refine RW.alloc tabOk (.inl rfl) ⟨rfl, rfl, rfl, rfl⟩ rfl rfl ?_
           intro b8 w29 x25 l10 h116
           have sx25 := x25.size
           have ltb8 := h116.lt
           refine RW.storeBox tabOk h116 [.int .i64 ((rd y6.1.Way it26_3).Dev), .int .i64 ((rd y6.1.Way it26_3).At)] ⟨rfl, rfl, rfl⟩ rfl rfl rfl rfl rfl rfl rfl rfl ?_
           intro w30 x26 h117
           have h118 : Box w30.heap b8 70 [.int .i64 ((rd y6.1.Way it26_3).Dev), .int .i64 ((rd y6.1.Way it26_3).At)] := h117
           have sx26 := x26.size
           refine RW.done ?_
           refine NW.next ?_
           refine CW.seq ?_
           refine CW.lex [.W, .W, .W, .W, .W] rfl ?_
           refine RW.pure tabOk 5 rfl ?_
           refine RW.done ?_
           refine NW.next ?_
           refine CW.seq ?_
           refine CW.seq ?_
           refine CW.ord [0, 1, 3, 0, 8, 31, 63, 127, 127, 255, 1023] (ofL [(0, .W), (1, .W), (3, .W), (2, .L), (4, .L), (5, .X), (6, .W), (7, .W), (8, .W), (9, .W), (10, .W)] .nil) mixed (by kernel_rfl) ?_
           intro w31 x27
           have sx27 := x27.size
           refine RW.pure tabOk 3 rfl ?_
           have h119 := ((gb1_3.ext x25).turnB x26 (by omega)).ext x27
           refine RW.load tabOk [.slice Ab1_0_1 lb1_0_1.length cb1_0_1, .slice Ab1_1_3 lb1_1_3.length cb1_1_3, .int .i64 p0.Job.Dev, .int .i64 p0.Job.At, .int .i64 y4.Dev, .int .i64 y4.Size, .slice Ab1_6_3 lb1_6_3.length cb1_6_3, .int .i64 p0.Next] (h119.at 0) ⟨rfl, rfl, rfl, rfl⟩ rfl rfl rfl rfl ?_
           have h120 := h118.ext x27
           refine RW.load tabOk [.int .i64 ((rd y6.1.Way it26_3).Dev)] ((h120.at 0).take 1 rfl) ⟨rfl, rfl, rfl, rfl⟩ rfl rfl rfl rfl ?_
           have h121 := ((gL1_b1_0_3.ext x25).turnB x26 h116 ⟨.inl (show (84 : Nat) ≠ 70 by decide), trivial⟩ ⟨.inl (show (93 : Nat) ≠ 70 by decide), trivial⟩).ext x27
           have h122 := ((h115.ext x25).turnB x26 h116 ⟨.inl (show (75 : Nat) ≠ 70 by decide), trivial⟩ ⟨.inl (show (86 : Nat) ≠ 70 by decide), trivial⟩).ext x27
           have h123 := ((fb1_6_3.ext x25).turnB x26 h116 ⟨.inl (show (86 : Nat) ≠ 70 by decide), trivial⟩ trivial).ext x27
           obtain ⟨y7, h124, H⟩ := bind_some H
           refine RW.callF (.inl rfl) ent98 ⟨rfl, rfl, rfl, rfl⟩ rfl rfl (chain_Find.calls k (⟨lb1_0_1, lb1_1_3, (⟨p0.Job.Dev, p0.Job.At, (⟨y4.Dev, y4.Size, lb1_6_3⟩ : Table)⟩ : Job), p0.Next⟩ : Pool) Ab1_0_1 cb1_0_1 Ab1_1_3 cb1_1_3 Ab1_6_3 cb1_6_3 ((rd y6.1.Way it26_3).Dev) _ _ (h121.all.to kDevice_ro rfl) h121.len ((h122.ow (show (86 : Nat) ≠ 75 by decide)).all.to kTable_ro rfl) (h122.ow (show (86 : Nat) ≠ 75 by decide)).len h123.all h123.len h124) ?_
           rintro _ w32 ⟨rfl, x28⟩
           refine ⟨_, rfl, x28, ?_⟩
           have sx28 := x28.size
           refine RW.pure tabOk 5 rfl ?_
           refine RW.done ?_
           refine NW.next ?_
           refine CW.seq ?_
           refine CW.lex [.W] rfl ?_
           refine RW.pure tabOk 1 rfl ?_
           refine RW.done ?_
           refine NW.next ?_
           by_cases c6 : y7.2 = true
           ·
            rw [if_pos c6] at H
            refine CW.cond_t rfl (c6) ?_
            refine CW.lex [.W, .W, .W, .L, .W, .W, .W] rfl ?_
            refine RW.pure tabOk 3 rfl ?_
            have h125 := h119.ext x28
            refine RW.load tabOk [.slice Ab1_1_3 lb1_1_3.length cb1_1_3] ((h125.at 1).take 1 rfl) ⟨rfl, rfl, rfl, rfl⟩ rfl rfl rfl rfl ?_
            refine RW.pure tabOk 1 rfl ?_
            obtain ⟨g5, H⟩ := guard_some H
            have h126 := h122.ext x28
            obtain ⟨ad5, A12, c_12, e5, a5, h127⟩ := kTableO_ato (h126.ow (show (86 : Nat) ≠ 75 by decide)) g5.1 g5.2
            refine RW.index tabOk g5.1 g5.2 e5 ⟨rfl, rfl, rfl, rfl⟩ rfl rfl rfl rfl rfl rfl ?_
            refine RW.pure tabOk 1 rfl ?_
            refine RW.done ?_
            refine NW.next ?_
            refine CW.seq ?_
            refine CW.lex [.W, .W, .L, .M, .W] rfl ?_
            refine RW.pure tabOk 2 rfl ?_
            have h128 := h120.ext x28
            refine RW.load tabOk [.int .i64 ((rd y6.1.Way it26_3).At)] (h128.at 1) ⟨rfl, rfl, rfl, rfl⟩ rfl rfl rfl rfl ?_
            refine RW.callFM (R := fun e w33 => ∃ (it53_4 : Int) (lb1_1_4 : List Table) (Ab1_1_4 : Option Addr) (cb1_1_4 : Nat), e = .returned (.int .i64 it53_4) ∧ w32.heap.size ≤ w33.heap.size ∧ OwB kTableO 75 86 w33.heap (okL [(w7.heap.size, some w28.heap.size, some 75)]) (okL [(w12.heap.size, none, some 86)]) Ab1_1_4 cb1_1_4 lb1_1_4 ∧ Ow kDeviceO 84 w33.heap (okL [(w6.heap.size, some w19.heap.size, some 84)]) (okL [(w6.heap.size, some w19.heap.size, some 93)]) Ab1_0_1 cb1_0_1 lb1_0_1 ∧ Ow kEntry 86 w33.heap (okL [(w8.heap.size, some w9.heap.size, some 86)]) (okL []) Ab1_6_3 cb1_6_3 lb1_6_3 ∧ Ow kPtr 70 w33.heap (okL [(w25.heap.size, some w26.heap.size, some 70)]) (okL []) A11 c_11 y6.1.Way ∧ Sl kPtr w33.heap (okL [(0, some w.heap.size, none)]) A4 p1 ∧ Ext w w33 ∧ Box w33.heap b1 79 [.slice Ab1_0_1 lb1_0_1.length cb1_0_1, .slice Ab1_1_4 lb1_1_4.length cb1_1_4, .int .i64 p0.Job.Dev, .int .i64 p0.Job.At, .int .i64 y4.Dev, .int .i64 y4.Size, .slice Ab1_6_3 lb1_6_3.length cb1_6_3, .int .i64 p0.Next] ∧ Box w33.heap b7 121 [.int .i64 y6.1.Ptr_.Dev, .int .i64 y6.1.Ptr_.At, .slice A11 y6.1.Way.length c_11] ∧ Box w33.heap b2 79 [.slice none 0 0, .slice none 0 0, .int .i64 0, .int .i64 0, .int .i64 0, .int .i64 0, .slice none 0 0, .int .i64 0] ∧ Box w33.heap 0 gT (arrI .u8 64 tz) ∧ chain_Lose.j1 it17_1 lb1_0_1 it26_3 lb1_6_3 (chain_Lose.l1 p0 p1 k y4 n2) (chain_Lose.l2 p0 k y4 it17_1 lb1_0_1 y6 (chain_Lose.l1 p0 p1 k y4 n2) n3) it53_4 lb1_1_4 = some r) ent99 ⟨rfl, rfl, rfl, rfl⟩ rfl rfl rfl ?_ ?_
            ·
             refine calls_start Tryd.func99 rfl 43 rfl [.pointer (some (ad5.add (y7.1.toNat * 3))), .int .i64 ((rd y6.1.Way it26_3).At)] rfl ?_
             refine CW.seq ?_
             refine CW.lex [.W] rfl ?_
             refine RW.pure tabOk 1 rfl ?_
             refine RW.done ?_
             refine NW.next ?_
             refine CW.seq ?_
             refine CW.lex [.W, .W, .L, .W, .X, .W] rfl ?_
             refine RW.pure tabOk 2 rfl ?_
             refine RW.load tabOk [.int .i64 ((rd lb1_1_3 y7.1).Dev), .int .i64 ((rd lb1_1_3 y7.1).Size), .slice A12 ((rd lb1_1_3 y7.1).List_).length c_12] a5 ⟨rfl, rfl, rfl, rfl⟩ rfl rfl rfl rfl ?_
             refine RW.pure tabOk 1 rfl ?_
             obtain ⟨y8, h129, H⟩ := bind_some H
             refine RW.callF (.inl rfl) ent132 ⟨rfl, rfl, rfl, rfl⟩ rfl rfl (table_At.calls k (rd lb1_1_3 y7.1) A12 c_12 ((rd y6.1.Way it26_3).At) _ _ h127.all h127.len h129) ?_
             rintro _ w34 ⟨rfl, x29⟩
             refine ⟨_, rfl, x29, ?_⟩
             have sx29 := x29.size
             refine RW.pure tabOk 1 rfl ?_
             refine RW.done ?_
             refine NW.next ?_
             refine CW.seq ?_
             refine CW.block ?_
             refine CW.seq ?_
             refine CW.lex [.W, .W, .W] rfl ?_
             refine RW.pure tabOk 3 rfl ?_
             refine RW.done ?_
             refine NW.next ?_
             by_cases c7 : y8 < 0
             ·
              rw [if_pos c7] at H
              refine CW.cond_t rfl (decide_eq_true c7) ?_
              refine CW.seq ?_
              refine CW.lex [.W] rfl ?_
              refine RW.pure tabOk 1 rfl ?_
              refine RW.done ?_
              refine NW.next ?_
              refine CW.ret ?_
              refine NW.ret_block (NW.ret_then ?_)
              have h130 := h126.ext x29
              have h131 := (h121.ext x28).ext x29
              have h132 := (h123.ext x28).ext x29
              have h133 := ((((gF12_3.ext x25).turnB x26 h116 ⟨.inr (by omega), trivial⟩ trivial).ext x27).ext x28).ext x29
              have h134 := ((((gF4_3.ext x25).turnB x26 h116 ⟨.inr (by omega), trivial⟩).ext x27).ext x28).ext x29
              have h135 := Ext.trans (Ext.trans (Ext.trans (Ext.turnB (Ext.trans x0_3 x25) x26 (by omega)) x27) x28) x29
              have h136 := h125.ext x29
              have h137 := ((((gb7_3.ext x25).turnB x26 (by omega)).ext x27).ext x28).ext x29
              have h138 := ((((gb2_3.ext x25).turnB x26 (by omega)).ext x27).ext x28).ext x29
              have h139 := ((((g0_3.ext x25).turnB x26 (by omega)).ext x27).ext x28).ext x29
              exact NW.ret1 rfl (by rfl) ⟨3, lb1_1_3, Ab1_1_3, cb1_1_3, rfl, by omega, (h130.sub ⟨(.inl ⟨by omega, by omega, rfl⟩), trivial⟩ ⟨(.inl ⟨by omega, trivial, rfl⟩), trivial⟩), h131, h132, h133, h134, h135, h136, h137, h138, h139, H⟩
             ·
              rw [if_neg c7] at H
              refine CW.cond_f rfl (decide_eq_false c7) ?_
              refine CW.seq ?_
              refine CW.ord [0, 1, 3, 7, 0, 31, 63, 127, 0, 256, 768, 1792, 0, 7936, 16128, 32512, 65535, 131071] (ofL [(0, .W), (1, .W), (2, .W), (4, .W), (8, .W), (9, .W), (10, .W), (12, .W), (3, .L), (5, .W), (6, .W), (7, .L), (11, .L), (13, .W), (14, .W), (15, .L), (16, .W), (17, .W)] .nil) mixed (by kernel_rfl) ?_
              intro w35 x30
              have sx30 := x30.size
              refine RW.pure tabOk 8 rfl ?_
              have h140 := (h126.ext x29).ext x30
              obtain ⟨ad6, A13, c_13, e6, a6, h141⟩ := kTableO_ato (h140.ow (show (86 : Nat) ≠ 75 by decide)) g5.1 g5.2
              obtain rfl : ad6 = ad5 := Option.some.inj (e6.symm.trans e5)
              refine RW.load tabOk [.slice A13 ((rd lb1_1_3 y7.1).List_).length c_13] (a6.fld 2) ⟨rfl, rfl, rfl, rfl⟩ rfl rfl rfl rfl ?_
              obtain ⟨g6, H⟩ := guard_some H
              obtain ⟨ad7, e7, a7⟩ := kEntry_at h141.slL g6.1 g6.2
              refine RW.index tabOk g6.1 g6.2 e7 ⟨rfl, rfl, rfl, rfl⟩ rfl rfl rfl rfl rfl rfl ?_
              refine RW.pure tabOk 1 rfl ?_
              refine RW.load tabOk [.int .i64 ((rd ((rd lb1_1_3 y7.1).List_) y8).Stale)] (a7.fld 4) ⟨rfl, rfl, rfl, rfl⟩ rfl rfl rfl rfl ?_
              refine RW.load tabOk [.slice A13 ((rd lb1_1_3 y7.1).List_).length c_13] (a6.fld 2) ⟨rfl, rfl, rfl, rfl⟩ rfl rfl rfl rfl ?_
              obtain ⟨g7, H⟩ := guard_some H
              obtain ⟨ad8, e8, a8⟩ := kEntry_at h141.slL g7.1 g7.2
              refine RW.index tabOk g7.1 g7.2 e8 ⟨rfl, rfl, rfl, rfl⟩ rfl rfl rfl rfl rfl rfl ?_
              refine RW.pure tabOk 1 rfl ?_
              refine RW.load tabOk [.int .i64 ((rd ((rd lb1_1_3 y7.1).List_) y8).Len)] ((a8.fld 1).take 1 rfl) ⟨rfl, rfl, rfl, rfl⟩ rfl rfl rfl rfl ?_
              refine RW.pure tabOk 2 rfl ?_
              refine RW.done ?_
              refine NW.next ?_
              by_cases c8 : (rd ((rd lb1_1_3 y7.1).List_) y8).Stale = (rd ((rd lb1_1_3 y7.1).List_) y8).Len
              ·
               rw [if_pos c8] at H
               refine CW.cond_t rfl (beq_t c8) ?_
               refine CW.seq ?_
               refine CW.lex [.W] rfl ?_
               refine RW.pure tabOk 1 rfl ?_
               refine RW.done ?_
               refine NW.next ?_
               refine CW.ret ?_
               refine NW.ret_block (NW.ret_then ?_)
               have h142 := ((h121.ext x28).ext x29).ext x30
               have h143 := ((h123.ext x28).ext x29).ext x30
               have h144 := (((((gF12_3.ext x25).turnB x26 h116 ⟨.inr (by omega), trivial⟩ trivial).ext x27).ext x28).ext x29).ext x30
               have h145 := (((((gF4_3.ext x25).turnB x26 h116 ⟨.inr (by omega), trivial⟩).ext x27).ext x28).ext x29).ext x30
               have h146 := Ext.trans (Ext.trans (Ext.trans (Ext.trans (Ext.turnB (Ext.trans x0_3 x25) x26 (by omega)) x27) x28) x29) x30
               have h147 := (h125.ext x29).ext x30
               have h148 := (((((gb7_3.ext x25).turnB x26 (by omega)).ext x27).ext x28).ext x29).ext x30
               have h149 := (((((gb2_3.ext x25).turnB x26 (by omega)).ext x27).ext x28).ext x29).ext x30
               have h150 := (((((g0_3.ext x25).turnB x26 (by omega)).ext x27).ext x28).ext x29).ext x30
               exact NW.ret1 rfl (by rfl) ⟨9, lb1_1_3, Ab1_1_3, cb1_1_3, rfl, by omega, (h140.sub ⟨(.inl ⟨by omega, by omega, rfl⟩), trivial⟩ ⟨(.inl ⟨by omega, trivial, rfl⟩), trivial⟩), h142, h143, h144, h145, h146, h147, h148, h149, h150, H⟩
              ·
               rw [if_neg c8] at H
               refine CW.cond_f rfl (beq_f c8) ?_
               refine CW.skip ?_
               refine NW.norm_block (NW.next ?_)
               refine CW.seq ?_
               refine CW.lex [.W, .W, .W, .L, .W, .W, .W, .L, .W, .W, .W, .M] rfl ?_
               refine RW.pure tabOk 3 rfl ?_
               refine RW.load tabOk [.slice A13 ((rd lb1_1_3 y7.1).List_).length c_13] (a6.fld 2) ⟨rfl, rfl, rfl, rfl⟩ rfl rfl rfl rfl ?_
               refine RW.pure tabOk 1 rfl ?_
               obtain ⟨g8, H⟩ := guard_some H
               obtain ⟨ad9, e9, a9⟩ := kEntry_at h141.slL g8.1 g8.2
               refine RW.index tabOk g8.1 g8.2 e9 ⟨rfl, rfl, rfl, rfl⟩ rfl rfl rfl rfl rfl rfl ?_
               refine RW.pure tabOk 1 rfl ?_
               refine RW.load tabOk [.int .i64 ((rd ((rd lb1_1_3 y7.1).List_) y8).Stale)] (a9.fld 4) ⟨rfl, rfl, rfl, rfl⟩ rfl rfl rfl rfl ?_
               refine RW.pure tabOk 1 rfl ?_
               obtain ⟨g9, H⟩ := guard_some H
               obtain ⟨ad10, e10, a10⟩ := kEntry_at h141.slL g9.1 g9.2
               refine RW.index tabOk g9.1 g9.2 e10 ⟨rfl, rfl, rfl, rfl⟩ rfl rfl rfl rfl rfl rfl ?_
               refine RW.pure tabOk 1 rfl ?_
               obtain ⟨blkI1, h151, lblkI1, ublkI1, zblkI1, k1⟩ := OwB.inner (z0 := default) (de := kEntry) h140 (show (86 : Nat) ≠ 75 by decide) (i := y7.1.toNat) (by have := g5; omega) e6 rfl a6 (A1 := A13) (c1 := c_13) (ys := ((rd lb1_1_3 y7.1).List_)) (fun ok hr => by obtain ⟨qa, qc, qe, qh⟩ := kTableO_open hr; cases qe; exact qh) (fun _ _ _ _ _ _ e => e) (by have := g9; omega)
               refine RW.storeElL (y := (⟨(rd ((rd lb1_1_3 y7.1).List_) y8).From, (rd ((rd lb1_1_3 y7.1).List_) y8).Len, (rd ((rd lb1_1_3 y7.1).List_) y8).Dev, (rd ((rd lb1_1_3 y7.1).List_) y8).To, w64 (((rd ((rd lb1_1_3 y7.1).List_) y8).Stale) + 1)⟩ : Entry)) (lv := []) (k := 4) tabOk h151 (j := y8.toNat) (by have := g9; omega) default [.int .i64 (w64 (((rd ((rd lb1_1_3 y7.1).List_) y8).Stale) + 1))] (fun cs ok' hr => by obtain rfl := kEntry_open hr; exact ⟨by simp, kEntry_mk (⟨(rd ((rd lb1_1_3 y7.1).List_) y8).From, (rd ((rd lb1_1_3 y7.1).List_) y8).Len, (rd ((rd lb1_1_3 y7.1).List_) y8).Dev, (rd ((rd lb1_1_3 y7.1).List_) y8).To, w64 (((rd ((rd lb1_1_3 y7.1).List_) y8).Stale) + 1)⟩ : Entry)⟩) trivial ⟨rfl, rfl, rfl⟩ rfl rfl e10 rfl rfl rfl rfl rfl ?_
               intro w36 x31 h152
               have h153 := k1 _ (((rd lb1_1_3 y7.1).List_).set y8.toNat (⟨(rd ((rd lb1_1_3 y7.1).List_) y8).From, (rd ((rd lb1_1_3 y7.1).List_) y8).Len, (rd ((rd lb1_1_3 y7.1).List_) y8).Dev, (rd ((rd lb1_1_3 y7.1).List_) y8).To, w64 (((rd ((rd lb1_1_3 y7.1).List_) y8).Stale) + 1)⟩ : Entry)) (⟨(rd lb1_1_3 y7.1).Dev, (rd lb1_1_3 y7.1).Size, (((rd lb1_1_3 y7.1).List_).set y8.toNat (⟨(rd ((rd lb1_1_3 y7.1).List_) y8).From, (rd ((rd lb1_1_3 y7.1).List_) y8).Len, (rd ((rd lb1_1_3 y7.1).List_) y8).Dev, (rd ((rd lb1_1_3 y7.1).List_) y8).To, w64 (((rd ((rd lb1_1_3 y7.1).List_) y8).Stale) + 1)⟩ : Entry))⟩ : Table) x31 (h152.sub ⟨(.inl ⟨Nat.le_refl _, Nat.le_refl _, rfl⟩), trivial⟩ trivial) (fun ok q => by have q' := kTableO_mk ((⟨(rd lb1_1_3 y7.1).Dev, (rd lb1_1_3 y7.1).Size, (((rd lb1_1_3 y7.1).List_).set y8.toNat (⟨(rd ((rd lb1_1_3 y7.1).List_) y8).From, (rd ((rd lb1_1_3 y7.1).List_) y8).Len, (rd ((rd lb1_1_3 y7.1).List_) y8).Dev, (rd ((rd lb1_1_3 y7.1).List_) y8).To, w64 (((rd ((rd lb1_1_3 y7.1).List_) y8).Stale) + 1)⟩ : Entry))⟩ : Table)) q; simpa only [List.length_set] using q')
               have sx31 := x31.size
               have h154 := ((h125.ext x29).ext x30).turnL x31 (.inl (by decide))
               have h155 : Box w36.heap b1 79 [.slice Ab1_0_1 lb1_0_1.length cb1_0_1, .slice Ab1_1_3 (lb1_1_3.set y7.1.toNat (⟨(rd lb1_1_3 y7.1).Dev, (rd lb1_1_3 y7.1).Size, (((rd lb1_1_3 y7.1).List_).set y8.toNat (⟨(rd ((rd lb1_1_3 y7.1).List_) y8).From, (rd ((rd lb1_1_3 y7.1).List_) y8).Len, (rd ((rd lb1_1_3 y7.1).List_) y8).Dev, (rd ((rd lb1_1_3 y7.1).List_) y8).To, w64 (((rd ((rd lb1_1_3 y7.1).List_) y8).Stale) + 1)⟩ : Entry))⟩ : Table)).length cb1_1_3, .int .i64 p0.Job.Dev, .int .i64 p0.Job.At, .int .i64 y4.Dev, .int .i64 y4.Size, .slice Ab1_6_3 lb1_6_3.length cb1_6_3, .int .i64 p0.Next] := by simpa only [List.length_set] using h154
               refine RW.done ?_
               refine NW.next ?_
               refine CW.seq ?_
               refine CW.lex [.W] rfl ?_
               refine RW.pure tabOk 1 rfl ?_
               refine RW.done ?_
               refine NW.next ?_
               refine CW.ret ?_
               have h156 := (((h121.ext x28).ext x29).ext x30).turnL x31 ⟨⟨.inl (show (84 : Nat) ≠ 86 by decide), trivial⟩, trivial⟩ ⟨⟨.inl (show (93 : Nat) ≠ 86 by decide), trivial⟩, trivial⟩
               have h157 := (((h123.ext x28).ext x29).ext x30).turnL x31 ⟨⟨disjE (by omega), trivial⟩, trivial⟩ trivial
               have h158 := ((((((gF12_3.ext x25).turnB x26 h116 ⟨.inr (by omega), trivial⟩ trivial).ext x27).ext x28).ext x29).ext x30).turnL x31 ⟨⟨.inl (show (70 : Nat) ≠ 86 by decide), trivial⟩, trivial⟩ trivial
               have h159 := ((((((gF4_3.ext x25).turnB x26 h116 ⟨.inr (by omega), trivial⟩).ext x27).ext x28).ext x29).ext x30).turnL x31 ⟨⟨disjE (by omega), trivial⟩, trivial⟩
               have h160 := Ext.turn (Ext.trans (Ext.trans (Ext.trans (Ext.trans (Ext.turnB (Ext.trans x0_3 x25) x26 (by omega)) x27) x28) x29) x30) x31 ⟨by omega, trivial⟩
               have h161 := ((((((gb7_3.ext x25).turnB x26 (by omega)).ext x27).ext x28).ext x29).ext x30).turnL x31 (.inl (by decide))
               have h162 := ((((((gb2_3.ext x25).turnB x26 (by omega)).ext x27).ext x28).ext x29).ext x30).turnL x31 (.inl (by decide))
               have h163 := ((((((g0_3.ext x25).turnB x26 (by omega)).ext x27).ext x28).ext x29).ext x30).turnL x31 (.inr ⟨⟨disjE (by omega), trivial⟩, trivial⟩)
               exact NW.ret1 rfl (by rfl) ⟨0, (lb1_1_3.set y7.1.toNat (⟨(rd lb1_1_3 y7.1).Dev, (rd lb1_1_3 y7.1).Size, (((rd lb1_1_3 y7.1).List_).set y8.toNat (⟨(rd ((rd lb1_1_3 y7.1).List_) y8).From, (rd ((rd lb1_1_3 y7.1).List_) y8).Len, (rd ((rd lb1_1_3 y7.1).List_) y8).Dev, (rd ((rd lb1_1_3 y7.1).List_) y8).To, w64 (((rd ((rd lb1_1_3 y7.1).List_) y8).Stale) + 1)⟩ : Entry))⟩ : Table)), Ab1_1_3, cb1_1_3, rfl, by omega, (h153.sub ⟨(.inl ⟨by omega, by omega, rfl⟩), trivial⟩ ⟨(.inl ⟨by omega, trivial, rfl⟩), trivial⟩), h156, h157, h158, h159, h160, h155, h161, h162, h163, H⟩
            rintro _ w33 ⟨it53_4, lb1_1_4, Ab1_1_4, cb1_1_4, rfl, hle, fb1_1_4, gL1_b1_0_4, gL3_b1_6_4, gF12_4, gF4_4, x0_4, gb1_4, gb7_4, gb2_4, g0_4, H⟩
            refine ⟨_, rfl, ?_⟩
            unfold chain_Lose.j1 at H
            have h164 : OwB kTableO 75 86 w33.heap (okL [(w7.heap.size, some w28.heap.size, some 75)]) (okL [(w12.heap.size, some w33.heap.size, some 86)]) Ab1_1_4 cb1_1_4 lb1_1_4 := fb1_1_4.close
            refine RW.pure tabOk 1 rfl ?_
            refine RW.done ?_
            refine NW.next ?_
            refine CW.seq ?_
            refine CW.lex [.W, .W] rfl ?_
            refine RW.pure tabOk 2 rfl ?_
            refine RW.done ?_
            refine NW.next ?_
            by_cases c9 : it53_4 = 0
            ·
             rw [if_pos c9] at H
             refine CW.cond_f rfl (bne_f c9) ?_
             refine CW.skip ?_
             refine NW.norm_block (NW.next ?_)
             refine CW.lex [.W, .W] rfl ?_
             refine RW.pure tabOk 2 rfl ?_
             refine RW.done ?_
             exact NW.J fun a ha => ⟨n3, Nat.lt_succ_self n3, (w64 (it26_3 + 1)), lb1_1_4, Ab1_1_4, cb1_1_4, lb1_6_3, Ab1_6_3, cb1_6_3, ha.sub ⟨rfl, rfl, rfl, rfl, rfl, trivial⟩, by omega, (h164.sub ⟨(.inl ⟨by omega, trivial, rfl⟩), trivial⟩ ⟨(.inl ⟨by omega, trivial, rfl⟩), trivial⟩), (gL3_b1_6_4.sub ⟨(.inl ⟨by omega, by omega, rfl⟩), trivial⟩ trivial), gL1_b1_0_4, gF12_4, gF4_4, x0_4, gb1_4, gb7_4, gb2_4, g0_4, H⟩
            ·
             rw [if_neg c9] at H
             refine CW.cond_t rfl (bne_t c9) ?_
             refine CW.seq ?_
             refine CW.lex [.W, .W] rfl ?_
             refine RW.pure tabOk 2 rfl ?_
             refine RW.done ?_
             refine NW.next ?_
             refine CW.ret ?_
             refine NW.ret_block (NW.ret_then (NW.ret_then (NW.ret_block (NW.ret_then ?_))))
             exact NW.ret1 rfl (by rfl) ⟨it53_4, lb1_0_1, Ab1_0_1, cb1_0_1, lb1_1_4, Ab1_1_4, cb1_1_4, lb1_6_3, Ab1_6_3, cb1_6_3, rfl, by omega, (gL1_b1_0_4.sub ⟨(.inl ⟨by omega, by omega, rfl⟩), trivial⟩ ⟨(.inl ⟨by omega, trivial, rfl⟩), trivial⟩), (h164.sub ⟨(.inl ⟨by omega, trivial, rfl⟩), trivial⟩ ⟨(.inl ⟨by omega, trivial, rfl⟩), trivial⟩), (gL3_b1_6_4.sub ⟨(.inl ⟨by omega, by omega, rfl⟩), trivial⟩ trivial), gF4_4, x0_4, gb1_4, gb2_4, g0_4, H⟩
           ·
            rw [if_neg c6] at H
            refine CW.cond_f rfl (bool_f c6) ?_
            refine CW.skip ?_
            refine NW.next ?_
            refine CW.seq ?_
            refine CW.lex [.W, .W, .L, .M, .W] rfl ?_
            refine RW.pure tabOk 2 rfl ?_
            have h165 := h120.ext x28
            refine RW.load tabOk [.int .i64 ((rd y6.1.Way it26_3).At)] (h165.at 1) ⟨rfl, rfl, rfl, rfl⟩ rfl rfl rfl rfl ?_
            refine RW.callFM (R := fun e w37 => ∃ (it53_5 : Int) (lb1_6_5 : List Entry) (Ab1_6_5 : Option Addr) (cb1_6_5 : Nat), e = .returned (.int .i64 it53_5) ∧ w32.heap.size ≤ w37.heap.size ∧ Ow kEntry 86 w37.heap (okL [(w8.heap.size, some w9.heap.size, some 86)]) (okL []) Ab1_6_5 cb1_6_5 lb1_6_5 ∧ Ow kDeviceO 84 w37.heap (okL [(w6.heap.size, some w19.heap.size, some 84)]) (okL [(w6.heap.size, some w19.heap.size, some 93)]) Ab1_0_1 cb1_0_1 lb1_0_1 ∧ OwB kTableO 75 86 w37.heap (okL [(w7.heap.size, some w28.heap.size, some 75)]) (okL [(w12.heap.size, some w28.heap.size, some 86)]) Ab1_1_3 cb1_1_3 lb1_1_3 ∧ Ow kPtr 70 w37.heap (okL [(w25.heap.size, some w26.heap.size, some 70)]) (okL []) A11 c_11 y6.1.Way ∧ Sl kPtr w37.heap (okL [(0, some w.heap.size, none)]) A4 p1 ∧ Ext w w37 ∧ Box w37.heap b1 79 [.slice Ab1_0_1 lb1_0_1.length cb1_0_1, .slice Ab1_1_3 lb1_1_3.length cb1_1_3, .int .i64 p0.Job.Dev, .int .i64 p0.Job.At, .int .i64 y4.Dev, .int .i64 y4.Size, .slice Ab1_6_5 lb1_6_5.length cb1_6_5, .int .i64 p0.Next] ∧ Box w37.heap b7 121 [.int .i64 y6.1.Ptr_.Dev, .int .i64 y6.1.Ptr_.At, .slice A11 y6.1.Way.length c_11] ∧ Box w37.heap b2 79 [.slice none 0 0, .slice none 0 0, .int .i64 0, .int .i64 0, .int .i64 0, .int .i64 0, .slice none 0 0, .int .i64 0] ∧ Box w37.heap 0 gT (arrI .u8 64 tz) ∧ chain_Lose.j2 it17_1 lb1_0_1 it26_3 lb1_1_3 (chain_Lose.l1 p0 p1 k y4 n2) (chain_Lose.l2 p0 k y4 it17_1 lb1_0_1 y6 (chain_Lose.l1 p0 p1 k y4 n2) n3) it53_5 lb1_6_5 = some r) ent99 ⟨rfl, rfl, rfl, rfl⟩ rfl rfl rfl ?_ ?_
            ·
             refine calls_start Tryd.func99 rfl 43 rfl [.pointer (some ⟨b1, 4, none⟩), .int .i64 ((rd y6.1.Way it26_3).At)] rfl ?_
             refine CW.seq ?_
             refine CW.lex [.W] rfl ?_
             refine RW.pure tabOk 1 rfl ?_
             refine RW.done ?_
             refine NW.next ?_
             refine CW.seq ?_
             refine CW.lex [.W, .W, .L, .W, .X, .W] rfl ?_
             refine RW.pure tabOk 2 rfl ?_
             have h166 := h119.ext x28
             refine RW.load tabOk [.int .i64 y4.Dev, .int .i64 y4.Size, .slice Ab1_6_3 lb1_6_3.length cb1_6_3] ((h166.at 4).take 3 rfl) ⟨rfl, rfl, rfl, rfl⟩ rfl rfl rfl rfl ?_
             refine RW.pure tabOk 1 rfl ?_
             have h167 := h123.ext x28
             obtain ⟨y9, h168, H⟩ := bind_some H
             refine RW.callF (.inl rfl) ent132 ⟨rfl, rfl, rfl, rfl⟩ rfl rfl (table_At.calls k (⟨y4.Dev, y4.Size, lb1_6_3⟩ : Table) Ab1_6_3 cb1_6_3 ((rd y6.1.Way it26_3).At) _ _ h167.all h167.len h168) ?_
             rintro _ w38 ⟨rfl, x32⟩
             refine ⟨_, rfl, x32, ?_⟩
             have sx32 := x32.size
             refine RW.pure tabOk 1 rfl ?_
             refine RW.done ?_
             refine NW.next ?_
             refine CW.seq ?_
             refine CW.block ?_
             refine CW.seq ?_
             refine CW.lex [.W, .W, .W] rfl ?_
             refine RW.pure tabOk 3 rfl ?_
             refine RW.done ?_
             refine NW.next ?_
             by_cases c10 : y9 < 0
             ·
              rw [if_pos c10] at H
              refine CW.cond_t rfl (decide_eq_true c10) ?_
              refine CW.seq ?_
              refine CW.lex [.W] rfl ?_
              refine RW.pure tabOk 1 rfl ?_
              refine RW.done ?_
              refine NW.next ?_
              refine CW.ret ?_
              refine NW.ret_block (NW.ret_then ?_)
              have h169 := h167.ext x32
              have h170 := (h121.ext x28).ext x32
              have h171 := (h122.ext x28).ext x32
              have h172 := ((((gF12_3.ext x25).turnB x26 h116 ⟨.inr (by omega), trivial⟩ trivial).ext x27).ext x28).ext x32
              have h173 := ((((gF4_3.ext x25).turnB x26 h116 ⟨.inr (by omega), trivial⟩).ext x27).ext x28).ext x32
              have h174 := Ext.trans (Ext.trans (Ext.trans (Ext.turnB (Ext.trans x0_3 x25) x26 (by omega)) x27) x28) x32
              have h175 := h166.ext x32
              have h176 := ((((gb7_3.ext x25).turnB x26 (by omega)).ext x27).ext x28).ext x32
              have h177 := ((((gb2_3.ext x25).turnB x26 (by omega)).ext x27).ext x28).ext x32
              have h178 := ((((g0_3.ext x25).turnB x26 (by omega)).ext x27).ext x28).ext x32
              exact NW.ret1 rfl (by rfl) ⟨3, lb1_6_3, Ab1_6_3, cb1_6_3, rfl, by omega, (h169.sub ⟨(.inl ⟨by omega, by omega, rfl⟩), trivial⟩ trivial), h170, h171, h172, h173, h174, h175, h176, h177, h178, H⟩
             ·
              rw [if_neg c10] at H
              refine CW.cond_f rfl (decide_eq_false c10) ?_
              refine CW.seq ?_
              refine CW.ord [0, 1, 3, 7, 0, 31, 63, 127, 0, 256, 768, 1792, 0, 7936, 16128, 32512, 65535, 131071] (ofL [(0, .W), (1, .W), (2, .W), (4, .W), (8, .W), (9, .W), (10, .W), (12, .W), (3, .L), (5, .W), (6, .W), (7, .L), (11, .L), (13, .W), (14, .W), (15, .L), (16, .W), (17, .W)] .nil) mixed (by kernel_rfl) ?_
              intro w39 x33
              have sx33 := x33.size
              refine RW.pure tabOk 8 rfl ?_
              have h179 := (h166.ext x32).ext x33
              refine RW.load tabOk [.slice Ab1_6_3 lb1_6_3.length cb1_6_3] ((h179.at 6).take 1 rfl) ⟨rfl, rfl, rfl, rfl⟩ rfl rfl rfl rfl ?_
              obtain ⟨g10, H⟩ := guard_some H
              have h180 := (h167.ext x32).ext x33
              obtain ⟨ad11, e11, a11⟩ := kEntry_at h180.slL g10.1 g10.2
              refine RW.index tabOk g10.1 g10.2 e11 ⟨rfl, rfl, rfl, rfl⟩ rfl rfl rfl rfl rfl rfl ?_
              refine RW.pure tabOk 1 rfl ?_
              refine RW.load tabOk [.int .i64 ((rd lb1_6_3 y9).Stale)] (a11.fld 4) ⟨rfl, rfl, rfl, rfl⟩ rfl rfl rfl rfl ?_
              refine RW.load tabOk [.slice Ab1_6_3 lb1_6_3.length cb1_6_3] ((h179.at 6).take 1 rfl) ⟨rfl, rfl, rfl, rfl⟩ rfl rfl rfl rfl ?_
              obtain ⟨g11, H⟩ := guard_some H
              obtain ⟨ad12, e12, a12⟩ := kEntry_at h180.slL g11.1 g11.2
              refine RW.index tabOk g11.1 g11.2 e12 ⟨rfl, rfl, rfl, rfl⟩ rfl rfl rfl rfl rfl rfl ?_
              refine RW.pure tabOk 1 rfl ?_
              refine RW.load tabOk [.int .i64 ((rd lb1_6_3 y9).Len)] ((a12.fld 1).take 1 rfl) ⟨rfl, rfl, rfl, rfl⟩ rfl rfl rfl rfl ?_
              refine RW.pure tabOk 2 rfl ?_
              refine RW.done ?_
              refine NW.next ?_
              by_cases c11 : (rd lb1_6_3 y9).Stale = (rd lb1_6_3 y9).Len
              ·
               rw [if_pos c11] at H
               refine CW.cond_t rfl (beq_t c11) ?_
               refine CW.seq ?_
               refine CW.lex [.W] rfl ?_
               refine RW.pure tabOk 1 rfl ?_
               refine RW.done ?_
               refine NW.next ?_
               refine CW.ret ?_
               refine NW.ret_block (NW.ret_then ?_)
               have h181 := ((h121.ext x28).ext x32).ext x33
               have h182 := ((h122.ext x28).ext x32).ext x33
               have h183 := (((((gF12_3.ext x25).turnB x26 h116 ⟨.inr (by omega), trivial⟩ trivial).ext x27).ext x28).ext x32).ext x33
               have h184 := (((((gF4_3.ext x25).turnB x26 h116 ⟨.inr (by omega), trivial⟩).ext x27).ext x28).ext x32).ext x33
               have h185 := Ext.trans (Ext.trans (Ext.trans (Ext.trans (Ext.turnB (Ext.trans x0_3 x25) x26 (by omega)) x27) x28) x32) x33
               have h186 := (((((gb7_3.ext x25).turnB x26 (by omega)).ext x27).ext x28).ext x32).ext x33
               have h187 := (((((gb2_3.ext x25).turnB x26 (by omega)).ext x27).ext x28).ext x32).ext x33
               have h188 := (((((g0_3.ext x25).turnB x26 (by omega)).ext x27).ext x28).ext x32).ext x33
               exact NW.ret1 rfl (by rfl) ⟨9, lb1_6_3, Ab1_6_3, cb1_6_3, rfl, by omega, (h180.sub ⟨(.inl ⟨by omega, by omega, rfl⟩), trivial⟩ trivial), h181, h182, h183, h184, h185, h179, h186, h187, h188, H⟩
              ·
               rw [if_neg c11] at H
               refine CW.cond_f rfl (beq_f c11) ?_
               refine CW.skip ?_
               refine NW.norm_block (NW.next ?_)
               refine CW.seq ?_
               refine CW.lex [.W, .W, .W, .L, .W, .W, .W, .L, .W, .W, .W, .M] rfl ?_
               refine RW.pure tabOk 3 rfl ?_
               refine RW.load tabOk [.slice Ab1_6_3 lb1_6_3.length cb1_6_3] ((h179.at 6).take 1 rfl) ⟨rfl, rfl, rfl, rfl⟩ rfl rfl rfl rfl ?_
               refine RW.pure tabOk 1 rfl ?_
               obtain ⟨g12, H⟩ := guard_some H
               obtain ⟨ad13, e13, a13⟩ := kEntry_at h180.slL g12.1 g12.2
               refine RW.index tabOk g12.1 g12.2 e13 ⟨rfl, rfl, rfl, rfl⟩ rfl rfl rfl rfl rfl rfl ?_
               refine RW.pure tabOk 1 rfl ?_
               refine RW.load tabOk [.int .i64 ((rd lb1_6_3 y9).Stale)] (a13.fld 4) ⟨rfl, rfl, rfl, rfl⟩ rfl rfl rfl rfl ?_
               refine RW.pure tabOk 1 rfl ?_
               obtain ⟨g13, H⟩ := guard_some H
               obtain ⟨ad14, e14, a14⟩ := kEntry_at h180.slL g13.1 g13.2
               refine RW.index tabOk g13.1 g13.2 e14 ⟨rfl, rfl, rfl, rfl⟩ rfl rfl rfl rfl rfl rfl ?_
               refine RW.pure tabOk 1 rfl ?_
               refine RW.storeElL (y := (⟨(rd lb1_6_3 y9).From, (rd lb1_6_3 y9).Len, (rd lb1_6_3 y9).Dev, (rd lb1_6_3 y9).To, w64 (((rd lb1_6_3 y9).Stale) + 1)⟩ : Entry)) (lv := []) (k := 4) tabOk h180 (j := y9.toNat) (by have := g13; omega) default [.int .i64 (w64 (((rd lb1_6_3 y9).Stale) + 1))] (fun cs ok' hr => by obtain rfl := kEntry_open hr; exact ⟨by simp, kEntry_mk (⟨(rd lb1_6_3 y9).From, (rd lb1_6_3 y9).Len, (rd lb1_6_3 y9).Dev, (rd lb1_6_3 y9).To, w64 (((rd lb1_6_3 y9).Stale) + 1)⟩ : Entry)⟩) trivial ⟨rfl, rfl, rfl⟩ rfl rfl e14 rfl rfl rfl rfl rfl ?_
               intro w40 x34 h189
               have sx34 := x34.size
               have h190 := h189.sub (l' := [(w8.heap.size, some w9.heap.size, some 86)]) (li' := []) ⟨(.inl ⟨by omega, by omega, rfl⟩), trivial⟩ trivial
               have h191 := h179.turnL x34 (.inl (by decide))
               have h192 : Box w40.heap b1 79 [.slice Ab1_0_1 lb1_0_1.length cb1_0_1, .slice Ab1_1_3 lb1_1_3.length cb1_1_3, .int .i64 p0.Job.Dev, .int .i64 p0.Job.At, .int .i64 y4.Dev, .int .i64 y4.Size, .slice Ab1_6_3 (lb1_6_3.set y9.toNat (⟨(rd lb1_6_3 y9).From, (rd lb1_6_3 y9).Len, (rd lb1_6_3 y9).Dev, (rd lb1_6_3 y9).To, w64 (((rd lb1_6_3 y9).Stale) + 1)⟩ : Entry)).length cb1_6_3, .int .i64 p0.Next] := by simpa only [List.length_set] using h191
               refine RW.done ?_
               refine NW.next ?_
               refine CW.seq ?_
               refine CW.lex [.W] rfl ?_
               refine RW.pure tabOk 1 rfl ?_
               refine RW.done ?_
               refine NW.next ?_
               refine CW.ret ?_
               have h193 := (((h121.ext x28).ext x32).ext x33).turnL x34 ⟨⟨.inl (show (84 : Nat) ≠ 86 by decide), trivial⟩, trivial⟩ ⟨⟨.inl (show (93 : Nat) ≠ 86 by decide), trivial⟩, trivial⟩
               have h194 := (((h122.ext x28).ext x32).ext x33).turnL x34 ⟨⟨.inl (show (75 : Nat) ≠ 86 by decide), trivial⟩, trivial⟩ ⟨⟨.inr (.inr (by omega)), trivial⟩, trivial⟩
               have h195 := ((((((gF12_3.ext x25).turnB x26 h116 ⟨.inr (by omega), trivial⟩ trivial).ext x27).ext x28).ext x32).ext x33).turnL x34 ⟨⟨.inl (show (70 : Nat) ≠ 86 by decide), trivial⟩, trivial⟩ trivial
               have h196 := ((((((gF4_3.ext x25).turnB x26 h116 ⟨.inr (by omega), trivial⟩).ext x27).ext x28).ext x32).ext x33).turnL x34 ⟨⟨.inr (.inl (by omega)), trivial⟩, trivial⟩
               have h197 := Ext.turn (Ext.trans (Ext.trans (Ext.trans (Ext.trans (Ext.turnB (Ext.trans x0_3 x25) x26 (by omega)) x27) x28) x32) x33) x34 ⟨by omega, trivial⟩
               have h198 := ((((((gb7_3.ext x25).turnB x26 (by omega)).ext x27).ext x28).ext x32).ext x33).turnL x34 (.inl (by decide))
               have h199 := ((((((gb2_3.ext x25).turnB x26 (by omega)).ext x27).ext x28).ext x32).ext x33).turnL x34 (.inl (by decide))
               have h200 := ((((((g0_3.ext x25).turnB x26 (by omega)).ext x27).ext x28).ext x32).ext x33).turnL x34 (.inr ⟨⟨.inr (.inl (by omega)), trivial⟩, trivial⟩)
               exact NW.ret1 rfl (by rfl) ⟨0, (lb1_6_3.set y9.toNat (⟨(rd lb1_6_3 y9).From, (rd lb1_6_3 y9).Len, (rd lb1_6_3 y9).Dev, (rd lb1_6_3 y9).To, w64 (((rd lb1_6_3 y9).Stale) + 1)⟩ : Entry)), Ab1_6_3, cb1_6_3, rfl, by omega, (h190.sub ⟨(.inl ⟨by omega, by omega, rfl⟩), trivial⟩ trivial), h193, h194, h195, h196, h197, h192, h198, h199, h200, H⟩
            rintro _ w37 ⟨it53_5, lb1_6_5, Ab1_6_5, cb1_6_5, rfl, hle, fb1_6_5, gL1_b1_0_5, gL3_b1_1_5, gF12_5, gF4_5, x0_5, gb1_5, gb7_5, gb2_5, g0_5, H⟩
            refine ⟨_, rfl, ?_⟩
            unfold chain_Lose.j2 at H
            refine RW.pure tabOk 1 rfl ?_
            refine RW.done ?_
            refine NW.next ?_
            refine CW.seq ?_
            refine CW.lex [.W, .W] rfl ?_
            refine RW.pure tabOk 2 rfl ?_
            refine RW.done ?_
            refine NW.next ?_
            by_cases c12 : it53_5 = 0
            ·
             rw [if_pos c12] at H
             refine CW.cond_f rfl (bne_f c12) ?_
             refine CW.skip ?_
             refine NW.norm_block (NW.next ?_)
             refine CW.lex [.W, .W] rfl ?_
             refine RW.pure tabOk 2 rfl ?_
             refine RW.done ?_
             exact NW.J fun a ha => ⟨n3, Nat.lt_succ_self n3, (w64 (it26_3 + 1)), lb1_1_3, Ab1_1_3, cb1_1_3, lb1_6_5, Ab1_6_5, cb1_6_5, ha.sub ⟨rfl, rfl, rfl, rfl, rfl, trivial⟩, by omega, (gL3_b1_1_5.sub ⟨(.inl ⟨by omega, trivial, rfl⟩), trivial⟩ ⟨(.inl ⟨by omega, trivial, rfl⟩), trivial⟩), (fb1_6_5.sub ⟨(.inl ⟨by omega, by omega, rfl⟩), trivial⟩ trivial), gL1_b1_0_5, gF12_5, gF4_5, x0_5, gb1_5, gb7_5, gb2_5, g0_5, H⟩
            ·
             rw [if_neg c12] at H
             refine CW.cond_t rfl (bne_t c12) ?_
             refine CW.seq ?_
             refine CW.lex [.W, .W] rfl ?_
             refine RW.pure tabOk 2 rfl ?_
             refine RW.done ?_
             refine NW.next ?_
             refine CW.ret ?_
             refine NW.ret_block (NW.ret_then (NW.ret_then (NW.ret_block (NW.ret_then ?_))))
             exact NW.ret1 rfl (by rfl) ⟨it53_5, lb1_0_1, Ab1_0_1, cb1_0_1, lb1_1_3, Ab1_1_3, cb1_1_3, lb1_6_5, Ab1_6_5, cb1_6_5, rfl, by omega, (gL1_b1_0_5.sub ⟨(.inl ⟨by omega, by omega, rfl⟩), trivial⟩ ⟨(.inl ⟨by omega, trivial, rfl⟩), trivial⟩), (gL3_b1_1_5.sub ⟨(.inl ⟨by omega, trivial, rfl⟩), trivial⟩ ⟨(.inl ⟨by omega, trivial, rfl⟩), trivial⟩), (fb1_6_5.sub ⟨(.inl ⟨by omega, by omega, rfl⟩), trivial⟩ trivial), gF4_5, x0_5, gb1_5, gb2_5, g0_5, H⟩
          ·
           rw [if_neg c5] at H
           refine CW.cond_f rfl (decide_eq_false c5) ?_
           refine CW.exit ?_
           refine NW.exit_then (NW.exit_then (NW.exit_hit ?_))
           refine NW.next ?_
           refine CW.seq ?_
           refine CW.ord [0, 1, 3, 7, 0, 16, 63, 127] (ofL [(0, .W), (1, .W), (2, .W), (4, .W), (3, .L), (5, .L), (6, .M), (7, .W)] .nil) mixed (by kernel_rfl) ?_
           intro w41 x35
           have sx35 := x35.size
           refine RW.pure tabOk 4 rfl ?_
           have h201 := gb1_3.ext x35
           refine RW.load tabOk [.slice Ab1_0_1 lb1_0_1.length cb1_0_1] ((h201.at 0).take 1 rfl) ⟨rfl, rfl, rfl, rfl⟩ rfl rfl rfl rfl ?_
           have h202 := gb7_3.ext x35
           refine RW.load tabOk [.int .i64 y6.1.Ptr_.Dev, .int .i64 y6.1.Ptr_.At] ((h202.at 0).take 2 rfl) ⟨rfl, rfl, rfl, rfl⟩ rfl rfl rfl rfl ?_
           refine RW.callFM (R := fun e w42 => ∃ (it64_6 : Int) (lb1_0_6 : List Device) (Ab1_0_6 : Option Addr) (cb1_0_6 : Nat), e = .returned (.int .i64 it64_6) ∧ w41.heap.size ≤ w42.heap.size ∧ Ow kDeviceO 84 w42.heap (okL [(w6.heap.size, some w19.heap.size, some 84)]) (okL [(w6.heap.size, none, some 93)]) Ab1_0_6 cb1_0_6 lb1_0_6 ∧ OwB kTableO 75 86 w42.heap (okL [(w7.heap.size, some w28.heap.size, some 75)]) (okL [(w12.heap.size, some w28.heap.size, some 86)]) Ab1_1_3 cb1_1_3 lb1_1_3 ∧ Ow kEntry 86 w42.heap (okL [(w8.heap.size, some w9.heap.size, some 86)]) (okL []) Ab1_6_3 cb1_6_3 lb1_6_3 ∧ Sl kPtr w42.heap (okL [(0, some w.heap.size, none)]) A4 p1 ∧ Ext w w42 ∧ Box w42.heap b1 79 [.slice Ab1_0_6 lb1_0_6.length cb1_0_6, .slice Ab1_1_3 lb1_1_3.length cb1_1_3, .int .i64 p0.Job.Dev, .int .i64 p0.Job.At, .int .i64 y4.Dev, .int .i64 y4.Size, .slice Ab1_6_3 lb1_6_3.length cb1_6_3, .int .i64 p0.Next] ∧ Box w42.heap b2 79 [.slice none 0 0, .slice none 0 0, .int .i64 0, .int .i64 0, .int .i64 0, .int .i64 0, .slice none 0 0, .int .i64 0] ∧ Box w42.heap 0 gT (arrI .u8 64 tz) ∧ chain_Lose.j3 it17_1 lb1_1_3 lb1_6_3 (chain_Lose.l1 p0 p1 k y4 n2) it64_6 lb1_0_6 = some r) ent71 ⟨rfl, rfl, rfl, rfl⟩ rfl rfl rfl ?_ ?_
           ·
            refine calls_start Tryd.func71 rfl 56 rfl [.slice Ab1_0_1 lb1_0_1.length cb1_0_1, .agg #[.int .i64 y6.1.Ptr_.Dev, .int .i64 y6.1.Ptr_.At]] rfl ?_
            refine CW.seq ?_
            refine CW.lex [.X, .W] rfl ?_
            refine RW.box (cs := [.int .i64 y6.1.Ptr_.Dev, .int .i64 y6.1.Ptr_.At]) (.inl rfl) ⟨rfl, rfl, rfl, rfl⟩ rfl rfl rfl ?_
            intro b9 w43 x36 l13 h203
            have sx36 := x36.size
            have ltb9 := h203.lt
            refine RW.pure tabOk 1 rfl ?_
            refine RW.done ?_
            refine NW.next ?_
            refine CW.seq ?_
            refine CW.lex [.W, .W, .L, .X, .W, .W, .W, .W, .W] rfl ?_
            refine RW.pure tabOk 2 rfl ?_
            refine RW.load tabOk [.int .i64 y6.1.Ptr_.Dev] ((h203.at 0).take 1 rfl) ⟨rfl, rfl, rfl, rfl⟩ rfl rfl rfl rfl ?_
            have h204 := (gL1_b1_0_3.ext x35).ext x36
            obtain ⟨y10, h205, H⟩ := bind_some H
            refine RW.callF (.inl rfl) ent86 ⟨rfl, rfl, rfl, rfl⟩ rfl rfl (room_Find.calls k Ab1_0_1 cb1_0_1 lb1_0_1 y6.1.Ptr_.Dev _ _ (h204.all.to kDevice_ro rfl) h204.len h205) ?_
            rintro _ w44 ⟨rfl, x37⟩
            refine ⟨_, rfl, x37, ?_⟩
            have sx37 := x37.size
            refine RW.pure tabOk 5 rfl ?_
            refine RW.done ?_
            refine NW.next ?_
            refine CW.seq ?_
            refine CW.block ?_
            refine CW.seq ?_
            refine CW.lex [.W, .W, .W] rfl ?_
            refine RW.pure tabOk 3 rfl ?_
            refine RW.done ?_
            refine NW.next ?_
            by_cases c13 : y10.2 = true
            ·
             rw [if_pos c13] at H
             refine CW.cond_f rfl (not_f (c13)) ?_
             refine CW.seqJ (fun a w45 => ∃ (bt17_7 : Bool), Sat 56 [(0, .slice Ab1_0_1 lb1_0_1.length cb1_0_1), (3, .pointer (some ⟨b9, 0, none⟩)), (5, .int .i64 y10.1), (17, .bool bt17_7)] a ∧ w44.heap.size ≤ w45.heap.size ∧ Ow kDeviceO 84 w45.heap (okL [(w6.heap.size, some w19.heap.size, some 84)]) (okL [(w6.heap.size, some w19.heap.size, some 93)]) Ab1_0_1 cb1_0_1 lb1_0_1 ∧ OwB kTableO 75 86 w45.heap (okL [(w7.heap.size, some w28.heap.size, some 75)]) (okL [(w12.heap.size, some w28.heap.size, some 86)]) Ab1_1_3 cb1_1_3 lb1_1_3 ∧ Ow kEntry 86 w45.heap (okL [(w8.heap.size, some w9.heap.size, some 86)]) (okL []) Ab1_6_3 cb1_6_3 lb1_6_3 ∧ Sl kPtr w45.heap (okL [(0, some w.heap.size, none)]) A4 p1 ∧ Ext w w45 ∧ Box w45.heap b9 70 [.int .i64 y6.1.Ptr_.Dev, .int .i64 y6.1.Ptr_.At] ∧ Box w45.heap b1 79 [.slice Ab1_0_1 lb1_0_1.length cb1_0_1, .slice Ab1_1_3 lb1_1_3.length cb1_1_3, .int .i64 p0.Job.Dev, .int .i64 p0.Job.At, .int .i64 y4.Dev, .int .i64 y4.Size, .slice Ab1_6_3 lb1_6_3.length cb1_6_3, .int .i64 p0.Next] ∧ Box w45.heap b2 79 [.slice none 0 0, .slice none 0 0, .int .i64 0, .int .i64 0, .int .i64 0, .int .i64 0, .slice none 0 0, .int .i64 0] ∧ Box w45.heap 0 gT (arrI .u8 64 tz) ∧ chain_Lose.j4 k it17_1 lb1_0_1 y6 lb1_1_3 lb1_6_3 y10 (chain_Lose.l1 p0 p1 k y4 n2) bt17_7 = some r) ?_ ?_
             ·
              refine CW.ord [0, 1, 3, 7, 15, 31, 15, 15, 207, 463, 975, 2047, 4095, 8191] (ofL [(0, .W), (1, .L), (2, .W), (3, .W), (4, .W), (6, .W), (7, .W), (8, .W), (9, .W), (5, .L), (10, .L), (11, .W), (12, .W), (13, .W)] .nil) mixed (by kernel_rfl) ?_
              intro w46 x38
              have sx38 := x38.size
              refine RW.pure tabOk 1 rfl ?_
              have h206 := (h203.ext x37).ext x38
              refine RW.load tabOk [.int .i64 y6.1.Ptr_.At] (h206.at 1) ⟨rfl, rfl, rfl, rfl⟩ rfl rfl rfl rfl ?_
              refine RW.pure tabOk 2 rfl ?_
              by_cases c14 : y6.1.Ptr_.At < 0
              ·
               rw [if_pos c14] at H
               refine RW.bool 21 (b' := true) (decide_eq_true c14) rfl ?_
               refine RW.pure tabOk 10 rfl ?_
               refine RW.done ?_
               have h207 := (h204.ext x37).ext x38
               have h208 := (((h115.ext x35).ext x36).ext x37).ext x38
               have h209 := (((fb1_6_3.ext x35).ext x36).ext x37).ext x38
               have h210 := (((gF4_3.ext x35).ext x36).ext x37).ext x38
               have h211 := Ext.trans (Ext.trans (Ext.trans (Ext.trans x0_3 x35) x36) x37) x38
               have h212 := ((h201.ext x36).ext x37).ext x38
               have h213 := (((gb2_3.ext x35).ext x36).ext x37).ext x38
               have h214 := (((g0_3.ext x35).ext x36).ext x37).ext x38
               exact NW.J fun a ha => ⟨true, ha.sub ⟨rfl, rfl, rfl, rfl, trivial⟩, by omega, h207, h208, h209, h210, h211, h206, h212, h213, h214, H⟩
              ·
               rw [if_neg c14] at H
               refine RW.bool 21 (b' := false) (decide_eq_false c14) rfl ?_
               refine RW.pure tabOk 3 rfl ?_
               obtain ⟨g14, H⟩ := guard_some H
               have h215 := (h204.ext x37).ext x38
               obtain ⟨ad15, A14, c_14, A15, c_15, e15, a15, h216, h217⟩ := kDeviceO_ato h215 g14.1 g14.2
               refine RW.index tabOk g14.1 g14.2 e15 ⟨rfl, rfl, rfl, rfl⟩ rfl rfl rfl rfl rfl rfl ?_
               refine RW.pure tabOk 1 rfl ?_
               refine RW.load tabOk [.int .i64 y6.1.Ptr_.At] (h206.at 1) ⟨rfl, rfl, rfl, rfl⟩ rfl rfl rfl rfl ?_
               refine RW.load tabOk [.int .i64 ((rd lb1_0_1 y10.1).Size)] ((a15.fld 1).take 1 rfl) ⟨rfl, rfl, rfl, rfl⟩ rfl rfl rfl rfl ?_
               refine RW.pure tabOk 3 rfl ?_
               refine RW.done ?_
               have h218 := (((h115.ext x35).ext x36).ext x37).ext x38
               have h219 := (((fb1_6_3.ext x35).ext x36).ext x37).ext x38
               have h220 := (((gF4_3.ext x35).ext x36).ext x37).ext x38
               have h221 := Ext.trans (Ext.trans (Ext.trans (Ext.trans x0_3 x35) x36) x37) x38
               have h222 := ((h201.ext x36).ext x37).ext x38
               have h223 := (((gb2_3.ext x35).ext x36).ext x37).ext x38
               have h224 := (((g0_3.ext x35).ext x36).ext x37).ext x38
               exact NW.J fun a ha => ⟨(decide (((rd lb1_0_1 y10.1).Size) ≤ y6.1.Ptr_.At)), ha.sub ⟨rfl, rfl, rfl, rfl, trivial⟩, by omega, h215, h218, h219, h220, h221, h206, h222, h223, h224, H⟩
             intro a w45 hJ hp
             obtain ⟨bt17_7, hS, hle, gL1_b1_0_7, gL3_b1_1_7, gL3_b1_6_7, gF4_7, x0_7, gb9_7, gb1_7, gb2_7, g0_7, H⟩ := hJ
             unfold chain_Lose.j4 at H
             refine CW.go hp hS ?_
             by_cases c15 : bt17_7 = true
             ·
              rw [if_pos c15] at H
              refine CW.cond_t rfl (c15) ?_
              refine CW.seq ?_
              refine CW.lex [.W] rfl ?_
              refine RW.pure tabOk 1 rfl ?_
              refine RW.done ?_
              refine NW.next ?_
              refine CW.ret ?_
              refine NW.ret_block (NW.ret_then ?_)
              exact NW.ret1 rfl (by rfl) ⟨1, lb1_0_1, Ab1_0_1, cb1_0_1, rfl, by omega, (gL1_b1_0_7.sub ⟨(.inl ⟨by omega, by omega, rfl⟩), trivial⟩ ⟨(.inl ⟨by omega, trivial, rfl⟩), trivial⟩), gL3_b1_1_7, gL3_b1_6_7, gF4_7, x0_7, gb1_7, gb2_7, g0_7, H⟩
             ·
              rw [if_neg c15] at H
              refine CW.cond_f rfl (bool_f c15) ?_
              refine CW.seq ?_
              refine CW.ord [0, 0, 3, 7, 15, 0, 32, 127, 255, 511] (ofL [(0, .W), (1, .W), (2, .W), (5, .W), (3, .L), (6, .L), (4, .X), (7, .X), (8, .W), (9, .W)] .nil) mixed (by kernel_rfl) ?_
              intro w47 x39
              have sx39 := x39.size
              refine RW.pure tabOk 2 rfl ?_
              obtain ⟨g15, H⟩ := guard_some H
              have h225 := gL1_b1_0_7.ext x39
              obtain ⟨ad16, A16, c_16, A17, c_17, e16, a16, h226, h227⟩ := kDeviceO_ato h225 g15.1 g15.2
              refine RW.index tabOk g15.1 g15.2 e16 ⟨rfl, rfl, rfl, rfl⟩ rfl rfl rfl rfl rfl rfl ?_
              refine RW.pure tabOk 1 rfl ?_
              refine RW.load tabOk [.int .i64 ((rd lb1_0_1 y10.1).ID), .int .i64 ((rd lb1_0_1 y10.1).Size), .slice A16 ((rd lb1_0_1 y10.1).Free).length c_16, .slice A17 ((rd lb1_0_1 y10.1).Late).length c_17] a16 ⟨rfl, rfl, rfl, rfl⟩ rfl rfl rfl rfl ?_
              have h228 := gb9_7.ext x39
              refine RW.load tabOk [.int .i64 y6.1.Ptr_.At] (h228.at 1) ⟨rfl, rfl, rfl, rfl⟩ rfl rfl rfl rfl ?_
              obtain ⟨y11, h229, H⟩ := bind_some H
              refine RW.callF (.inl rfl) ent87 ⟨rfl, rfl, rfl, rfl⟩ rfl rfl (room_Busy.calls k (rd lb1_0_1 y10.1) A16 c_16 A17 c_17 _ _ h226.all h226.len h227.all h227.len h229) ?_
              rintro _ w48 ⟨rfl, x40⟩
              refine ⟨_, rfl, x40, ?_⟩
              have sx40 := x40.size
              obtain ⟨y12, h230, H⟩ := bind_some H
              refine RW.callF (.inl rfl) ent64 ⟨rfl, rfl, rfl, rfl⟩ rfl rfl (seg_Set_Has.calls y11 y6.1.Ptr_.At _ _ h230) ?_
              rintro _ w49 ⟨rfl, x41⟩
              refine ⟨_, rfl, x41, ?_⟩
              have sx41 := x41.size
              refine RW.pure tabOk 2 rfl ?_
              refine RW.done ?_
              refine NW.next ?_
              by_cases c16 : y12 = true
              ·
               rw [if_pos c16] at H
               refine CW.cond_f rfl (not_f (c16)) ?_
               refine CW.skip ?_
               refine NW.norm_block (NW.next ?_)
               refine CW.seq ?_
               refine CW.ord [0, 0, 0, 0, 12, 28, 60, 124, 0, 256, 1020, 2044, 4092, 8191, 16383, 32767] (ofL [(0, .W), (1, .W), (2, .W), (3, .W), (4, .W), (5, .W), (8, .W), (6, .L), (9, .L), (7, .X), (10, .X), (11, .W), (12, .X), (13, .W), (14, .W), (15, .M)] .nil) mixed (by kernel_rfl) ?_
               intro w50 x42
               have sx42 := x42.size
               refine RW.pure tabOk 4 rfl ?_
               obtain ⟨g16, H⟩ := guard_some H
               have h231 := ((h225.ext x40).ext x41).ext x42
               obtain ⟨ad17, A18, c_18, A19, c_19, e17, a17, h232, h233⟩ := kDeviceO_ato h231 g16.1 g16.2
               refine RW.index tabOk g16.1 g16.2 e17 ⟨rfl, rfl, rfl, rfl⟩ rfl rfl rfl rfl rfl rfl ?_
               refine RW.pure tabOk 2 rfl ?_
               refine RW.load tabOk [.slice A19 ((rd lb1_0_1 y10.1).Late).length c_19] (a17.fld 3) ⟨rfl, rfl, rfl, rfl⟩ rfl rfl rfl rfl ?_
               have h234 := ((h228.ext x40).ext x41).ext x42
               refine RW.load tabOk [.int .i64 y6.1.Ptr_.At] (h234.at 1) ⟨rfl, rfl, rfl, rfl⟩ rfl rfl rfl rfl ?_
               obtain ⟨y13, h235, H⟩ := bind_some H
               refine RW.callF (.inl rfl) ent52 ⟨rfl, rfl, rfl, rfl⟩ rfl rfl (seg_Make.calls k A19 c_19 ((rd lb1_0_1 y10.1).Late) _ _ h233.all h233.len h235) ?_
               rintro _ w51 ⟨rfl, x43⟩
               refine ⟨_, rfl, x43, ?_⟩
               have sx43 := x43.size
               obtain ⟨y14, h236, H⟩ := bind_some H
               refine RW.callF (.inl rfl) ent63 ⟨rfl, rfl, rfl, rfl⟩ rfl rfl (seg_One.calls y6.1.Ptr_.At _ _ h236) ?_
               rintro _ w52 ⟨rfl, x44⟩
               refine ⟨_, rfl, x44, ?_⟩
               have sx44 := x44.size
               refine RW.pure tabOk 1 rfl ?_
               have h237 := (((((g0_7.ext x39).ext x40).ext x41).ext x42).ext x43).ext x44
               obtain ⟨y15, h238, H⟩ := bind_some H
               refine RW.callF (.inl rfl) ent53 ⟨rfl, rfl, rfl, rfl⟩ rfl rfl (seg_Set_Segs.calls k (uor y13 y14) _ _ h237 h238) ?_
               rintro _ w53 ⟨A20, c_20, rfl, x45, h239⟩
               refine ⟨_, rfl, x45, ?_⟩
               have sx45 := x45.size
               have h240 : Ow kSeg 93 w53.heap (okL [(w52.heap.size, some w53.heap.size, some 93)]) (okL []) A20 c_20 y15 := h239.close
               obtain ⟨g17, H⟩ := guard_some H
               have h241 := ((h231.ext x43).ext x44).ext x45
               obtain ⟨ad18, A21, c_21, A22, c_22, e18, a18, h242, h243⟩ := kDeviceO_ato h241 g17.1 g17.2
               refine RW.index tabOk g17.1 g17.2 e18 ⟨rfl, rfl, rfl, rfl⟩ rfl rfl rfl rfl rfl rfl ?_
               refine RW.pure tabOk 1 rfl ?_
               refine RW.storeElL (y := (⟨(rd lb1_0_1 y10.1).ID, (rd lb1_0_1 y10.1).Size, (rd lb1_0_1 y10.1).Free, y15⟩ : Device)) (lv := [(w52.heap.size, some w53.heap.size, some 93)]) (k := 3) tabOk h241 (j := y10.1.toNat) (by have := g17; omega) default [.slice A20 y15.length c_20] (fun cs ok' hr => by obtain ⟨qa1, qc1, qa2, qc2, rfl, q1, q2⟩ := kDeviceO_open hr; exact ⟨by simp, kDeviceO_mk (⟨(rd lb1_0_1 y10.1).ID, (rd lb1_0_1 y10.1).Size, (rd lb1_0_1 y10.1).Free, y15⟩ : Device) (q1.mono (fun _ _ ho => Or.inl ho) (fun _ _ ho => Or.inl ho)) (h240.mono (fun _ _ ho => Or.inr (okL_sub (l := [(w52.heap.size, some w53.heap.size, some 93)]) (l' := [(w52.heap.size, some w53.heap.size, some 93)]) ⟨(.inl ⟨by omega, by omega, rfl⟩), trivial⟩ ho)) (fun _ _ ho => Or.inr (okL_sub (l := []) (l' := [(w52.heap.size, some w53.heap.size, some 93)]) trivial ho)))⟩) ⟨⟨.inl (show (93 : Nat) ≠ 84 by decide), trivial⟩, trivial⟩ ⟨rfl, rfl, rfl⟩ rfl rfl e18 rfl rfl rfl rfl rfl ?_
               intro w54 x46 h244
               have sx46 := x46.size
               have h245 := h244.close.sub (l' := [(w6.heap.size, some w19.heap.size, some 84)]) (li' := [(w6.heap.size, some w53.heap.size, some 93)]) ⟨(.inl ⟨by omega, by omega, rfl⟩), trivial⟩ ⟨(.inl ⟨by omega, by omega, rfl⟩), ⟨(.inl ⟨by omega, by omega, rfl⟩), trivial⟩⟩
               have h246 := (((((((gb1_7.ext x39).ext x40).ext x41).ext x42).ext x43).ext x44).ext x45).turnL x46 (.inl (by decide))
               have h247 : Box w54.heap b1 79 [.slice Ab1_0_1 (lb1_0_1.set y10.1.toNat (⟨(rd lb1_0_1 y10.1).ID, (rd lb1_0_1 y10.1).Size, (rd lb1_0_1 y10.1).Free, y15⟩ : Device)).length cb1_0_1, .slice Ab1_1_3 lb1_1_3.length cb1_1_3, .int .i64 p0.Job.Dev, .int .i64 p0.Job.At, .int .i64 y4.Dev, .int .i64 y4.Size, .slice Ab1_6_3 lb1_6_3.length cb1_6_3, .int .i64 p0.Next] := by simpa only [List.length_set] using h246
               refine RW.done ?_
               refine NW.next ?_
               refine CW.seq ?_
               refine CW.lex [.W] rfl ?_
               refine RW.pure tabOk 1 rfl ?_
               refine RW.done ?_
               refine NW.next ?_
               refine CW.ret ?_
               have h248 := (((((((gL3_b1_1_7.ext x39).ext x40).ext x41).ext x42).ext x43).ext x44).ext x45).turnL x46 ⟨⟨.inl (show (75 : Nat) ≠ 84 by decide), trivial⟩, trivial⟩ ⟨⟨.inl (show (86 : Nat) ≠ 84 by decide), trivial⟩, trivial⟩
               have h249 := (((((((gL3_b1_6_7.ext x39).ext x40).ext x41).ext x42).ext x43).ext x44).ext x45).turnL x46 ⟨⟨.inl (show (86 : Nat) ≠ 84 by decide), trivial⟩, trivial⟩ trivial
               have h250 := (((((((gF4_7.ext x39).ext x40).ext x41).ext x42).ext x43).ext x44).ext x45).turnL x46 ⟨⟨.inr (.inl (by omega)), trivial⟩, trivial⟩
               have h251 := Ext.turn (Ext.trans (Ext.trans (Ext.trans (Ext.trans (Ext.trans (Ext.trans (Ext.trans x0_7 x39) x40) x41) x42) x43) x44) x45) x46 ⟨by omega, trivial⟩
               have h252 := (((((((gb2_7.ext x39).ext x40).ext x41).ext x42).ext x43).ext x44).ext x45).turnL x46 (.inl (by decide))
               have h253 := (h237.ext x45).turnL x46 (.inr ⟨⟨.inr (.inl (by omega)), trivial⟩, trivial⟩)
               exact NW.ret1 rfl (by rfl) ⟨0, (lb1_0_1.set y10.1.toNat (⟨(rd lb1_0_1 y10.1).ID, (rd lb1_0_1 y10.1).Size, (rd lb1_0_1 y10.1).Free, y15⟩ : Device)), Ab1_0_1, cb1_0_1, rfl, by omega, (h245.sub ⟨(.inl ⟨by omega, by omega, rfl⟩), trivial⟩ ⟨(.inl ⟨by omega, trivial, rfl⟩), trivial⟩), h248, h249, h250, h251, h247, h252, h253, H⟩
              ·
               rw [if_neg c16] at H
               refine CW.cond_t rfl (not_t (bool_f c16)) ?_
               refine CW.seq ?_
               refine CW.lex [.W] rfl ?_
               refine RW.pure tabOk 1 rfl ?_
               refine RW.done ?_
               refine NW.next ?_
               refine CW.ret ?_
               refine NW.ret_block (NW.ret_then ?_)
               have h254 := (h225.ext x40).ext x41
               have h255 := ((gL3_b1_1_7.ext x39).ext x40).ext x41
               have h256 := ((gL3_b1_6_7.ext x39).ext x40).ext x41
               have h257 := ((gF4_7.ext x39).ext x40).ext x41
               have h258 := Ext.trans (Ext.trans (Ext.trans x0_7 x39) x40) x41
               have h259 := ((gb1_7.ext x39).ext x40).ext x41
               have h260 := ((gb2_7.ext x39).ext x40).ext x41
               have h261 := ((g0_7.ext x39).ext x40).ext x41
               exact NW.ret1 rfl (by rfl) ⟨4, lb1_0_1, Ab1_0_1, cb1_0_1, rfl, by omega, (h254.sub ⟨(.inl ⟨by omega, by omega, rfl⟩), trivial⟩ ⟨(.inl ⟨by omega, trivial, rfl⟩), trivial⟩), h255, h256, h257, h258, h259, h260, h261, H⟩
            ·
             rw [if_neg c13] at H
             refine CW.cond_t rfl (not_t (bool_f c13)) ?_
             refine CW.seq ?_
             refine CW.lex [.W] rfl ?_
             refine RW.pure tabOk 1 rfl ?_
             refine RW.done ?_
             refine NW.next ?_
             refine CW.ret ?_
             refine NW.ret_block (NW.ret_then ?_)
             have h262 := h204.ext x37
             have h263 := ((h115.ext x35).ext x36).ext x37
             have h264 := ((fb1_6_3.ext x35).ext x36).ext x37
             have h265 := ((gF4_3.ext x35).ext x36).ext x37
             have h266 := Ext.trans (Ext.trans (Ext.trans x0_3 x35) x36) x37
             have h267 := (h201.ext x36).ext x37
             have h268 := ((gb2_3.ext x35).ext x36).ext x37
             have h269 := ((g0_3.ext x35).ext x36).ext x37
             exact NW.ret1 rfl (by rfl) ⟨3, lb1_0_1, Ab1_0_1, cb1_0_1, rfl, by omega, (h262.sub ⟨(.inl ⟨by omega, by omega, rfl⟩), trivial⟩ ⟨(.inl ⟨by omega, trivial, rfl⟩), trivial⟩), h263, h264, h265, h266, h267, h268, h269, H⟩
           rintro _ w42 ⟨it64_6, lb1_0_6, Ab1_0_6, cb1_0_6, rfl, hle, fb1_0_6, gL3_b1_1_6, gL3_b1_6_6, gF4_6, x0_6, gb1_6, gb2_6, g0_6, H⟩
           refine ⟨_, rfl, ?_⟩
           unfold chain_Lose.j3 at H
           have h270 : Ow kDeviceO 84 w42.heap (okL [(w6.heap.size, some w19.heap.size, some 84)]) (okL [(w6.heap.size, some w42.heap.size, some 93)]) Ab1_0_6 cb1_0_6 lb1_0_6 := fb1_0_6.close
           refine RW.pure tabOk 1 rfl ?_
           refine RW.done ?_
           refine NW.next ?_
           refine CW.ret ?_
           exact NW.ret1 rfl (by rfl) ⟨it64_6, lb1_0_6, Ab1_0_6, cb1_0_6, lb1_1_3, Ab1_1_3, cb1_1_3, lb1_6_3, Ab1_6_3, cb1_6_3, rfl, by omega, (h270.sub ⟨(.inl ⟨by omega, by omega, rfl⟩), trivial⟩ ⟨(.inl ⟨by omega, trivial, rfl⟩), trivial⟩), (gL3_b1_1_6.sub ⟨(.inl ⟨by omega, trivial, rfl⟩), trivial⟩ ⟨(.inl ⟨by omega, trivial, rfl⟩), trivial⟩), (gL3_b1_6_6.sub ⟨(.inl ⟨by omega, by omega, rfl⟩), trivial⟩ trivial), gF4_6, x0_6, gb1_6, gb2_6, g0_6, H⟩
        ·
         rw [if_neg c4] at H
         refine CW.cond_t rfl (not_t (bool_f c4)) ?_
         refine CW.seq ?_
         refine CW.lex [.W] rfl ?_
         refine RW.pure tabOk 1 rfl ?_
         refine RW.done ?_
         refine NW.next ?_
         refine CW.ret ?_
         refine NW.ret_then ?_
         have h271 := (h97.ext x23).turnB x24 h103 ⟨.inl (show (84 : Nat) ≠ 121 by decide), trivial⟩ ⟨.inl (show (93 : Nat) ≠ 121 by decide), trivial⟩
         have h272 := (h98.ext x23).turnB x24 h103 ⟨.inl (show (75 : Nat) ≠ 121 by decide), trivial⟩ ⟨.inl (show (86 : Nat) ≠ 121 by decide), trivial⟩
         have h273 := (h99.ext x23).turnB x24 h103 ⟨.inl (show (86 : Nat) ≠ 121 by decide), trivial⟩ trivial
         have h274 := ((((((gF4_1.ext x18).turnB x19 h90 ⟨.inr (by omega), trivial⟩).ext x20).ext x21).ext x22).ext x23).turnB x24 h103 ⟨.inr (by omega), trivial⟩
         have h275 := Ext.turnB (Ext.trans (Ext.trans (Ext.trans (Ext.trans (Ext.turnB (Ext.trans x0_1 x18) x19 (by omega)) x20) x21) x22) x23) x24 (by omega)
         have h276 := ((h94.ext x22).ext x23).turnB x24 (by omega)
         have h277 := ((((((gb2_1.ext x18).turnB x19 (by omega)).ext x20).ext x21).ext x22).ext x23).turnB x24 (by omega)
         have h278 := ((((((g0_1.ext x18).turnB x19 (by omega)).ext x20).ext x21).ext x22).ext x23).turnB x24 (by omega)
         exact NW.ret1 rfl (by rfl) ⟨3, lb1_0_1, Ab1_0_1, cb1_0_1, lb1_1_1, Ab1_1_1, cb1_1_1, lb1_6_1, Ab1_6_1, cb1_6_1, rfl, by omega, (h271.sub ⟨(.inl ⟨by omega, by omega, rfl⟩), trivial⟩ ⟨(.inl ⟨by omega, trivial, rfl⟩), trivial⟩), (h272.sub ⟨(.inl ⟨by omega, trivial, rfl⟩), trivial⟩ ⟨(.inl ⟨by omega, trivial, rfl⟩), trivial⟩), (h273.sub ⟨(.inl ⟨by omega, by omega, rfl⟩), trivial⟩ trivial), h274, h275, h276, h277, h278, H⟩
      rintro _ w22 ⟨it22_2, lb1_0_2, Ab1_0_2, cb1_0_2, lb1_1_2, Ab1_1_2, cb1_1_2, lb1_6_2, Ab1_6_2, cb1_6_2, rfl, hle, fb1_0_2, fb1_1_2, fb1_6_2, gF4_2, x0_2, gb1_2, gb2_2, g0_2, H⟩
      refine ⟨_, rfl, ?_⟩
      unfold chain_Lose.j0 at H
      have h279 : Ow kDeviceO 84 w22.heap (okL [(w6.heap.size, some w19.heap.size, some 84)]) (okL [(w6.heap.size, some w22.heap.size, some 93)]) Ab1_0_2 cb1_0_2 lb1_0_2 := fb1_0_2.close
      have h280 : OwB kTableO 75 86 w22.heap (okL [(w7.heap.size, some w22.heap.size, some 75)]) (okL [(w12.heap.size, some w22.heap.size, some 86)]) Ab1_1_2 cb1_1_2 lb1_1_2 := fb1_1_2.close
      refine RW.pure tabOk 1 rfl ?_
      refine RW.done ?_
      refine NW.next ?_
      refine CW.seq ?_
      refine CW.lex [.W, .W] rfl ?_
      refine RW.pure tabOk 2 rfl ?_
      refine RW.done ?_
      refine NW.next ?_
      by_cases c17 : it22_2 = 0
      ·
       rw [if_pos c17] at H
       refine CW.cond_f rfl (bne_f c17) ?_
       refine CW.skip ?_
       refine NW.norm_block (NW.next ?_)
       refine CW.lex [.W, .W] rfl ?_
       refine RW.pure tabOk 2 rfl ?_
       refine RW.done ?_
       exact NW.J fun a ha => ⟨n2, Nat.lt_succ_self n2, (w64 (it17_1 + 1)), lb1_0_2, Ab1_0_2, cb1_0_2, lb1_1_2, Ab1_1_2, cb1_1_2, lb1_6_2, Ab1_6_2, cb1_6_2, ha.sub ⟨rfl, rfl, rfl, rfl, rfl, trivial⟩, by omega, (h279.sub ⟨(.inl ⟨by omega, trivial, rfl⟩), trivial⟩ ⟨(.inl ⟨by omega, trivial, rfl⟩), trivial⟩), (h280.sub ⟨(.inl ⟨by omega, trivial, rfl⟩), trivial⟩ ⟨(.inl ⟨by omega, trivial, rfl⟩), trivial⟩), (fb1_6_2.sub ⟨(.inl ⟨by omega, by omega, rfl⟩), trivial⟩ trivial), gF4_2, x0_2, gb1_2, gb2_2, g0_2, H⟩
      ·
       rw [if_neg c17] at H
       refine CW.cond_t rfl (bne_t c17) ?_
       refine CW.seq ?_
       refine CW.lex [.W, .W, .M, .W] rfl ?_
       refine RW.pure tabOk 2 rfl ?_
       refine RW.storeBox tabOk gb2_2 [.slice none 0 0, .slice none 0 0, .int .i64 0, .int .i64 0, .int .i64 0, .int .i64 0, .slice none 0 0, .int .i64 0] ⟨rfl, rfl, rfl⟩ rfl rfl rfl rfl rfl rfl rfl rfl ?_
       intro w55 x47 h281
       have h282 : Box w55.heap b2 79 [.slice none 0 0, .slice none 0 0, .int .i64 0, .int .i64 0, .int .i64 0, .int .i64 0, .slice none 0 0, .int .i64 0] := h281
       have sx47 := x47.size
       refine RW.pure tabOk 1 rfl ?_
       refine RW.done ?_
       refine NW.next ?_
       refine CW.ret ?_
       refine NW.ret_block (NW.ret_then (NW.ret_then (NW.ret_block (NW.ret_then ?_))))
       obtain rfl := Option.some.inj H
       have h283 := Ext.turnB x0_2 x47 (by omega)
       exact NW.ret2 rfl (resOne_cell tabOk (h282.at 0) rfl rfl rfl) (by rfl) ⟨none, 0, none, 0, none, 0, rfl, h283, Ow.nil, Ow.nil, Ow.nil⟩
     ·
      rw [if_neg c3] at H
      refine CW.cond_f rfl (decide_eq_false c3) ?_
      refine CW.exit ?_
      refine NW.exit_then (NW.exit_then (NW.exit_hit ?_))
      refine NW.next ?_
      refine CW.seq ?_
      refine CW.lex [.L, .M, .W] rfl ?_
      refine RW.load tabOk [.slice Ab1_0_1 lb1_0_1.length cb1_0_1, .slice Ab1_1_1 lb1_1_1.length cb1_1_1, .int .i64 p0.Job.Dev, .int .i64 p0.Job.At, .int .i64 y4.Dev, .int .i64 y4.Size, .slice Ab1_6_1 lb1_6_1.length cb1_6_1, .int .i64 p0.Next] (gb1_1.at 0) ⟨rfl, rfl, rfl, rfl⟩ rfl rfl rfl rfl ?_
      refine RW.storeBox tabOk gb2_1 [.slice Ab1_0_1 lb1_0_1.length cb1_0_1, .slice Ab1_1_1 lb1_1_1.length cb1_1_1, .int .i64 p0.Job.Dev, .int .i64 p0.Job.At, .int .i64 y4.Dev, .int .i64 y4.Size, .slice Ab1_6_1 lb1_6_1.length cb1_6_1, .int .i64 p0.Next] ⟨rfl, rfl, rfl⟩ rfl rfl rfl rfl rfl rfl rfl rfl ?_
      intro w56 x48 h284
      have h285 : Box w56.heap b2 79 [.slice Ab1_0_1 lb1_0_1.length cb1_0_1, .slice Ab1_1_1 lb1_1_1.length cb1_1_1, .int .i64 p0.Job.Dev, .int .i64 p0.Job.At, .int .i64 y4.Dev, .int .i64 y4.Size, .slice Ab1_6_1 lb1_6_1.length cb1_6_1, .int .i64 p0.Next] := h284
      have sx48 := x48.size
      refine RW.pure tabOk 1 rfl ?_
      refine RW.done ?_
      refine NW.next ?_
      refine CW.ret ?_
      have h286 := h88.turnB x48 gb2_1 ⟨.inl (show (84 : Nat) ≠ 79 by decide), trivial⟩ ⟨.inl (show (93 : Nat) ≠ 79 by decide), trivial⟩
      have h287 := h89.turnB x48 gb2_1 ⟨.inl (show (75 : Nat) ≠ 79 by decide), trivial⟩ ⟨.inl (show (86 : Nat) ≠ 79 by decide), trivial⟩
      have h288 := fb1_6_1.turnB x48 gb2_1 ⟨.inl (show (86 : Nat) ≠ 79 by decide), trivial⟩ trivial
      obtain rfl := Option.some.inj H
      have h289 := Ext.turnB x0_1 x48 (by omega)
      exact NW.ret2 rfl (resOne_cell tabOk (h285.at 0) rfl rfl rfl) (by rfl) ⟨Ab1_0_1, cb1_0_1, Ab1_1_1, cb1_1_1, Ab1_6_1, cb1_6_1, rfl, h289, (h286.sub (l' := [(w.heap.size, none, some 84)]) (li' := [(w.heap.size, none, some 93)]) ⟨(.inl ⟨by omega, trivial, rfl⟩), trivial⟩ ⟨(.inl ⟨by omega, trivial, rfl⟩), trivial⟩), ((h287.ow (show (86 : Nat) ≠ 75 by decide)).sub (l' := [(w.heap.size, none, some 75)]) (li' := [(w.heap.size, none, some 86)]) ⟨(.inl ⟨by omega, trivial, rfl⟩), trivial⟩ ⟨(.inl ⟨by omega, trivial, rfl⟩), trivial⟩), (h288.sub (l' := [(w.heap.size, none, some 86)]) (li' := []) ⟨(.inl ⟨by omega, trivial, rfl⟩), trivial⟩ trivial)⟩
 ·
  rw [if_neg c1] at H
  refine CW.cond_t rfl (not_t (bool_f c1)) ?_
  refine CW.seq ?_
  refine CW.lex [.W, .M, .W] rfl ?_
  refine RW.pure tabOk 1 rfl ?_
  have h290 := h6.ext x3
  refine RW.storeBox tabOk h290 [.slice none 0 0, .slice none 0 0, .int .i64 0, .int .i64 0, .int .i64 0, .int .i64 0, .slice none 0 0, .int .i64 0] ⟨rfl, rfl, rfl⟩ rfl rfl rfl rfl rfl rfl rfl rfl ?_
  intro w57 x49 h291
  have h292 : Box w57.heap b2 79 [.slice none 0 0, .slice none 0 0, .int .i64 0, .int .i64 0, .int .i64 0, .int .i64 0, .slice none 0 0, .int .i64 0] := h291
  have sx49 := x49.size
  refine RW.pure tabOk 1 rfl ?_
  refine RW.done ?_
  refine NW.next ?_
  refine CW.ret ?_
  refine NW.ret_then ?_
  obtain rfl := Option.some.inj H
  have h293 := Ext.turnB (Ext.trans (Ext.trans (Ext.trans x0 x1) x2) x3) x49 (by omega)
  exact NW.ret2 rfl (resOne_cell tabOk (h292.at 0) rfl rfl rfl) (by rfl) ⟨none, 0, none, 0, none, 0, rfl, h293, Ow.nil, Ow.nil, Ow.nil⟩

set_option maxHeartbeats 20000000 in
set_option maxRecDepth 100000 in
theorem hermitagelaw9_wakes.calls (k : Nat)  (r : Bool) (w : World) (H : hermitagelaw9_wakes.f k = some r) :
    Calls Tryd.prog 50 #[] w fun e w' => e = .returned (.bool r) ∧ Ext w w' := by
 have x0 : Ext w w := Upd.refl _ w
 unfold hermitagelaw9_wakes.f at H
 refine calls_start Tryd.func50 rfl 21 rfl [] rfl ?_
 refine CW.seq ?_
 refine CW.lex [.W] rfl ?_
 refine RW.pure tabOk 1 rfl ?_
 refine RW.done ?_
 refine NW.next ?_
 refine CW.seq ?_
 refine CW.lex [.W, .X, .W, .X, .M] rfl ?_
 refine RW.pure tabOk 1 rfl ?_
 refine RW.buildSlice (cs := [.int .i64 1, .int .i64 2, .slice none 0 0, .slice none 0 0]) tabOk (.inl rfl) ⟨rfl, rfl, rfl, rfl⟩ rfl rfl rfl rfl rfl rfl rfl ?_
 intro b1 w1 x1 l1 h1
 have sx1 := x1.size
 have ltb1 := h1.lt
 refine RW.pure tabOk 1 rfl ?_
 refine RW.alloc tabOk (.inl rfl) ⟨rfl, rfl, rfl, rfl⟩ rfl rfl ?_
 intro b2 w2 x2 l2 h2
 have sx2 := x2.size
 have ltb2 := h2.lt
 have h3 := h1.ext x2
 have h4 : Ow kDeviceO 84 w2.heap (okL [(w.heap.size, some w1.heap.size, some 84)]) (okL []) (some ⟨b1, 0, none⟩) 1 ([(⟨1, 2, ([] : List Seg), ([] : List Seg)⟩ : Device)] : List Device) := Ow.of_box h3 (.inl ⟨l1, ltb1, rfl⟩) (Nat.le_of_ble_eq_true rfl) (Ch.cons (d := kDeviceO) (cs := [.int .i64 1, .int .i64 2, .slice none 0 0, .slice none 0 0]) (x := (⟨1, 2, ([] : List Seg), ([] : List Seg)⟩ : Device)) (kDeviceO_mk (⟨1, 2, ([] : List Seg), ([] : List Seg)⟩ : Device) Ow.nil Ow.nil) Ch.nil)
 refine RW.storeBox tabOk h2 [.slice (some ⟨b1, 0, none⟩) ([(⟨1, 2, ([] : List Seg), ([] : List Seg)⟩ : Device)] : List Device).length 1, .slice none 0 0, .int .i64 0, .int .i64 0, .int .i64 0, .int .i64 0, .slice none 0 0, .int .i64 2] ⟨rfl, rfl, rfl⟩ rfl rfl rfl rfl rfl rfl rfl rfl ?_
 intro w3 x3 h5
 have h6 : Box w3.heap b2 79 [.slice (some ⟨b1, 0, none⟩) ([(⟨1, 2, ([] : List Seg), ([] : List Seg)⟩ : Device)] : List Device).length 1, .slice none 0 0, .int .i64 0, .int .i64 0, .int .i64 0, .int .i64 0, .slice none 0 0, .int .i64 2] := h5
 have sx3 := x3.size
 refine RW.done ?_
 refine NW.next ?_
 refine CW.seq ?_
 refine CW.lex [.L, .W, .X, .W, .W, .W, .X, .M, .W] rfl ?_
 refine RW.load tabOk [.slice (some ⟨b1, 0, none⟩) ([(⟨1, 2, ([] : List Seg), ([] : List Seg)⟩ : Device)] : List Device).length 1, .slice none 0 0, .int .i64 0, .int .i64 0, .int .i64 0, .int .i64 0, .slice none 0 0, .int .i64 2] (h6.at 0) ⟨rfl, rfl, rfl, rfl⟩ rfl rfl rfl rfl ?_
 refine RW.pure tabOk 1 rfl ?_
 have h7 := h4.turnB x3 h2 ⟨.inl (show (84 : Nat) ≠ 79 by decide), trivial⟩ trivial
 obtain ⟨y1, h8, H⟩ := bind_some H
 refine RW.callF (.inl rfl) ent46 ⟨rfl, rfl, rfl, rfl⟩ rfl rfl (chain_Now.calls k (⟨([(⟨1, 2, ([] : List Seg), ([] : List Seg)⟩ : Device)] : List Device), ([] : List Table), (⟨0, 0, (⟨0, 0, ([] : List Entry)⟩ : Table)⟩ : Job), 2⟩ : Pool) (some ⟨b1, 0, none⟩) 1 none 0 none 0 (⟨1, 1⟩ : Ptr) _ _ (h7.all.to kDevice_ro rfl) h7.len Sl.nil (Nat.le_refl 0) Sl.nil (Nat.le_refl 0) h8) ?_
 rintro _ w4 ⟨rfl, x4⟩
 refine ⟨_, rfl, x4, ?_⟩
 have sx4 := x4.size
 refine RW.pure tabOk 3 rfl ?_
 refine RW.alloc tabOk (.inl rfl) ⟨rfl, rfl, rfl, rfl⟩ rfl rfl ?_
 intro b3 w5 x5 l3 h9
 have sx5 := x5.size
 have ltb3 := h9.lt
 refine RW.storeBox tabOk h9 [.int .i64 y1.1.Dev, .int .i64 y1.1.At] ⟨rfl, rfl, rfl⟩ rfl rfl rfl rfl rfl rfl rfl rfl ?_
 intro w6 x6 h10
 have h11 : Box w6.heap b3 70 [.int .i64 y1.1.Dev, .int .i64 y1.1.At] := h10
 have sx6 := x6.size
 refine RW.pure tabOk 1 rfl ?_
 refine RW.done ?_
 refine NW.next ?_
 refine CW.seq ?_
 refine CW.lex [.W, .X, .W, .W, .L, .W, .W, .W, .W] rfl ?_
 refine RW.pure tabOk 1 rfl ?_
 obtain ⟨y2, h12, H⟩ := bind_some H
 refine RW.callF (.inl rfl) ent48 ⟨rfl, rfl, rfl, rfl⟩ rfl rfl (hermitagelaw9_num.calls y1.2 _ _ h12) ?_
 rintro _ w7 ⟨rfl, x7⟩
 refine ⟨_, rfl, x7, ?_⟩
 have sx7 := x7.size
 refine RW.pure tabOk 2 rfl ?_
 by_cases c1 : y2 = 0
 ·
  rw [if_pos c1] at H
  refine RW.bool 16 (b' := true) (beq_t c1) rfl ?_
  have h13 := h11.ext x7
  refine RW.load tabOk [.int .i64 y1.1.Dev, .int .i64 y1.1.At] (h13.at 0) ⟨rfl, rfl, rfl, rfl⟩ rfl rfl rfl rfl ?_
  refine RW.pure tabOk 1 rfl ?_
  refine RW.eqAgg eqgPtr (eqPtr y1.1 (⟨1, 1⟩ : Ptr)) ⟨rfl, rfl, rfl, rfl⟩ rfl rfl rfl rfl ?_
  refine RW.pure tabOk 2 rfl ?_
  refine RW.done ?_
  refine NW.next ?_
  refine CW.ret ?_
  obtain rfl := Option.some.inj H
  have h14 := Ext.trans (Ext.turnB (Ext.trans (Ext.trans (Ext.turnB (Ext.trans (Ext.trans x0 x1) x2) x3 (by omega)) x4) x5) x6 (by omega)) x7
  exact NW.ret1 rfl (by rfl) ⟨rfl, h14⟩
 ·
  rw [if_neg c1] at H
  refine RW.bool 16 (b' := false) (beq_f c1) rfl ?_
  refine RW.pure tabOk 5 rfl ?_
  refine RW.done ?_
  refine NW.next ?_
  refine CW.ret ?_
  obtain rfl := Option.some.inj H
  have h15 := Ext.trans (Ext.turnB (Ext.trans (Ext.trans (Ext.turnB (Ext.trans (Ext.trans x0 x1) x2) x3 (by omega)) x4) x5) x6 (by omega)) x7
  exact NW.ret1 rfl (by rfl) ⟨rfl, h15⟩

set_option maxHeartbeats 20000000 in
set_option maxRecDepth 100000 in
theorem hermitagelaw9_ChainDeep.calls (k : Nat) (p0 : hermitagelaw9Ask) (A1 : Option Addr) (c_1 : Nat) (A2 : Option Addr) (c_2 : Nat) (A3 : Option Addr) (c_3 : Nat) (A4 : Option Addr) (c_4 : Nat) (r : Bool) (w : World) (hs1 : Sl kDeviceR w.heap okAll A1 p0.P.Devices) (hl1 : p0.P.Devices.length ≤ c_1) (hs2 : Sl kTableR w.heap okAll A2 p0.P.Tables) (hl2 : p0.P.Tables.length ≤ c_2) (hs3 : Sl kEntry w.heap okAll A3 p0.P.Job.Table.List_) (hl3 : p0.P.Job.Table.List_.length ≤ c_3) (hs4 : Sl kPtr w.heap okAll A4 p0.Q) (hl4 : p0.Q.length ≤ c_4) {gT : Nat} (hG : Box w.heap 0 gT (arrI .u8 64 tz)) (H : hermitagelaw9_ChainDeep.f k p0 = some r) :
    Calls Tryd.prog 10 #[.agg #[.slice A1 p0.P.Devices.length c_1, .slice A2 p0.P.Tables.length c_2, .int .i64 p0.P.Job.Dev, .int .i64 p0.P.Job.At, .int .i64 p0.P.Job.Table.Dev, .int .i64 p0.P.Job.Table.Size, .slice A3 p0.P.Job.Table.List_.length c_3, .int .i64 p0.P.Next, .slice A4 p0.Q.length c_4]] w fun e w' => e = .returned (.bool r) ∧ Ext w w' := by
 have h1 : Sl kDeviceR w.heap (okL [(0, some w.heap.size, none)]) A1 p0.P.Devices := hs1.old _ rfl
 have h2 : Sl kTableR w.heap (okL [(0, some w.heap.size, none)]) A2 p0.P.Tables := hs2.old _ rfl
 have h3 : Sl kEntry w.heap (okL [(0, some w.heap.size, none)]) A3 p0.P.Job.Table.List_ := hs3.old _ rfl
 have h4 : Sl kPtr w.heap (okL [(0, some w.heap.size, none)]) A4 p0.Q := hs4.old _ rfl
 have hG0 : 0 < w.heap.size := hG.lt
 have x0 : Ext w w := Upd.refl _ w
 unfold hermitagelaw9_ChainDeep.f at H
 refine calls_start Tryd.func10 rfl 170 rfl [.agg #[.slice A1 p0.P.Devices.length c_1, .slice A2 p0.P.Tables.length c_2, .int .i64 p0.P.Job.Dev, .int .i64 p0.P.Job.At, .int .i64 p0.P.Job.Table.Dev, .int .i64 p0.P.Job.Table.Size, .slice A3 p0.P.Job.Table.List_.length c_3, .int .i64 p0.P.Next, .slice A4 p0.Q.length c_4]] rfl ?_
 refine CW.seq ?_
 refine CW.lex [.X, .W] rfl ?_
 refine RW.box (cs := [.slice A1 p0.P.Devices.length c_1, .slice A2 p0.P.Tables.length c_2, .int .i64 p0.P.Job.Dev, .int .i64 p0.P.Job.At, .int .i64 p0.P.Job.Table.Dev, .int .i64 p0.P.Job.Table.Size, .slice A3 p0.P.Job.Table.List_.length c_3, .int .i64 p0.P.Next, .slice A4 p0.Q.length c_4]) (.inl rfl) ⟨rfl, rfl, rfl, rfl⟩ rfl rfl rfl ?_
 intro b1 w1 x1 l1 h5
 have sx1 := x1.size
 have ltb1 := h5.lt
 refine RW.pure tabOk 1 rfl ?_
 refine RW.done ?_
 refine NW.next ?_
 refine CW.seq ?_
 refine CW.lex [.W, .L, .W, .X, .W, .W] rfl ?_
 refine RW.pure tabOk 1 rfl ?_
 refine RW.load tabOk [.slice A4 p0.Q.length c_4] (h5.at 8) ⟨rfl, rfl, rfl, rfl⟩ rfl rfl rfl rfl ?_
 refine RW.pure tabOk 1 rfl ?_
 obtain ⟨y1, h6, H⟩ := bind_some H
 refine RW.callF (.inl rfl) ent45 ⟨rfl, rfl, rfl, rfl⟩ rfl rfl (hermitagelaw0_Within.calls (p0.Q.length : Int) 12 _ _ h6) ?_
 rintro _ w2 ⟨rfl, x2⟩
 refine ⟨_, rfl, x2, ?_⟩
 have sx2 := x2.size
 refine RW.pure tabOk 2 rfl ?_
 refine RW.done ?_
 refine NW.next ?_
 refine CW.seq ?_
 refine CW.lex [.W, .L, .W, .W, .X, .W] rfl ?_
 refine RW.pure tabOk 1 rfl ?_
 have h7 := h5.ext x2
 refine RW.load tabOk [.slice A4 p0.Q.length c_4] (h7.at 8) ⟨rfl, rfl, rfl, rfl⟩ rfl rfl rfl rfl ?_
 refine RW.pure tabOk 2 rfl ?_
 obtain ⟨y2, h8, H⟩ := bind_some H
 refine RW.callF (.inl rfl) ent45 ⟨rfl, rfl, rfl, rfl⟩ rfl rfl (hermitagelaw0_Within.calls (w64 ((p0.Q.length : Int) * 7)) 9 _ _ h8) ?_
 rintro _ w3 ⟨rfl, x3⟩
 refine ⟨_, rfl, x3, ?_⟩
 have sx3 := x3.size
 refine RW.pure tabOk 1 rfl ?_
 refine RW.done ?_
 refine NW.next ?_
 refine CW.seq ?_
 refine CW.lex [.W, .W, .W, .X, .W, .W, .W, .X, .M] rfl ?_
 refine RW.pure tabOk 3 rfl ?_
 refine RW.buildSlice (cs := [.int .i64 (w64 ((w64 (1 + y1)) + 1)), .int .i64 20, .slice none 0 0, .slice none 0 0]) tabOk (.inl rfl) ⟨rfl, rfl, rfl, rfl⟩ rfl rfl rfl rfl rfl rfl rfl ?_
 intro b2 w4 x4 l2 h9
 have sx4 := x4.size
 have ltb2 := h9.lt
 refine RW.pure tabOk 3 rfl ?_
 refine RW.alloc tabOk (.inl rfl) ⟨rfl, rfl, rfl, rfl⟩ rfl rfl ?_
 intro b3 w5 x5 l3 h10
 have sx5 := x5.size
 have ltb3 := h10.lt
 have h11 := h9.ext x5
 have h12 : Ow kDeviceO 84 w5.heap (okL [(w3.heap.size, some w4.heap.size, some 84)]) (okL []) (some ⟨b2, 0, none⟩) 1 ([(⟨w64 ((w64 (1 + y1)) + 1), 20, ([] : List Seg), ([] : List Seg)⟩ : Device)] : List Device) := Ow.of_box h11 (.inl ⟨l2, ltb2, rfl⟩) (Nat.le_of_ble_eq_true rfl) (Ch.cons (d := kDeviceO) (cs := [.int .i64 (w64 ((w64 (1 + y1)) + 1)), .int .i64 20, .slice none 0 0, .slice none 0 0]) (x := (⟨w64 ((w64 (1 + y1)) + 1), 20, ([] : List Seg), ([] : List Seg)⟩ : Device)) (kDeviceO_mk (⟨w64 ((w64 (1 + y1)) + 1), 20, ([] : List Seg), ([] : List Seg)⟩ : Device) Ow.nil Ow.nil) Ch.nil)
 refine RW.storeBox tabOk h10 [.slice (some ⟨b2, 0, none⟩) ([(⟨w64 ((w64 (1 + y1)) + 1), 20, ([] : List Seg), ([] : List Seg)⟩ : Device)] : List Device).length 1, .slice none 0 0, .int .i64 0, .int .i64 0, .int .i64 0, .int .i64 0, .slice none 0 0, .int .i64 (w64 ((w64 (1 + y1)) + 2))] ⟨rfl, rfl, rfl⟩ rfl rfl rfl rfl rfl rfl rfl rfl ?_
 intro w6 x6 h13
 have h14 : Box w6.heap b3 79 [.slice (some ⟨b2, 0, none⟩) ([(⟨w64 ((w64 (1 + y1)) + 1), 20, ([] : List Seg), ([] : List Seg)⟩ : Device)] : List Device).length 1, .slice none 0 0, .int .i64 0, .int .i64 0, .int .i64 0, .int .i64 0, .slice none 0 0, .int .i64 (w64 ((w64 (1 + y1)) + 2))] := h13
 have sx6 := x6.size
 refine RW.done ?_
 refine NW.next ?_
 refine CW.seq ?_
 refine CW.seq ?_
 refine CW.lex [.W] rfl ?_
 refine RW.pure tabOk 1 rfl ?_
 refine RW.done ?_
 refine NW.next ?_
 refine CW.block ?_
 refine CW.loop (fun n1 a w7 => ∃ (it4_0 : Int) (it6_0 : Int) (lb3_1_0 : List Table) (Ab3_1_0 : Option Addr) (cb3_1_0 : Nat), Sat 170 [(3, .int .i64 (w64 (1 + y1))), (4, .int .i64 it4_0), (5, .pointer (some ⟨b3, 0, none⟩)), (6, .int .i64 it6_0)] a ∧ w6.heap.size ≤ w7.heap.size ∧ Ow kTableO 75 w7.heap (okL [(w6.heap.size, none, some 75)]) (okL [(w6.heap.size, none, some 86)]) Ab3_1_0 cb3_1_0 lb3_1_0 ∧ Ow kDeviceO 84 w7.heap (okL [(w3.heap.size, some w4.heap.size, some 84)]) (okL []) (some ⟨b2, 0, none⟩) 1 ([(⟨w64 ((w64 (1 + y1)) + 1), 20, ([] : List Seg), ([] : List Seg)⟩ : Device)] : List Device) ∧ Ext w w7 ∧ Box w7.heap b3 79 [.slice (some ⟨b2, 0, none⟩) ([(⟨w64 ((w64 (1 + y1)) + 1), 20, ([] : List Seg), ([] : List Seg)⟩ : Device)] : List Device).length 1, .slice Ab3_1_0 lb3_1_0.length cb3_1_0, .int .i64 0, .int .i64 0, .int .i64 0, .int .i64 0, .slice none 0 0, .int .i64 (w64 ((w64 (1 + y1)) + 2))] ∧ Box w7.heap 0 gT (arrI .u8 64 tz) ∧ hermitagelaw9_ChainDeep.l0 k y1 n1 it4_0 it6_0 lb3_1_0 = some r) k ?_ ?_
 have h15 := h12.turnB x6 h10 ⟨.inl (show (84 : Nat) ≠ 79 by decide), trivial⟩ trivial
 have h16 := Ext.turnB (Ext.trans (Ext.trans (Ext.trans (Ext.trans (Ext.trans x0 x1) x2) x3) x4) x5) x6 (by omega)
 have h17 := (((((hG.ext x1).ext x2).ext x3).ext x4).ext x5).turnB x6 (by omega)
 · exact fun a ha => ⟨y2, 1, ([] : List Table), none, 0, ha.sub ⟨rfl, rfl, rfl, rfl, trivial⟩, by omega, Ow.nil, h15, h16, h14, h17, H⟩
 intro n1 a w7 hI hp
 obtain ⟨it4_0, it6_0, lb3_1_0, Ab3_1_0, cb3_1_0, hS, hle, fb3_1_0, gF5_0, x0_0, gb3_0, g0_0, H⟩ := hI
 cases n1 with
 | zero => cases H
 | succ n1 =>
  rw [hermitagelaw9_ChainDeep.l0] at H
  refine CW.go hp hS ?_
  have h18 : Ow kTableO 75 w7.heap (okL [(w6.heap.size, some w7.heap.size, some 75)]) (okL [(w6.heap.size, some w7.heap.size, some 86)]) Ab3_1_0 cb3_1_0 lb3_1_0 := fb3_1_0.close
  refine CW.seq ?_
  refine CW.seq ?_
  refine CW.lex [.W, .W, .W] rfl ?_
  refine RW.pure tabOk 3 rfl ?_
  refine RW.done ?_
  refine NW.next ?_
  by_cases c1 : it6_0 ≤ (w64 (1 + y1))
  ·
   rw [if_pos c1] at H
   refine CW.cond_t rfl (decide_eq_true c1) ?_
   refine CW.skip ?_
   refine NW.next ?_
   refine CW.seq ?_
   refine CW.block ?_
   refine CW.seq ?_
   refine CW.lex [.W, .L, .W, .W, .W, .W, .W, .W, .W, .W, .W, .W, .X, .W, .X, .M, .W, .M] rfl ?_
   refine RW.pure tabOk 1 rfl ?_
   refine RW.load tabOk [.slice Ab3_1_0 lb3_1_0.length cb3_1_0] ((gb3_0.at 1).take 1 rfl) ⟨rfl, rfl, rfl, rfl⟩ rfl rfl rfl rfl ?_
   refine RW.pure tabOk 6 rfl ?_
   refine RW.div (by decide) ⟨rfl, rfl, rfl, rfl⟩ rfl rfl rfl rfl ?_
   refine RW.pure tabOk 1 rfl ?_
   refine RW.div (by decide) ⟨rfl, rfl, rfl, rfl⟩ rfl rfl rfl rfl ?_
   refine RW.pure tabOk 1 rfl ?_
   refine RW.buildSlice (cs := [.int .i64 it4_0, .int .i64 2, .int .i64 (w64 (it6_0 + 1)), .int .i64 ((w64 (it4_0 + (it6_0.tmod 2))).tmod 9), .int .i64 0]) tabOk (.inl rfl) ⟨rfl, rfl, rfl, rfl⟩ rfl rfl rfl rfl rfl rfl rfl ?_
   intro b4 w8 x7 l4 h19
   have sx7 := x7.size
   have ltb4 := h19.lt
   refine RW.pure tabOk 1 rfl ?_
   refine RW.buildSlice (cs := [.int .i64 it6_0, .int .i64 12, .slice (some ⟨b4, 0, none⟩) 1 1]) tabOk (.inl rfl) ⟨rfl, rfl, rfl, rfl⟩ rfl rfl rfl rfl rfl rfl rfl ?_
   intro b5 w9 x8 l5 h20
   have sx8 := x8.size
   have ltb5 := h20.lt
   have h21 := h19.ext x8
   have h22 : Ow kEntry 86 w9.heap (okL [(w7.heap.size, some w8.heap.size, some 86)]) (okL []) (some ⟨b4, 0, none⟩) 1 ([(⟨it4_0, 2, w64 (it6_0 + 1), (w64 (it4_0 + (it6_0.tmod 2))).tmod 9, 0⟩ : Entry)] : List Entry) := Ow.of_box h21 (.inl ⟨l4, ltb4, rfl⟩) (Nat.le_of_ble_eq_true rfl) (Ch.cons (d := kEntry) (cs := [.int .i64 it4_0, .int .i64 2, .int .i64 (w64 (it6_0 + 1)), .int .i64 ((w64 (it4_0 + (it6_0.tmod 2))).tmod 9), .int .i64 0]) (x := (⟨it4_0, 2, w64 (it6_0 + 1), (w64 (it4_0 + (it6_0.tmod 2))).tmod 9, 0⟩ : Entry)) (kEntry_mk (⟨it4_0, 2, w64 (it6_0 + 1), (w64 (it4_0 + (it6_0.tmod 2))).tmod 9, 0⟩ : Entry)) Ch.nil)
   have h23 := (h18.ext x7).ext x8
   obtain ⟨g1, H⟩ := guard_some H
   refine RW.append1L (d := kTableO) (v := (⟨it6_0, 12, ([(⟨it4_0, 2, w64 (it6_0 + 1), (w64 (it4_0 + (it6_0.tmod 2))).tmod 9, 0⟩ : Entry)] : List Entry)⟩ : Table)) (l := [(w6.heap.size, some w7.heap.size, some 75)]) (li := [(w6.heap.size, some w7.heap.size, some 86)]) (ly := [(w7.heap.size, some w8.heap.size, some 86)]) (xs := lb3_1_0) tabOk h23 h20 (kTableO_mk (⟨it6_0, 12, ([(⟨it4_0, 2, w64 (it6_0 + 1), (w64 (it4_0 + (it6_0.tmod 2))).tmod 9, 0⟩ : Entry)] : List Entry)⟩ : Table) (h22.sub (l' := [(w7.heap.size, some w8.heap.size, some 86)]) (li' := [(w7.heap.size, some w8.heap.size, some 86)]) ⟨(.inl ⟨by omega, by omega, rfl⟩), trivial⟩ trivial)) ⟨⟨.inl (show (86 : Nat) ≠ 75 by decide), trivial⟩, trivial⟩ (by simp only [maxLen]; omega) g1 ⟨rfl, rfl, rfl, rfl⟩ rfl rfl rfl rfl rfl rfl rfl ?_
   intro A5 c_5 w10 x9 h24
   have sx9 := x9.size
   have h25 := h24.close.sub (l' := [(w6.heap.size, some w10.heap.size, some 75)]) (li' := [(w6.heap.size, some w8.heap.size, some 86)]) ⟨(.inl ⟨by omega, by omega, rfl⟩), ⟨(.inl ⟨by omega, by omega, rfl⟩), trivial⟩⟩ ⟨(.inl ⟨by omega, by omega, rfl⟩), ⟨(.inl ⟨by omega, by omega, rfl⟩), trivial⟩⟩
   refine RW.pure tabOk 1 rfl ?_
   have h26 := ((gb3_0.ext x7).ext x8).turnL x9 (.inl (by decide))
   refine RW.storeBox tabOk h26 [.slice A5 (lb3_1_0 ++ [(⟨it6_0, 12, ([(⟨it4_0, 2, w64 (it6_0 + 1), (w64 (it4_0 + (it6_0.tmod 2))).tmod 9, 0⟩ : Entry)] : List Entry)⟩ : Table)]).length c_5] ⟨rfl, rfl, rfl⟩ rfl rfl rfl rfl rfl rfl rfl rfl ?_
   intro w11 x10 h27
   have h28 : Box w11.heap b3 79 [.slice (some ⟨b2, 0, none⟩) ([(⟨w64 ((w64 (1 + y1)) + 1), 20, ([] : List Seg), ([] : List Seg)⟩ : Device)] : List Device).length 1, .slice A5 (lb3_1_0 ++ [(⟨it6_0, 12, ([(⟨it4_0, 2, w64 (it6_0 + 1), (w64 (it4_0 + (it6_0.tmod 2))).tmod 9, 0⟩ : Entry)] : List Entry)⟩ : Table)]).length c_5, .int .i64 0, .int .i64 0, .int .i64 0, .int .i64 0, .slice none 0 0, .int .i64 (w64 ((w64 (1 + y1)) + 2))] := h27
   have sx10 := x10.size
   refine RW.done ?_
   refine NW.next ?_
   refine CW.lex [.W, .W, .W, .W, .W, .W] rfl ?_
   refine RW.pure tabOk 2 rfl ?_
   refine RW.div (by decide) ⟨rfl, rfl, rfl, rfl⟩ rfl rfl rfl rfl ?_
   refine RW.pure tabOk 1 rfl ?_
   refine RW.div (by decide) ⟨rfl, rfl, rfl, rfl⟩ rfl rfl rfl rfl ?_
   refine RW.pure tabOk 1 rfl ?_
   refine RW.done ?_
   refine NW.norm_block (NW.next ?_)
   refine CW.lex [.W, .W, .W] rfl ?_
   refine RW.pure tabOk 3 rfl ?_
   refine RW.done ?_
   have h29 := h25.turnB x10 h26 ⟨.inl (show (75 : Nat) ≠ 79 by decide), trivial⟩ ⟨.inl (show (86 : Nat) ≠ 79 by decide), trivial⟩
   have h30 := (((gF5_0.ext x7).ext x8).turnL x9 ⟨⟨.inl (show (84 : Nat) ≠ 75 by decide), trivial⟩, trivial⟩ trivial).turnB x10 h26 ⟨.inl (show (84 : Nat) ≠ 79 by decide), trivial⟩ trivial
   have h31 := Ext.turnB (Ext.turn (Ext.trans (Ext.trans x0_0 x7) x8) x9 ⟨by omega, trivial⟩) x10 (by omega)
   have h32 := (((g0_0.ext x7).ext x8).turnL x9 (.inr ⟨⟨.inr (.inl (by omega)), trivial⟩, trivial⟩)).turnB x10 (by omega)
   exact NW.J fun a ha => ⟨n1, Nat.lt_succ_self n1, ((w64 (it4_0 + (it6_0.tmod 2))).tmod 9), (w64 (it6_0 + 1)), (lb3_1_0 ++ [(⟨it6_0, 12, ([(⟨it4_0, 2, w64 (it6_0 + 1), (w64 (it4_0 + (it6_0.tmod 2))).tmod 9, 0⟩ : Entry)] : List Entry)⟩ : Table)]), A5, c_5, ha.sub ⟨rfl, rfl, rfl, rfl, trivial⟩, by omega, (h29.sub ⟨(.inl ⟨by omega, trivial, rfl⟩), trivial⟩ ⟨(.inl ⟨by omega, trivial, rfl⟩), trivial⟩), h30, h31, h28, h32, H⟩
  ·
   rw [if_neg c1] at H
   refine CW.cond_f rfl (decide_eq_false c1) ?_
   refine CW.exit ?_
   refine NW.exit_then (NW.exit_then (NW.exit_hit ?_))
   refine NW.next ?_
   refine CW.seq ?_
   refine CW.lex [.W, .L, .W, .W, .L, .W, .W, .L, .W] rfl ?_
   refine RW.pure tabOk 1 rfl ?_
   refine RW.load tabOk [.slice Ab3_1_0 lb3_1_0.length cb3_1_0] ((gb3_0.at 1).take 1 rfl) ⟨rfl, rfl, rfl, rfl⟩ rfl rfl rfl rfl ?_
   obtain ⟨g2, H⟩ := guard_some H
   obtain ⟨ad1, A6, c_6, e1, a1, h33⟩ := kTableO_ato h18 g2.1 g2.2
   refine RW.index tabOk g2.1 g2.2 e1 ⟨rfl, rfl, rfl, rfl⟩ rfl rfl rfl rfl rfl rfl ?_
   refine RW.pure tabOk 1 rfl ?_
   refine RW.load tabOk [.slice A6 ((rd lb3_1_0 0).List_).length c_6] (a1.fld 2) ⟨rfl, rfl, rfl, rfl⟩ rfl rfl rfl rfl ?_
   obtain ⟨g3, H⟩ := guard_some H
   obtain ⟨ad2, e2, a2⟩ := kEntry_at h33.slL g3.1 g3.2
   refine RW.index tabOk g3.1 g3.2 e2 ⟨rfl, rfl, rfl, rfl⟩ rfl rfl rfl rfl rfl rfl ?_
   refine RW.pure tabOk 1 rfl ?_
   refine RW.load tabOk [.int .i64 ((rd ((rd lb3_1_0 0).List_) 0).From)] ((a2.fld 0).take 1 rfl) ⟨rfl, rfl, rfl, rfl⟩ rfl rfl rfl rfl ?_
   refine RW.pure tabOk 1 rfl ?_
   refine RW.done ?_
   refine NW.next ?_
   refine CW.seq ?_
   refine CW.lex [.L, .W, .W, .W, .X, .W, .W, .W, .X, .M, .W] rfl ?_
   refine RW.load tabOk [.slice (some ⟨b2, 0, none⟩) ([(⟨w64 ((w64 (1 + y1)) + 1), 20, ([] : List Seg), ([] : List Seg)⟩ : Device)] : List Device).length 1, .slice Ab3_1_0 lb3_1_0.length cb3_1_0, .int .i64 0, .int .i64 0, .int .i64 0, .int .i64 0, .slice none 0 0, .int .i64 (w64 ((w64 (1 + y1)) + 2))] (gb3_0.at 0) ⟨rfl, rfl, rfl, rfl⟩ rfl rfl rfl rfl ?_
   refine RW.pure tabOk 3 rfl ?_
   obtain ⟨y3, h34, H⟩ := bind_some H
   refine RW.callF (.inl rfl) ent46 ⟨rfl, rfl, rfl, rfl⟩ rfl rfl (chain_Now.calls k (⟨([(⟨w64 ((w64 (1 + y1)) + 1), 20, ([] : List Seg), ([] : List Seg)⟩ : Device)] : List Device), lb3_1_0, (⟨0, 0, (⟨0, 0, ([] : List Entry)⟩ : Table)⟩ : Job), w64 ((w64 (1 + y1)) + 2)⟩ : Pool) (some ⟨b2, 0, none⟩) 1 Ab3_1_0 cb3_1_0 none 0 (⟨1, w64 (((rd ((rd lb3_1_0 0).List_) 0).From) + 1)⟩ : Ptr) _ _ (gF5_0.all.to kDevice_ro rfl) gF5_0.len (h18.all.to kTable_ro rfl) h18.len Sl.nil (Nat.le_refl 0) h34) ?_
   rintro _ w12 ⟨rfl, x11⟩
   refine ⟨_, rfl, x11, ?_⟩
   have sx11 := x11.size
   refine RW.pure tabOk 3 rfl ?_
   refine RW.alloc tabOk (.inl rfl) ⟨rfl, rfl, rfl, rfl⟩ rfl rfl ?_
   intro b6 w13 x12 l7 h35
   have sx12 := x12.size
   have ltb6 := h35.lt
   refine RW.storeBox tabOk h35 [.int .i64 y3.1.Dev, .int .i64 y3.1.At] ⟨rfl, rfl, rfl⟩ rfl rfl rfl rfl rfl rfl rfl rfl ?_
   intro w14 x13 h36
   have h37 : Box w14.heap b6 70 [.int .i64 y3.1.Dev, .int .i64 y3.1.At] := h36
   have sx13 := x13.size
   refine RW.pure tabOk 1 rfl ?_
   refine RW.done ?_
   refine NW.next ?_
   refine CW.seq ?_
   refine CW.lex [.L, .W, .W, .W, .X, .W, .W, .W, .W, .W] rfl ?_
   have h38 := ((gb3_0.ext x11).ext x12).turnB x13 (by omega)
   refine RW.load tabOk [.slice (some ⟨b2, 0, none⟩) ([(⟨w64 ((w64 (1 + y1)) + 1), 20, ([] : List Seg), ([] : List Seg)⟩ : Device)] : List Device).length 1, .slice Ab3_1_0 lb3_1_0.length cb3_1_0, .int .i64 0, .int .i64 0, .int .i64 0, .int .i64 0, .slice none 0 0, .int .i64 (w64 ((w64 (1 + y1)) + 2))] (h38.at 0) ⟨rfl, rfl, rfl, rfl⟩ rfl rfl rfl rfl ?_
   refine RW.pure tabOk 3 rfl ?_
   have h39 := ((gF5_0.ext x11).ext x12).turnB x13 h35 ⟨.inl (show (84 : Nat) ≠ 70 by decide), trivial⟩ trivial
   have h40 := ((h18.ext x11).ext x12).turnB x13 h35 ⟨.inl (show (75 : Nat) ≠ 70 by decide), trivial⟩ ⟨.inl (show (86 : Nat) ≠ 70 by decide), trivial⟩
   obtain ⟨y4, h41, H⟩ := bind_some H
   refine RW.callF (.inl rfl) ent47 ⟨rfl, rfl, rfl, rfl⟩ rfl rfl (chain_Way.calls k (⟨([(⟨w64 ((w64 (1 + y1)) + 1), 20, ([] : List Seg), ([] : List Seg)⟩ : Device)] : List Device), lb3_1_0, (⟨0, 0, (⟨0, 0, ([] : List Entry)⟩ : Table)⟩ : Job), w64 ((w64 (1 + y1)) + 2)⟩ : Pool) (some ⟨b2, 0, none⟩) 1 Ab3_1_0 cb3_1_0 none 0 (⟨1, w64 (((rd ((rd lb3_1_0 0).List_) 0).From) + 1)⟩ : Ptr) _ _ (h39.all.to kDevice_ro rfl) h39.len (h40.all.to kTable_ro rfl) h40.len Sl.nil (Nat.le_refl 0) h41) ?_
   rintro _ w15 ⟨A7, c_7, rfl, x14, h42⟩
   refine ⟨_, rfl, x14, ?_⟩
   have sx14 := x14.size
   have h43 : Ow (Kd.int .i64) 3 w15.heap (okL [(w14.heap.size, some w15.heap.size, some 3)]) (okL []) A7 c_7 y4.1 := h42.close
   refine RW.pure tabOk 5 rfl ?_
   refine RW.done ?_
   refine NW.next ?_
   refine CW.seq ?_
   refine CW.seqJ (fun a w16 => ∃ (bt105_1 : Bool), Sat 170 [(3, .int .i64 (w64 (1 + y1))), (4, .int .i64 it4_0), (5, .pointer (some ⟨b3, 0, none⟩)), (7, .int .i64 ((rd ((rd lb3_1_0 0).List_) 0).From)), (105, .bool bt105_1)] a ∧ w15.heap.size ≤ w16.heap.size ∧ Ow kDeviceO 84 w16.heap (okL [(w3.heap.size, some w4.heap.size, some 84)]) (okL []) (some ⟨b2, 0, none⟩) 1 ([(⟨w64 ((w64 (1 + y1)) + 1), 20, ([] : List Seg), ([] : List Seg)⟩ : Device)] : List Device) ∧ Ow kTableO 75 w16.heap (okL [(w6.heap.size, some w7.heap.size, some 75)]) (okL [(w6.heap.size, some w7.heap.size, some 86)]) Ab3_1_0 cb3_1_0 lb3_1_0 ∧ Ext w w16 ∧ Box w16.heap b3 79 [.slice (some ⟨b2, 0, none⟩) ([(⟨w64 ((w64 (1 + y1)) + 1), 20, ([] : List Seg), ([] : List Seg)⟩ : Device)] : List Device).length 1, .slice Ab3_1_0 lb3_1_0.length cb3_1_0, .int .i64 0, .int .i64 0, .int .i64 0, .int .i64 0, .slice none 0 0, .int .i64 (w64 ((w64 (1 + y1)) + 2))] ∧ Box w16.heap 0 gT (arrI .u8 64 tz) ∧ hermitagelaw9_ChainDeep.j0 k y1 it4_0 lb3_1_0 bt105_1 = some r) ?_ ?_
   ·
    refine CW.lex [.W, .X, .W, .W, .W, .X, .W, .W, .W, .W, .W, .W, .W, .W, .W, .L, .W, .W, .W, .W, .W, .W, .W] rfl ?_
    refine RW.pure tabOk 1 rfl ?_
    obtain ⟨y5, h44, H⟩ := bind_some H
    refine RW.callF (.inl rfl) ent48 ⟨rfl, rfl, rfl, rfl⟩ rfl rfl (hermitagelaw9_num.calls y3.2 _ _ h44) ?_
    rintro _ w17 ⟨rfl, x15⟩
    refine ⟨_, rfl, x15, ?_⟩
    have sx15 := x15.size
    refine RW.pure tabOk 2 rfl ?_
    by_cases c2 : y5 = 0
    ·
     rw [if_pos c2] at H
     refine RW.bool 86 (b' := false) (bne_f c2) rfl ?_
     refine RW.pure tabOk 1 rfl ?_
     obtain ⟨y6, h45, H⟩ := bind_some H
     refine RW.callF (.inl rfl) ent48 ⟨rfl, rfl, rfl, rfl⟩ rfl rfl (hermitagelaw9_num.calls y4.2 _ _ h45) ?_
     rintro _ w18 ⟨rfl, x16⟩
     refine ⟨_, rfl, x16, ?_⟩
     have sx16 := x16.size
     refine RW.pure tabOk 3 rfl ?_
     by_cases c3 : y6 = 0
     ·
      rw [if_pos c3] at H
      refine RW.bool 91 (b' := false) (bne_f c3) rfl ?_
      refine RW.pure tabOk 6 rfl ?_
      by_cases c4 : (y4.1.length : Int) = w64 (1 + y1)
      ·
       rw [if_pos c4] at H
       refine RW.bool 97 (b' := false) (bne_f c4) rfl ?_
       have h46 := ((h37.ext x14).ext x15).ext x16
       refine RW.load tabOk [.int .i64 y3.1.Dev, .int .i64 y3.1.At] (h46.at 0) ⟨rfl, rfl, rfl, rfl⟩ rfl rfl rfl rfl ?_
       refine RW.pure tabOk 5 rfl ?_
       refine RW.eqAgg eqgPtr (eqPtr y3.1 (⟨w64 ((w64 (1 + y1)) + 1), w64 (it4_0 + 1)⟩ : Ptr)) ⟨rfl, rfl, rfl, rfl⟩ rfl rfl rfl rfl ?_
       refine RW.pure tabOk 1 rfl ?_
       refine RW.done ?_
       have h47 := ((h39.ext x14).ext x15).ext x16
       have h48 := ((h40.ext x14).ext x15).ext x16
       have h49 := Ext.trans (Ext.trans (Ext.trans (Ext.turnB (Ext.trans (Ext.trans x0_0 x11) x12) x13 (by omega)) x14) x15) x16
       have h50 := ((h38.ext x14).ext x15).ext x16
       have h51 := (((((g0_0.ext x11).ext x12).turnB x13 (by omega)).ext x14).ext x15).ext x16
       exact NW.J fun a ha => ⟨(!(decide (y3.1 = (⟨w64 ((w64 (1 + y1)) + 1), w64 (it4_0 + 1)⟩ : Ptr)))), ha.sub ⟨rfl, rfl, rfl, rfl, rfl, trivial⟩, by omega, h47, h48, h49, h50, h51, H⟩
      ·
       rw [if_neg c4] at H
       refine RW.bool 97 (b' := true) (bne_t c4) rfl ?_
       refine RW.pure tabOk 8 rfl ?_
       refine RW.done ?_
       have h52 := ((h39.ext x14).ext x15).ext x16
       have h53 := ((h40.ext x14).ext x15).ext x16
       have h54 := Ext.trans (Ext.trans (Ext.trans (Ext.turnB (Ext.trans (Ext.trans x0_0 x11) x12) x13 (by omega)) x14) x15) x16
       have h55 := ((h38.ext x14).ext x15).ext x16
       have h56 := (((((g0_0.ext x11).ext x12).turnB x13 (by omega)).ext x14).ext x15).ext x16
       exact NW.J fun a ha => ⟨true, ha.sub ⟨rfl, rfl, rfl, rfl, rfl, trivial⟩, by omega, h52, h53, h54, h55, h56, H⟩
     ·
      rw [if_neg c3] at H
      refine RW.bool 91 (b' := true) (bne_t c3) rfl ?_
      refine RW.pure tabOk 14 rfl ?_
      refine RW.done ?_
      have h57 := ((h39.ext x14).ext x15).ext x16
      have h58 := ((h40.ext x14).ext x15).ext x16
      have h59 := Ext.trans (Ext.trans (Ext.trans (Ext.turnB (Ext.trans (Ext.trans x0_0 x11) x12) x13 (by omega)) x14) x15) x16
      have h60 := ((h38.ext x14).ext x15).ext x16
      have h61 := (((((g0_0.ext x11).ext x12).turnB x13 (by omega)).ext x14).ext x15).ext x16
      exact NW.J fun a ha => ⟨true, ha.sub ⟨rfl, rfl, rfl, rfl, rfl, trivial⟩, by omega, h57, h58, h59, h60, h61, H⟩
    ·
     rw [if_neg c2] at H
     refine RW.bool 86 (b' := true) (bne_t c2) rfl ?_
     refine RW.pure tabOk 19 rfl ?_
     refine RW.done ?_
     have h62 := (h39.ext x14).ext x15
     have h63 := (h40.ext x14).ext x15
     have h64 := Ext.trans (Ext.trans (Ext.turnB (Ext.trans (Ext.trans x0_0 x11) x12) x13 (by omega)) x14) x15
     have h65 := (h38.ext x14).ext x15
     have h66 := ((((g0_0.ext x11).ext x12).turnB x13 (by omega)).ext x14).ext x15
     exact NW.J fun a ha => ⟨true, ha.sub ⟨rfl, rfl, rfl, rfl, rfl, trivial⟩, by omega, h62, h63, h64, h65, h66, H⟩
   intro a w16 hJ hp
   obtain ⟨bt105_1, hS, hle, gF5_1, gL0_b3_1_1, x0_1, gb3_1, g0_1, H⟩ := hJ
   unfold hermitagelaw9_ChainDeep.j0 at H
   refine CW.go hp hS ?_
   by_cases c5 : bt105_1 = true
   ·
    rw [if_pos c5] at H
    refine CW.cond_t rfl (c5) ?_
    refine CW.seq ?_
    refine CW.lex [.W] rfl ?_
    refine RW.pure tabOk 1 rfl ?_
    refine RW.done ?_
    refine NW.next ?_
    refine CW.ret ?_
    refine NW.ret_then ?_
    obtain rfl := Option.some.inj H
    exact NW.ret1 rfl (by rfl) ⟨rfl, x0_1⟩
   ·
    rw [if_neg c5] at H
    refine CW.cond_f rfl (bool_f c5) ?_
    refine CW.skip ?_
    refine NW.next ?_
    refine CW.seq ?_
    refine CW.lex [.L, .W, .W, .W, .X, .X, .W, .W, .W, .X, .M, .W] rfl ?_
    refine RW.load tabOk [.slice (some ⟨b2, 0, none⟩) ([(⟨w64 ((w64 (1 + y1)) + 1), 20, ([] : List Seg), ([] : List Seg)⟩ : Device)] : List Device).length 1, .slice Ab3_1_0 lb3_1_0.length cb3_1_0, .int .i64 0, .int .i64 0, .int .i64 0, .int .i64 0, .slice none 0 0, .int .i64 (w64 ((w64 (1 + y1)) + 2))] (gb3_1.at 0) ⟨rfl, rfl, rfl, rfl⟩ rfl rfl rfl rfl ?_
    refine RW.pure tabOk 3 rfl ?_
    refine RW.buildSlice (cs := [.int .i64 1, .int .i64 (w64 (((rd ((rd lb3_1_0 0).List_) 0).From) + 1))]) tabOk (.inl rfl) ⟨rfl, rfl, rfl, rfl⟩ rfl rfl rfl rfl rfl rfl rfl ?_
    intro b7 w19 x17 l8 h67
    have sx17 := x17.size
    have ltb7 := h67.lt
    have h68 := gF5_1.ext x17
    have h69 := gL0_b3_1_1.ext x17
    have h70 : Ow kPtr 70 w19.heap (okL [(w16.heap.size, some w19.heap.size, some 70)]) (okL []) (some ⟨b7, 0, none⟩) 1 ([(⟨1, w64 (((rd ((rd lb3_1_0 0).List_) 0).From) + 1)⟩ : Ptr)] : List Ptr) := Ow.of_box h67 (.inl ⟨l8, ltb7, rfl⟩) (Nat.le_of_ble_eq_true rfl) (Ch.cons (d := kPtr) (cs := [.int .i64 1, .int .i64 (w64 (((rd ((rd lb3_1_0 0).List_) 0).From) + 1))]) (x := (⟨1, w64 (((rd ((rd lb3_1_0 0).List_) 0).From) + 1)⟩ : Ptr)) (kPtr_mk (⟨1, w64 (((rd ((rd lb3_1_0 0).List_) 0).From) + 1)⟩ : Ptr)) Ch.nil)
    have h71 := g0_1.ext x17
    obtain ⟨y7, h72, H⟩ := bind_some H
    refine RW.callF (.inl rfl) ent49 ⟨rfl, rfl, rfl, rfl⟩ rfl rfl (chain_Lose.calls k (⟨([(⟨w64 ((w64 (1 + y1)) + 1), 20, ([] : List Seg), ([] : List Seg)⟩ : Device)] : List Device), lb3_1_0, (⟨0, 0, (⟨0, 0, ([] : List Entry)⟩ : Table)⟩ : Job), w64 ((w64 (1 + y1)) + 2)⟩ : Pool) (some ⟨b2, 0, none⟩) 1 Ab3_1_0 cb3_1_0 none 0 (some ⟨b7, 0, none⟩) 1 ([(⟨1, w64 (((rd ((rd lb3_1_0 0).List_) 0).From) + 1)⟩ : Ptr)] : List Ptr) _ _ (h68.all.to kDevice_ro rfl) h68.len (h69.all.to kTable_ro rfl) h69.len Sl.nil (Nat.le_refl 0) h70.all h70.len h71 h72) ?_
    rintro _ w20 ⟨A8, c_8, A9, c_9, A10, c_10, rfl, x18, h73, h74, h75⟩
    refine ⟨_, rfl, x18, ?_⟩
    have sx18 := x18.size
    have h76 : Ow kDeviceO 84 w20.heap (okL [(w19.heap.size, some w20.heap.size, some 84)]) (okL [(w19.heap.size, some w20.heap.size, some 93)]) A8 c_8 y7.1.Devices := h73.close
    have h77 : Ow kTableO 75 w20.heap (okL [(w19.heap.size, some w20.heap.size, some 75)]) (okL [(w19.heap.size, some w20.heap.size, some 86)]) A9 c_9 y7.1.Tables := h74.close
    have h78 : Ow kEntry 86 w20.heap (okL [(w19.heap.size, some w20.heap.size, some 86)]) (okL []) A10 c_10 y7.1.Job.Table.List_ := h75.close
    refine RW.pure tabOk 3 rfl ?_
    refine RW.alloc tabOk (.inl rfl) ⟨rfl, rfl, rfl, rfl⟩ rfl rfl ?_
    intro b8 w21 x19 l9 h79
    have sx19 := x19.size
    have ltb8 := h79.lt
    refine RW.storeBox tabOk h79 [.slice A8 y7.1.Devices.length c_8, .slice A9 y7.1.Tables.length c_9, .int .i64 y7.1.Job.Dev, .int .i64 y7.1.Job.At, .int .i64 y7.1.Job.Table.Dev, .int .i64 y7.1.Job.Table.Size, .slice A10 y7.1.Job.Table.List_.length c_10, .int .i64 y7.1.Next] ⟨rfl, rfl, rfl⟩ rfl rfl rfl rfl rfl rfl rfl rfl ?_
    intro w22 x20 h80
    have h81 : Box w22.heap b8 79 [.slice A8 y7.1.Devices.length c_8, .slice A9 y7.1.Tables.length c_9, .int .i64 y7.1.Job.Dev, .int .i64 y7.1.Job.At, .int .i64 y7.1.Job.Table.Dev, .int .i64 y7.1.Job.Table.Size, .slice A10 y7.1.Job.Table.List_.length c_10, .int .i64 y7.1.Next] := h80
    have sx20 := x20.size
    refine RW.pure tabOk 1 rfl ?_
    refine RW.done ?_
    refine NW.next ?_
    refine CW.seq ?_
    refine CW.seqJ (fun a w23 => ∃ (bt143_2 : Bool), Sat 170 [(3, .int .i64 (w64 (1 + y1))), (12, .pointer (some ⟨b8, 0, none⟩)), (143, .bool bt143_2)] a ∧ w22.heap.size ≤ w23.heap.size ∧ Ow kDeviceO 84 w23.heap (okL [(w19.heap.size, some w20.heap.size, some 84)]) (okL [(w19.heap.size, some w20.heap.size, some 93)]) A8 c_8 y7.1.Devices ∧ Ow kTableO 75 w23.heap (okL [(w19.heap.size, some w20.heap.size, some 75)]) (okL [(w19.heap.size, some w20.heap.size, some 86)]) A9 c_9 y7.1.Tables ∧ Ow kEntry 86 w23.heap (okL [(w19.heap.size, some w20.heap.size, some 86)]) (okL []) A10 c_10 y7.1.Job.Table.List_ ∧ Ext w w23 ∧ Box w23.heap b8 79 [.slice A8 y7.1.Devices.length c_8, .slice A9 y7.1.Tables.length c_9, .int .i64 y7.1.Job.Dev, .int .i64 y7.1.Job.At, .int .i64 y7.1.Job.Table.Dev, .int .i64 y7.1.Job.Table.Size, .slice A10 y7.1.Job.Table.List_.length c_10, .int .i64 y7.1.Next] ∧ Box w23.heap 0 gT (arrI .u8 64 tz) ∧ hermitagelaw9_ChainDeep.j1 k y1 y7 bt143_2 = some r) ?_ ?_
    ·
     refine CW.lex [.W, .X, .W, .W, .W, .L, .W, .W, .W, .W, .W, .W, .L, .W, .W, .W, .W, .W, .L, .W, .W, .L, .W, .W, .W, .X, .X, .W, .W] rfl ?_
     refine RW.pure tabOk 1 rfl ?_
     obtain ⟨y8, h82, H⟩ := bind_some H
     refine RW.callF (.inl rfl) ent48 ⟨rfl, rfl, rfl, rfl⟩ rfl rfl (hermitagelaw9_num.calls y7.2 _ _ h82) ?_
     rintro _ w24 ⟨rfl, x21⟩
     refine ⟨_, rfl, x21, ?_⟩
     have sx21 := x21.size
     refine RW.pure tabOk 2 rfl ?_
     by_cases c6 : y8 = 0
     ·
      rw [if_pos c6] at H
      refine RW.bool 118 (b' := false) (bne_f c6) rfl ?_
      refine RW.pure tabOk 1 rfl ?_
      have h83 := h81.ext x21
      refine RW.load tabOk [.slice A9 y7.1.Tables.length c_9] ((h83.at 1).take 1 rfl) ⟨rfl, rfl, rfl, rfl⟩ rfl rfl rfl rfl ?_
      refine RW.pure tabOk 5 rfl ?_
      by_cases c7 : (y7.1.Tables.length : Int) = w64 (1 + y1)
      ·
       rw [if_pos c7] at H
       refine RW.bool 125 (b' := false) (bne_f c7) rfl ?_
       refine RW.pure tabOk 1 rfl ?_
       refine RW.load tabOk [.slice A8 y7.1.Devices.length c_8] ((h83.at 0).take 1 rfl) ⟨rfl, rfl, rfl, rfl⟩ rfl rfl rfl rfl ?_
       refine RW.pure tabOk 4 rfl ?_
       by_cases c8 : (y7.1.Devices.length : Int) = 1
       ·
        rw [if_pos c8] at H
        refine RW.bool 131 (b' := false) (bne_f c8) rfl ?_
        refine RW.pure tabOk 1 rfl ?_
        refine RW.load tabOk [.slice A8 y7.1.Devices.length c_8] ((h83.at 0).take 1 rfl) ⟨rfl, rfl, rfl, rfl⟩ rfl rfl rfl rfl ?_
        obtain ⟨g4, H⟩ := guard_some H
        have h84 := ((h76.ext x19).turnB x20 h79 ⟨.inl (show (84 : Nat) ≠ 79 by decide), trivial⟩ ⟨.inl (show (93 : Nat) ≠ 79 by decide), trivial⟩).ext x21
        obtain ⟨ad3, A11, c_11, A12, c_12, e3, a3, h85, h86⟩ := kDeviceO_ato h84 g4.1 g4.2
        refine RW.index tabOk g4.1 g4.2 e3 ⟨rfl, rfl, rfl, rfl⟩ rfl rfl rfl rfl rfl rfl ?_
        refine RW.pure tabOk 1 rfl ?_
        refine RW.load tabOk [.slice A12 ((rd y7.1.Devices 0).Late).length c_12] (a3.fld 3) ⟨rfl, rfl, rfl, rfl⟩ rfl rfl rfl rfl ?_
        refine RW.pure tabOk 3 rfl ?_
        refine RW.buildSlice (cs := [.int .i64 (w64 (it4_0 + 1)), .int .i64 1]) tabOk (.inl rfl) ⟨rfl, rfl, rfl, rfl⟩ rfl rfl rfl rfl rfl rfl rfl ?_
        intro b9 w25 x22 l12 h87
        have sx22 := x22.size
        have ltb9 := h87.lt
        have h88 := h86.ext x22
        have h89 : Ow kSeg 93 w25.heap (okL [(w24.heap.size, some w25.heap.size, some 93)]) (okL []) (some ⟨b9, 0, none⟩) 1 ([(⟨w64 (it4_0 + 1), 1⟩ : Seg)] : List Seg) := Ow.of_box h87 (.inl ⟨l12, ltb9, rfl⟩) (Nat.le_of_ble_eq_true rfl) (Ch.cons (d := kSeg) (cs := [.int .i64 (w64 (it4_0 + 1)), .int .i64 1]) (x := (⟨w64 (it4_0 + 1), 1⟩ : Seg)) (kSeg_mk (⟨w64 (it4_0 + 1), 1⟩ : Seg)) Ch.nil)
        obtain ⟨y9, h90, H⟩ := bind_some H
        refine RW.callF (.inl rfl) ent15 ⟨rfl, rfl, rfl, rfl⟩ rfl rfl (hermitageref0_EqSegs.calls k A12 c_12 ((rd y7.1.Devices 0).Late) (some ⟨b9, 0, none⟩) 1 ([(⟨w64 (it4_0 + 1), 1⟩ : Seg)] : List Seg) _ _ h88.all h88.len h89.all h89.len h90) ?_
        rintro _ w26 ⟨rfl, x23⟩
        refine ⟨_, rfl, x23, ?_⟩
        have sx23 := x23.size
        refine RW.pure tabOk 2 rfl ?_
        refine RW.done ?_
        have h91 := (h84.ext x22).ext x23
        have h92 := ((((h77.ext x19).turnB x20 h79 ⟨.inl (show (75 : Nat) ≠ 79 by decide), trivial⟩ ⟨.inl (show (86 : Nat) ≠ 79 by decide), trivial⟩).ext x21).ext x22).ext x23
        have h93 := ((((h78.ext x19).turnB x20 h79 ⟨.inl (show (86 : Nat) ≠ 79 by decide), trivial⟩ trivial).ext x21).ext x22).ext x23
        have h94 := Ext.trans (Ext.trans (Ext.trans (Ext.turnB (Ext.trans (Ext.trans (Ext.trans x0_1 x17) x18) x19) x20 (by omega)) x21) x22) x23
        have h95 := (h83.ext x22).ext x23
        have h96 := (((((h71.ext x18).ext x19).turnB x20 (by omega)).ext x21).ext x22).ext x23
        exact NW.J fun a ha => ⟨(!y9), ha.sub ⟨rfl, rfl, rfl, trivial⟩, by omega, h91, h92, h93, h94, h95, h96, H⟩
       ·
        rw [if_neg c8] at H
        refine RW.bool 131 (b' := true) (bne_t c8) rfl ?_
        refine RW.pure tabOk 12 rfl ?_
        refine RW.done ?_
        have h97 := ((h76.ext x19).turnB x20 h79 ⟨.inl (show (84 : Nat) ≠ 79 by decide), trivial⟩ ⟨.inl (show (93 : Nat) ≠ 79 by decide), trivial⟩).ext x21
        have h98 := ((h77.ext x19).turnB x20 h79 ⟨.inl (show (75 : Nat) ≠ 79 by decide), trivial⟩ ⟨.inl (show (86 : Nat) ≠ 79 by decide), trivial⟩).ext x21
        have h99 := ((h78.ext x19).turnB x20 h79 ⟨.inl (show (86 : Nat) ≠ 79 by decide), trivial⟩ trivial).ext x21
        have h100 := Ext.trans (Ext.turnB (Ext.trans (Ext.trans (Ext.trans x0_1 x17) x18) x19) x20 (by omega)) x21
        have h101 := (((h71.ext x18).ext x19).turnB x20 (by omega)).ext x21
        exact NW.J fun a ha => ⟨true, ha.sub ⟨rfl, rfl, rfl, trivial⟩, by omega, h97, h98, h99, h100, h83, h101, H⟩
      ·
       rw [if_neg c7] at H
       refine RW.bool 125 (b' := true) (bne_t c7) rfl ?_
       refine RW.pure tabOk 18 rfl ?_
       refine RW.done ?_
       have h102 := ((h76.ext x19).turnB x20 h79 ⟨.inl (show (84 : Nat) ≠ 79 by decide), trivial⟩ ⟨.inl (show (93 : Nat) ≠ 79 by decide), trivial⟩).ext x21
       have h103 := ((h77.ext x19).turnB x20 h79 ⟨.inl (show (75 : Nat) ≠ 79 by decide), trivial⟩ ⟨.inl (show (86 : Nat) ≠ 79 by decide), trivial⟩).ext x21
       have h104 := ((h78.ext x19).turnB x20 h79 ⟨.inl (show (86 : Nat) ≠ 79 by decide), trivial⟩ trivial).ext x21
       have h105 := Ext.trans (Ext.turnB (Ext.trans (Ext.trans (Ext.trans x0_1 x17) x18) x19) x20 (by omega)) x21
       have h106 := (((h71.ext x18).ext x19).turnB x20 (by omega)).ext x21
       exact NW.J fun a ha => ⟨true, ha.sub ⟨rfl, rfl, rfl, trivial⟩, by omega, h102, h103, h104, h105, h83, h106, H⟩
     ·
      rw [if_neg c6] at H
      refine RW.bool 118 (b' := true) (bne_t c6) rfl ?_
      refine RW.pure tabOk 25 rfl ?_
      refine RW.done ?_
      have h107 := ((h76.ext x19).turnB x20 h79 ⟨.inl (show (84 : Nat) ≠ 79 by decide), trivial⟩ ⟨.inl (show (93 : Nat) ≠ 79 by decide), trivial⟩).ext x21
      have h108 := ((h77.ext x19).turnB x20 h79 ⟨.inl (show (75 : Nat) ≠ 79 by decide), trivial⟩ ⟨.inl (show (86 : Nat) ≠ 79 by decide), trivial⟩).ext x21
      have h109 := ((h78.ext x19).turnB x20 h79 ⟨.inl (show (86 : Nat) ≠ 79 by decide), trivial⟩ trivial).ext x21
      have h110 := Ext.trans (Ext.turnB (Ext.trans (Ext.trans (Ext.trans x0_1 x17) x18) x19) x20 (by omega)) x21
      have h111 := h81.ext x21
      have h112 := (((h71.ext x18).ext x19).turnB x20 (by omega)).ext x21
      exact NW.J fun a ha => ⟨true, ha.sub ⟨rfl, rfl, rfl, trivial⟩, by omega, h107, h108, h109, h110, h111, h112, H⟩
    intro a w23 hJ hp
    obtain ⟨bt143_2, hS, hle, gF11_2, gF12_2, gF13_2, x0_2, gb8_2, g0_2, H⟩ := hJ
    unfold hermitagelaw9_ChainDeep.j1 at H
    refine CW.go hp hS ?_
    by_cases c9 : bt143_2 = true
    ·
     rw [if_pos c9] at H
     refine CW.cond_t rfl (c9) ?_
     refine CW.seq ?_
     refine CW.lex [.W] rfl ?_
     refine RW.pure tabOk 1 rfl ?_
     refine RW.done ?_
     refine NW.next ?_
     refine CW.ret ?_
     refine NW.ret_then ?_
     obtain rfl := Option.some.inj H
     exact NW.ret1 rfl (by rfl) ⟨rfl, x0_2⟩
    ·
     rw [if_neg c9] at H
     refine CW.cond_f rfl (bool_f c9) ?_
     refine CW.skip ?_
     refine NW.next ?_
     refine CW.seq ?_
     refine CW.seq ?_
     refine CW.lex [.W] rfl ?_
     refine RW.pure tabOk 1 rfl ?_
     refine RW.done ?_
     refine NW.next ?_
     refine CW.block ?_
     refine CW.loop (fun n2 a w27 => ∃ (it14_3 : Int), Sat 170 [(3, .int .i64 (w64 (1 + y1))), (12, .pointer (some ⟨b8, 0, none⟩)), (14, .int .i64 it14_3)] a ∧ w23.heap.size ≤ w27.heap.size ∧ Ow kDeviceO 84 w27.heap (okL [(w19.heap.size, some w20.heap.size, some 84)]) (okL [(w19.heap.size, some w20.heap.size, some 93)]) A8 c_8 y7.1.Devices ∧ Ow kTableO 75 w27.heap (okL [(w19.heap.size, some w20.heap.size, some 75)]) (okL [(w19.heap.size, some w20.heap.size, some 86)]) A9 c_9 y7.1.Tables ∧ Ow kEntry 86 w27.heap (okL [(w19.heap.size, some w20.heap.size, some 86)]) (okL []) A10 c_10 y7.1.Job.Table.List_ ∧ Ext w w27 ∧ Box w27.heap b8 79 [.slice A8 y7.1.Devices.length c_8, .slice A9 y7.1.Tables.length c_9, .int .i64 y7.1.Job.Dev, .int .i64 y7.1.Job.At, .int .i64 y7.1.Job.Table.Dev, .int .i64 y7.1.Job.Table.Size, .slice A10 y7.1.Job.Table.List_.length c_10, .int .i64 y7.1.Next] ∧ Box w27.heap 0 gT (arrI .u8 64 tz) ∧ hermitagelaw9_ChainDeep.l1 k y1 y7 n2 it14_3 = some r) k ?_ ?_
     · exact fun a ha => ⟨0, ha.sub ⟨rfl, rfl, rfl, trivial⟩, by omega, gF11_2, gF12_2, gF13_2, x0_2, gb8_2, g0_2, H⟩
     intro n2 a w27 hI hp
     obtain ⟨it14_3, hS, hle, gF11_3, gF12_3, gF13_3, x0_3, gb8_3, g0_3, H⟩ := hI
     cases n2 with
     | zero => cases H
     | succ n2 =>
      rw [hermitagelaw9_ChainDeep.l1] at H
      refine CW.go hp hS ?_
      refine CW.seq ?_
      refine CW.seq ?_
      refine CW.lex [.W, .W, .W] rfl ?_
      refine RW.pure tabOk 3 rfl ?_
      refine RW.done ?_
      refine NW.next ?_
      by_cases c10 : it14_3 < (w64 (1 + y1))
      ·
       rw [if_pos c10] at H
       refine CW.cond_t rfl (decide_eq_true c10) ?_
       refine CW.skip ?_
       refine NW.next ?_
       refine CW.seq ?_
       refine CW.block ?_
       refine CW.seqJ (fun a w28 => ∃ (bt168_4 : Bool), Sat 170 [(3, .int .i64 (w64 (1 + y1))), (12, .pointer (some ⟨b8, 0, none⟩)), (14, .int .i64 it14_3), (168, .bool bt168_4)] a ∧ w27.heap.size ≤ w28.heap.size ∧ Ow kDeviceO 84 w28.heap (okL [(w19.heap.size, some w20.heap.size, some 84)]) (okL [(w19.heap.size, some w20.heap.size, some 93)]) A8 c_8 y7.1.Devices ∧ Ow kTableO 75 w28.heap (okL [(w19.heap.size, some w20.heap.size, some 75)]) (okL [(w19.heap.size, some w20.heap.size, some 86)]) A9 c_9 y7.1.Tables ∧ Ow kEntry 86 w28.heap (okL [(w19.heap.size, some w20.heap.size, some 86)]) (okL []) A10 c_10 y7.1.Job.Table.List_ ∧ Ext w w28 ∧ Box w28.heap b8 79 [.slice A8 y7.1.Devices.length c_8, .slice A9 y7.1.Tables.length c_9, .int .i64 y7.1.Job.Dev, .int .i64 y7.1.Job.At, .int .i64 y7.1.Job.Table.Dev, .int .i64 y7.1.Job.Table.Size, .slice A10 y7.1.Job.Table.List_.length c_10, .int .i64 y7.1.Next] ∧ Box w28.heap 0 gT (arrI .u8 64 tz) ∧ hermitagelaw9_ChainDeep.j2 it14_3 (hermitagelaw9_ChainDeep.l1 k y1 y7 n2) bt168_4 = some r) ?_ ?_
       ·
        refine CW.lex [.W, .L, .W, .W, .W, .L, .W, .W, .W, .W, .L, .W, .W, .W, .L, .W, .W, .L, .W, .W] rfl ?_
        refine RW.pure tabOk 1 rfl ?_
        refine RW.load tabOk [.slice A9 y7.1.Tables.length c_9] ((gb8_3.at 1).take 1 rfl) ⟨rfl, rfl, rfl, rfl⟩ rfl rfl rfl rfl ?_
        refine RW.pure tabOk 1 rfl ?_
        obtain ⟨g5, H⟩ := guard_some H
        obtain ⟨ad4, A13, c_13, e4, a4, h113⟩ := kTableO_ato gF12_3 g5.1 g5.2
        refine RW.index tabOk g5.1 g5.2 e4 ⟨rfl, rfl, rfl, rfl⟩ rfl rfl rfl rfl rfl rfl ?_
        refine RW.pure tabOk 1 rfl ?_
        refine RW.load tabOk [.slice A13 ((rd y7.1.Tables it14_3).List_).length c_13] (a4.fld 2) ⟨rfl, rfl, rfl, rfl⟩ rfl rfl rfl rfl ?_
        refine RW.pure tabOk 3 rfl ?_
        by_cases c11 : (((rd y7.1.Tables it14_3).List_).length : Int) = 1
        ·
         rw [if_pos c11] at H
         refine RW.bool 157 (b' := false) (bne_f c11) rfl ?_
         refine RW.pure tabOk 1 rfl ?_
         refine RW.load tabOk [.slice A9 y7.1.Tables.length c_9] ((gb8_3.at 1).take 1 rfl) ⟨rfl, rfl, rfl, rfl⟩ rfl rfl rfl rfl ?_
         refine RW.pure tabOk 1 rfl ?_
         obtain ⟨g6, H⟩ := guard_some H
         obtain ⟨ad5, A14, c_14, e5, a5, h114⟩ := kTableO_ato gF12_3 g6.1 g6.2
         refine RW.index tabOk g6.1 g6.2 e5 ⟨rfl, rfl, rfl, rfl⟩ rfl rfl rfl rfl rfl rfl ?_
         refine RW.pure tabOk 1 rfl ?_
         refine RW.load tabOk [.slice A14 ((rd y7.1.Tables it14_3).List_).length c_14] (a5.fld 2) ⟨rfl, rfl, rfl, rfl⟩ rfl rfl rfl rfl ?_
         obtain ⟨g7, H⟩ := guard_some H
         obtain ⟨ad6, e6, a6⟩ := kEntry_at h114.slL g7.1 g7.2
         refine RW.index tabOk g7.1 g7.2 e6 ⟨rfl, rfl, rfl, rfl⟩ rfl rfl rfl rfl rfl rfl ?_
         refine RW.pure tabOk 1 rfl ?_
         refine RW.load tabOk [.int .i64 ((rd ((rd y7.1.Tables it14_3).List_) 0).Stale)] (a6.fld 4) ⟨rfl, rfl, rfl, rfl⟩ rfl rfl rfl rfl ?_
         refine RW.pure tabOk 2 rfl ?_
         refine RW.done ?_
         exact NW.J fun a ha => ⟨(((rd ((rd y7.1.Tables it14_3).List_) 0).Stale) != 1), ha.sub ⟨rfl, rfl, rfl, rfl, trivial⟩, by omega, gF11_3, gF12_3, gF13_3, x0_3, gb8_3, g0_3, H⟩
        ·
         rw [if_neg c11] at H
         refine RW.bool 157 (b' := true) (bne_t c11) rfl ?_
         refine RW.pure tabOk 11 rfl ?_
         refine RW.done ?_
         exact NW.J fun a ha => ⟨true, ha.sub ⟨rfl, rfl, rfl, rfl, trivial⟩, by omega, gF11_3, gF12_3, gF13_3, x0_3, gb8_3, g0_3, H⟩
       intro a w28 hJ hp
       obtain ⟨bt168_4, hS, hle, gF11_4, gF12_4, gF13_4, x0_4, gb8_4, g0_4, H⟩ := hJ
       unfold hermitagelaw9_ChainDeep.j2 at H
       refine CW.go hp hS ?_
       by_cases c12 : bt168_4 = true
       ·
        rw [if_pos c12] at H
        refine CW.cond_t rfl (c12) ?_
        refine CW.seq ?_
        refine CW.lex [.W] rfl ?_
        refine RW.pure tabOk 1 rfl ?_
        refine RW.done ?_
        refine NW.next ?_
        refine CW.ret ?_
        refine NW.ret_block (NW.ret_then (NW.ret_then (NW.ret_block (NW.ret_then ?_))))
        obtain rfl := Option.some.inj H
        exact NW.ret1 rfl (by rfl) ⟨rfl, x0_4⟩
       ·
        rw [if_neg c12] at H
        refine CW.cond_f rfl (bool_f c12) ?_
        refine CW.skip ?_
        refine NW.norm_block (NW.next ?_)
        refine CW.lex [.W, .W, .W] rfl ?_
        refine RW.pure tabOk 3 rfl ?_
        refine RW.done ?_
        exact NW.J fun a ha => ⟨n2, Nat.lt_succ_self n2, (w64 (it14_3 + 1)), ha.sub ⟨rfl, rfl, rfl, trivial⟩, by omega, gF11_4, gF12_4, gF13_4, x0_4, gb8_4, g0_4, H⟩
      ·
       rw [if_neg c10] at H
       refine CW.cond_f rfl (decide_eq_false c10) ?_
       refine CW.exit ?_
       refine NW.exit_then (NW.exit_then (NW.exit_hit ?_))
       refine NW.next ?_
       refine CW.seq ?_
       refine CW.lex [.X, .W] rfl ?_
       obtain ⟨y10, h115, H⟩ := bind_some H
       refine RW.callF (.inl rfl) ent50 ⟨rfl, rfl, rfl, rfl⟩ rfl rfl (hermitagelaw9_wakes.calls k _ _ h115) ?_
       rintro _ w29 ⟨rfl, x24⟩
       refine ⟨_, rfl, x24, ?_⟩
       have sx24 := x24.size
       refine RW.pure tabOk 1 rfl ?_
       refine RW.done ?_
       refine NW.next ?_
       refine CW.ret ?_
       obtain rfl := Option.some.inj H
       have h116 := Ext.trans x0_3 x24
       exact NW.ret1 rfl (by rfl) ⟨rfl, h116⟩

end Go.Proofs.YtnaajldlloglkaaDoor.W
