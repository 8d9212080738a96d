/- Walks; printed by a program of the claim. -/
import Derived.Test.YtnaajldlloglkaaDoorRoomW2
set_option linter.unusedVariables false
set_option linter.unusedSimpArgs false
namespace Go.Proofs.YtnaajldlloglkaaDoor.W
open Go.H Go.Proofs
set_option maxHeartbeats 4000000 in
set_option maxRecDepth 100000 in
theorem hermitagelaw7_RoomExact.calls (k : Nat) (p0 : Script) (A1 : Option Addr) (c_1 : Nat) (A2 : Option Addr) (c_2 : Nat) (r : Bool) (w : World) (hs1 : Sl kDeviceR w.heap okAll A1 p0.L) (hl1 : p0.L.length ≤ c_1) (hs2 : Sl kActR w.heap okAll A2 p0.A) (hl2 : p0.A.length ≤ c_2) {gT : Nat} (hG : Box w.heap 0 gT (arrI .u8 64 tz)) (H : hermitagelaw7_RoomExact.f k p0 = some r) :
    Calls Tryd.prog 74 #[.agg #[.slice A1 p0.L.length c_1, .slice A2 p0.A.length c_2]] w fun e w' => e = .returned (.bool r) ∧ Ext w w' := by
 have h1 : Sl kDeviceR w.heap (okL [(0, some w.heap.size, none)]) A1 p0.L := hs1.old _ rfl
 have h2 : Sl kActR w.heap (okL [(0, some w.heap.size, none)]) A2 p0.A := hs2.old _ rfl
 have hG0 : 0 < w.heap.size := hG.lt
 have x0 : Ext w w := Upd.refl _ w
 unfold hermitagelaw7_RoomExact.f at H
 refine calls_start Tryd.func74 rfl 37 rfl [.agg #[.slice A1 p0.L.length c_1, .slice A2 p0.A.length c_2]] rfl ?_
 refine CW.seq ?_
 refine CW.lex [.X, .W] rfl ?_
 refine RW.box (cs := [.slice A1 p0.L.length c_1, .slice A2 p0.A.length c_2]) (.inl rfl) ⟨rfl, rfl, rfl, rfl⟩ rfl rfl rfl ?_
 intro b1 w1 x1 l1 h3
 have sx1 := x1.size
 have ltb1 := h3.lt
 refine RW.pure tabOk 1 rfl ?_
 refine RW.done ?_
 refine NW.next ?_
 refine CW.seq ?_
 refine CW.seq ?_
 refine CW.lex [.L, .X] rfl ?_
 refine RW.load tabOk [.slice A1 p0.L.length c_1, .slice A2 p0.A.length c_2] (h3.at 0) ⟨rfl, rfl, rfl, rfl⟩ rfl rfl rfl rfl ?_
 have h4 := h1.ext x1
 have h5 := h2.ext x1
 obtain ⟨y1, h6, H⟩ := bind_some H
 refine RW.callF (.inl rfl) ent36 ⟨rfl, rfl, rfl, rfl⟩ rfl rfl (hermitagelaw7_Heavy.calls k p0 A1 c_1 A2 c_2 _ _ h4.all hl1 h5.all hl2 h6) ?_
 rintro _ w2 ⟨rfl, x2⟩
 refine ⟨_, rfl, x2, ?_⟩
 have sx2 := x2.size
 refine RW.done ?_
 refine NW.next ?_
 by_cases c1 : y1 = true
 ·
  rw [if_pos c1] at H
  refine CW.cond_t rfl (c1) ?_
  refine CW.seq ?_
  refine CW.lex [.W] rfl ?_
  refine RW.pure tabOk 1 rfl ?_
  refine RW.done ?_
  refine NW.next ?_
  refine CW.ret ?_
  refine NW.ret_then ?_
  obtain rfl := Option.some.inj H
  have h7 := Ext.trans (Ext.trans x0 x1) x2
  exact NW.ret1 rfl (by rfl) ⟨rfl, h7⟩
 ·
  rw [if_neg c1] at H
  refine CW.cond_f rfl (bool_f c1) ?_
  refine CW.skip ?_
  refine NW.next ?_
  refine CW.seq ?_
  refine CW.lex [.W, .L, .X, .W] rfl ?_
  refine RW.pure tabOk 1 rfl ?_
  have h8 := h3.ext x2
  refine RW.load tabOk [.slice A1 p0.L.length c_1] ((h8.at 0).take 1 rfl) ⟨rfl, rfl, rfl, rfl⟩ rfl rfl rfl rfl ?_
  have h9 := h4.ext x2
  obtain ⟨y2, h10, H⟩ := bind_some H
  refine RW.callF (.inl rfl) ent88 ⟨rfl, rfl, rfl, rfl⟩ rfl rfl (hermitageref0_CopyDevices.calls k A1 c_1 p0.L _ _ h9.all hl1 h10) ?_
  rintro _ w3 ⟨A3, c_3, rfl, x3, h11⟩
  refine ⟨_, rfl, x3, ?_⟩
  have sx3 := x3.size
  have h12 : Ow kDeviceO 84 w3.heap (okL [(w2.heap.size, some w3.heap.size, some 84)]) (okL [(w2.heap.size, some w3.heap.size, some 93)]) A3 c_3 y2 := h11.close
  refine RW.pure tabOk 1 rfl ?_
  refine RW.done ?_
  refine NW.next ?_
  refine CW.seq ?_
  refine CW.seq ?_
  refine CW.lex [.W] rfl ?_
  refine RW.pure tabOk 1 rfl ?_
  refine RW.done ?_
  refine NW.next ?_
  refine CW.block ?_
  refine CW.loop (fun n1 a w4 => ∃ (lt3_0 : List Device) (At3_0 : Option Addr) (ct3_0 : Nat) (it4_0 : Int), Sat 37 [(1, .pointer (some ⟨b1, 0, none⟩)), (3, .slice At3_0 lt3_0.length ct3_0), (4, .int .i64 it4_0)] a ∧ w3.heap.size ≤ w4.heap.size ∧ Ow kDeviceO 84 w4.heap (okL [(w2.heap.size, none, some 84)]) (okL [(w2.heap.size, none, some 93)]) At3_0 ct3_0 lt3_0 ∧ Sl kDeviceR w4.heap (okL [(0, some w.heap.size, none)]) A1 p0.L ∧ Sl kActR w4.heap (okL [(0, some w.heap.size, none)]) A2 p0.A ∧ Ext w w4 ∧ Box w4.heap b1 59 [.slice A1 p0.L.length c_1, .slice A2 p0.A.length c_2] ∧ Box w4.heap 0 gT (arrI .u8 64 tz) ∧ hermitagelaw7_RoomExact.l0 p0 k n1 lt3_0 it4_0 = some r) k ?_ ?_
  have h13 := h9.ext x3
  have h14 := (h5.ext x2).ext x3
  have h15 := Ext.trans (Ext.trans (Ext.trans x0 x1) x2) x3
  have h16 := h8.ext x3
  have h17 := ((hG.ext x1).ext x2).ext x3
  · exact fun a ha => ⟨y2, A3, c_3, 0, ha.sub ⟨rfl, rfl, rfl, trivial⟩, by omega, (h12.sub ⟨(.inl ⟨by omega, trivial, rfl⟩), trivial⟩ ⟨(.inl ⟨by omega, trivial, rfl⟩), trivial⟩), h13, h14, h15, h16, h17, H⟩
  intro n1 a w4 hI hp
  obtain ⟨lt3_0, At3_0, ct3_0, it4_0, hS, hle, ft3_0, gF1_0, gF2_0, x0_0, gb1_0, g0_0, H⟩ := hI
  cases n1 with
  | zero => cases H
  | succ n1 =>
   rw [hermitagelaw7_RoomExact.l0] at H
   refine CW.go hp hS ?_
   have h18 : Ow kDeviceO 84 w4.heap (okL [(w2.heap.size, some w4.heap.size, some 84)]) (okL [(w2.heap.size, some w4.heap.size, some 93)]) At3_0 ct3_0 lt3_0 := ft3_0.close
   refine CW.seq ?_
   refine CW.seqJ (fun a w5 => ∃ (bt20_1 : Bool), Sat 37 [(1, .pointer (some ⟨b1, 0, none⟩)), (3, .slice At3_0 lt3_0.length ct3_0), (4, .int .i64 it4_0), (20, .bool bt20_1)] a ∧ w4.heap.size ≤ w5.heap.size ∧ Sl kDeviceR w5.heap (okL [(0, some w.heap.size, none)]) A1 p0.L ∧ Sl kActR w5.heap (okL [(0, some w.heap.size, none)]) A2 p0.A ∧ Ow kDeviceO 84 w5.heap (okL [(w2.heap.size, some w4.heap.size, some 84)]) (okL [(w2.heap.size, some w4.heap.size, some 93)]) At3_0 ct3_0 lt3_0 ∧ Ext w w5 ∧ Box w5.heap b1 59 [.slice A1 p0.L.length c_1, .slice A2 p0.A.length c_2] ∧ Box w5.heap 0 gT (arrI .u8 64 tz) ∧ hermitagelaw7_RoomExact.j0 p0 k lt3_0 it4_0 (hermitagelaw7_RoomExact.l0 p0 k n1) bt20_1 = some r) ?_ ?_
   ·
    refine CW.lex [.W, .W, .L, .W, .W, .W, .W, .W, .W] rfl ?_
    refine RW.pure tabOk 2 rfl ?_
    refine RW.load tabOk [.slice A2 p0.A.length c_2] (gb1_0.at 1) ⟨rfl, rfl, rfl, rfl⟩ rfl rfl rfl rfl ?_
    refine RW.pure tabOk 3 rfl ?_
    by_cases c2 : it4_0 < (p0.A.length : Int)
    ·
     rw [if_pos c2] at H
     refine RW.bool 17 (b' := true) (decide_eq_true c2) rfl ?_
     refine RW.pure tabOk 3 rfl ?_
     refine RW.done ?_
     exact NW.J fun a ha => ⟨(decide (it4_0 < 12)), ha.sub ⟨rfl, rfl, rfl, rfl, trivial⟩, by omega, gF1_0, gF2_0, h18, x0_0, gb1_0, g0_0, H⟩
    ·
     rw [if_neg c2] at H
     refine RW.bool 17 (b' := false) (decide_eq_false c2) rfl ?_
     refine RW.pure tabOk 3 rfl ?_
     refine RW.done ?_
     exact NW.J fun a ha => ⟨false, ha.sub ⟨rfl, rfl, rfl, rfl, trivial⟩, by omega, gF1_0, gF2_0, h18, x0_0, gb1_0, g0_0, H⟩
   intro a w5 hJ hp
   obtain ⟨bt20_1, hS, hle, gF1_1, gF2_1, gL0_t3_1, x0_1, gb1_1, g0_1, H⟩ := hJ
   unfold hermitagelaw7_RoomExact.j0 at H
   refine CW.go hp hS ?_
   by_cases c3 : bt20_1 = true
   ·
    rw [if_pos c3] at H
    refine CW.cond_t rfl (c3) ?_
    refine CW.skip ?_
    refine NW.next ?_
    refine CW.seq ?_
    refine CW.block ?_
    refine CW.seq ?_
    refine CW.lex [.W, .W, .L, .W, .W, .L, .M, .W, .W, .W, .W, .W] rfl ?_
    refine RW.pure tabOk 2 rfl ?_
    refine RW.load tabOk [.slice A2 p0.A.length c_2] (gb1_1.at 1) ⟨rfl, rfl, rfl, rfl⟩ rfl rfl rfl rfl ?_
    refine RW.pure tabOk 1 rfl ?_
    obtain ⟨g1, H⟩ := guard_some H
    obtain ⟨ad1, A4, c_4, e1, a1, l2, h19⟩ := kActR_at gF2_1 g1.1 g1.2
    refine RW.index tabOk g1.1 g1.2 e1 ⟨rfl, rfl, rfl, rfl⟩ rfl rfl rfl rfl rfl rfl ?_
    refine RW.load tabOk [.int .i64 ((rd p0.A it4_0).Do), .int .i64 ((rd p0.A it4_0).N), .int .i64 ((rd p0.A it4_0).Not), .slice A4 ((rd p0.A it4_0).P).length c_4] a1 ⟨rfl, rfl, rfl, rfl⟩ rfl rfl rfl rfl ?_
    refine RW.callFM (R := fun e w6 => ∃ (lt30_0_2 : List Device) (At30_0_2 : Option Addr) (ct30_0_2 : Nat) (bt30_1_2 : Bool), e = .returned (.tuple #[.slice At30_0_2 lt30_0_2.length ct30_0_2, .bool bt30_1_2]) ∧ w5.heap.size ≤ w6.heap.size ∧ Ow kDeviceO 84 w6.heap (okL [(w2.heap.size, some w4.heap.size, some 84), (w5.heap.size, none, some 84)]) (okL [(w2.heap.size, none, some 93)]) At30_0_2 ct30_0_2 lt30_0_2 ∧ Sl kDeviceR w6.heap (okL [(0, some w.heap.size, none)]) A1 p0.L ∧ Sl kActR w6.heap (okL [(0, some w.heap.size, none)]) A2 p0.A ∧ Ext w w6 ∧ Box w6.heap b1 59 [.slice A1 p0.L.length c_1, .slice A2 p0.A.length c_2] ∧ Box w6.heap 0 gT (arrI .u8 64 tz) ∧ hermitagelaw7_RoomExact.j1 it4_0 (hermitagelaw7_RoomExact.l0 p0 k n1) lt30_0_2 bt30_1_2 = some r) ent89 ⟨rfl, rfl, rfl, rfl⟩ rfl rfl rfl ?_ ?_
    ·
     refine calls_start Tryd.func89 rfl 197 rfl [.slice At3_0 lt3_0.length ct3_0, .agg #[.int .i64 ((rd p0.A it4_0).Do), .int .i64 ((rd p0.A it4_0).N), .int .i64 ((rd p0.A it4_0).Not), .slice A4 ((rd p0.A it4_0).P).length c_4]] rfl ?_
     refine CW.seq ?_
     refine CW.lex [.X, .W, .W] rfl ?_
     refine RW.box (cs := [.int .i64 ((rd p0.A it4_0).Do), .int .i64 ((rd p0.A it4_0).N), .int .i64 ((rd p0.A it4_0).Not), .slice A4 ((rd p0.A it4_0).P).length c_4]) (.inl rfl) ⟨rfl, rfl, rfl, rfl⟩ rfl rfl rfl ?_
     intro b2 w7 x4 l3 h20
     have sx4 := x4.size
     have ltb2 := h20.lt
     refine RW.pure tabOk 2 rfl ?_
     refine RW.done ?_
     refine NW.next ?_
     refine CW.seq ?_
     refine CW.ord [0, 1, 0, 4, 15, 31, 63] (ofL [(0, .W), (2, .W), (3, .L), (1, .X), (4, .X), (5, .W), (6, .W)] .nil) mixed (by kernel_rfl) ?_
     intro w8 x5
     have sx5 := x5.size
     refine RW.pure tabOk 2 rfl ?_
     have h21 := h20.ext x5
     refine RW.load tabOk [.slice A4 ((rd p0.A it4_0).P).length c_4] (h21.at 3) ⟨rfl, rfl, rfl, rfl⟩ rfl rfl rfl rfl ?_
     have h22 := (gL0_t3_1.ext x4).ext x5
     obtain ⟨y3, h23, H⟩ := bind_some H
     refine RW.callF (.inl rfl) ent88 ⟨rfl, rfl, rfl, rfl⟩ rfl rfl (hermitageref0_CopyDevices.calls k At3_0 ct3_0 lt3_0 _ _ (h22.all.to kDevice_ro rfl) h22.len h23) ?_
     rintro _ w9 ⟨A5, c_5, rfl, x6, h24⟩
     refine ⟨_, rfl, x6, ?_⟩
     have sx6 := x6.size
     have h25 : Ow kDeviceO 84 w9.heap (okL [(w8.heap.size, some w9.heap.size, some 84)]) (okL [(w8.heap.size, some w9.heap.size, some 93)]) A5 c_5 y3 := h24.close
     have h26 := ((h19.ext x4).ext x5).ext x6
     obtain ⟨y4, h27, H⟩ := bind_some H
     refine RW.callF (.inl rfl) ent106 ⟨rfl, rfl, rfl, rfl⟩ rfl rfl (hermitageref0_CopyPtrs.calls k A4 c_4 ((rd p0.A it4_0).P) _ _ h26.all l2 h27) ?_
     rintro _ w10 ⟨A6, c_6, rfl, x7, h28⟩
     refine ⟨_, rfl, x7, ?_⟩
     have sx7 := x7.size
     have h29 : Ow kPtr 70 w10.heap (okL [(w9.heap.size, some w10.heap.size, some 70)]) (okL []) A6 c_6 y4 := h28.close
     refine RW.pure tabOk 2 rfl ?_
     refine RW.done ?_
     refine NW.next ?_
     refine CW.seq ?_
     refine CW.lex [.W, .X, .W] rfl ?_
     refine RW.pure tabOk 1 rfl ?_
     have h30 := (h22.ext x6).ext x7
     obtain ⟨y5, h31, H⟩ := bind_some H
     refine RW.callF (.inl rfl) ent107 ⟨rfl, rfl, rfl, rfl⟩ rfl rfl (hermitageref7_Devices.calls k At3_0 ct3_0 lt3_0 _ _ (h30.all.to kDevice_ro rfl) h30.len h31) ?_
     rintro _ w11 ⟨rfl, x8⟩
     refine ⟨_, rfl, x8, ?_⟩
     have sx8 := x8.size
     refine RW.pure tabOk 1 rfl ?_
     refine RW.done ?_
     refine NW.next ?_
     refine CW.seq ?_
     refine CW.lex [.W] rfl ?_
     refine RW.pure tabOk 1 rfl ?_
     refine RW.done ?_
     refine NW.next ?_
     refine CW.seq ?_
     refine CW.lex [.W, .W] rfl ?_
     refine RW.pure tabOk 2 rfl ?_
     refine RW.done ?_
     refine NW.next ?_
     refine CW.seq ?_
     refine CW.lex [.W, .W] rfl ?_
     refine RW.pure tabOk 2 rfl ?_
     refine RW.done ?_
     refine NW.next ?_
     refine CW.seq ?_
     refine CW.lex [.W] rfl ?_
     refine RW.pure tabOk 1 rfl ?_
     refine RW.done ?_
     refine NW.next ?_
     refine CW.seqJ (fun a w12 => ∃ (it9_3 : Int) (lt10_3 : List Device) (At10_3 : Option Addr) (ct10_3 : Nat) (lt11_3 : List Device) (At11_3 : Option Addr) (ct11_3 : Nat) (lt12_3 : List Ptr) (At12_3 : Option Addr) (ct12_3 : Nat) (lt13_3 : List Ptr) (At13_3 : Option Addr) (ct13_3 : Nat) (it14_3 : Int) (mid0_3 : Nat) (mid1_3 : Nat), Sat 197 [(0, .slice At3_0 lt3_0.length ct3_0), (3, .pointer (some ⟨b2, 0, none⟩)), (6, .slice A5 y3.length c_5), (7, .slice A6 y4.length c_6), (8, .bool y5), (9, .int .i64 it9_3), (10, .slice At10_3 lt10_3.length ct10_3), (11, .slice At11_3 lt11_3.length ct11_3), (12, .slice At12_3 lt12_3.length ct12_3), (13, .slice At13_3 lt13_3.length ct13_3), (14, .int .i64 it14_3)] a ∧ w11.heap.size ≤ w12.heap.size ∧ Ow kDeviceO 84 w12.heap (okL [(w11.heap.size, some mid1_3, some 84)]) (okL [(w11.heap.size, some mid1_3, some 93)]) At10_3 ct10_3 lt10_3 ∧ Ow kDeviceO 84 w12.heap (okL [(mid1_3, none, some 84)]) (okL [(mid1_3, none, some 93)]) At11_3 ct11_3 lt11_3 ∧ Ow kPtr 70 w12.heap (okL [(w11.heap.size, some mid0_3, some 70)]) (okL []) At12_3 ct12_3 lt12_3 ∧ Ow kPtr 70 w12.heap (okL [(mid0_3, none, some 70)]) (okL []) At13_3 ct13_3 lt13_3 ∧ Ow kDeviceO 84 w12.heap (okL [(w2.heap.size, some w4.heap.size, some 84)]) (okL [(w2.heap.size, some w4.heap.size, some 93)]) At3_0 ct3_0 lt3_0 ∧ Sl kPtr w12.heap (okL [(0, some w.heap.size, none)]) A4 ((rd p0.A it4_0).P) ∧ Ow kDeviceO 84 w12.heap (okL [(w8.heap.size, some w9.heap.size, some 84)]) (okL [(w8.heap.size, some w9.heap.size, some 93)]) A5 c_5 y3 ∧ Ow kPtr 70 w12.heap (okL [(w9.heap.size, some w10.heap.size, some 70)]) (okL []) A6 c_6 y4 ∧ Sl kDeviceR w12.heap (okL [(0, some w.heap.size, none)]) A1 p0.L ∧ Sl kActR w12.heap (okL [(0, some w.heap.size, none)]) A2 p0.A ∧ Ext w w12 ∧ Box w12.heap b2 109 [.int .i64 ((rd p0.A it4_0).Do), .int .i64 ((rd p0.A it4_0).N), .int .i64 ((rd p0.A it4_0).Not), .slice A4 ((rd p0.A it4_0).P).length c_4] ∧ Box w12.heap b1 59 [.slice A1 p0.L.length c_1, .slice A2 p0.A.length c_2] ∧ Box w12.heap 0 gT (arrI .u8 64 tz) ∧ w11.heap.size ≤ mid0_3 ∧ mid0_3 ≤ mid1_3 ∧ mid1_3 ≤ w12.heap.size ∧ hermitagelaw7_RoomExact.j2 p0 k lt3_0 it4_0 y3 y4 y5 (hermitagelaw7_RoomExact.l0 p0 k n1) it9_3 lt10_3 lt11_3 lt12_3 lt13_3 it14_3 = some r) ?_ ?_
     ·
      refine CW.seq ?_
      refine CW.lex [.W, .L, .X] rfl ?_
      refine RW.pure tabOk 1 rfl ?_
      have h32 := ((h21.ext x6).ext x7).ext x8
      refine RW.load tabOk [.int .i64 ((rd p0.A it4_0).Do)] ((h32.at 0).take 1 rfl) ⟨rfl, rfl, rfl, rfl⟩ rfl rfl rfl rfl ?_
      obtain ⟨y6, h33, H⟩ := bind_some H
      refine RW.callF (.inl rfl) ent45 ⟨rfl, rfl, rfl, rfl⟩ rfl rfl (hermitagelaw0_Within.calls ((rd p0.A it4_0).Do) 5 _ _ h33) ?_
      rintro _ w13 ⟨rfl, x9⟩
      refine ⟨_, rfl, x9, ?_⟩
      have sx9 := x9.size
      refine RW.done ?_
      refine NW.next ?_
      refine CW.block ?_
      refine CW.seqJ (fun a w14 => ∃ (bt45_4 : Bool), Sat 197 [(0, .slice At3_0 lt3_0.length ct3_0), (3, .pointer (some ⟨b2, 0, none⟩)), (6, .slice A5 y3.length c_5), (7, .slice A6 y4.length c_6), (8, .bool y5), (9, .int .i64 1), (11, .slice none 0 0), (12, .slice none 0 0), (13, .slice none 0 0), (36, .int .i64 y6), (45, .bool bt45_4)] a ∧ w13.heap.size ≤ w14.heap.size ∧ Ow kDeviceO 84 w14.heap (okL [(w2.heap.size, some w4.heap.size, some 84)]) (okL [(w2.heap.size, some w4.heap.size, some 93)]) At3_0 ct3_0 lt3_0 ∧ Sl kPtr w14.heap (okL [(0, some w.heap.size, none)]) A4 ((rd p0.A it4_0).P) ∧ Ow kDeviceO 84 w14.heap (okL [(w8.heap.size, some w9.heap.size, some 84)]) (okL [(w8.heap.size, some w9.heap.size, some 93)]) A5 c_5 y3 ∧ Ow kPtr 70 w14.heap (okL [(w9.heap.size, some w10.heap.size, some 70)]) (okL []) A6 c_6 y4 ∧ Sl kDeviceR w14.heap (okL [(0, some w.heap.size, none)]) A1 p0.L ∧ Sl kActR w14.heap (okL [(0, some w.heap.size, none)]) A2 p0.A ∧ Ext w w14 ∧ Box w14.heap b2 109 [.int .i64 ((rd p0.A it4_0).Do), .int .i64 ((rd p0.A it4_0).N), .int .i64 ((rd p0.A it4_0).Not), .slice A4 ((rd p0.A it4_0).P).length c_4] ∧ Box w14.heap b1 59 [.slice A1 p0.L.length c_1, .slice A2 p0.A.length c_2] ∧ Box w14.heap 0 gT (arrI .u8 64 tz) ∧ hermitagelaw7_RoomExact.j3 p0 k lt3_0 it4_0 y3 y4 y5 y6 (hermitagelaw7_RoomExact.l0 p0 k n1) bt45_4 = some r) ?_ ?_
      ·
       refine CW.seq ?_
       refine CW.lex [.W, .W] rfl ?_
       refine RW.pure tabOk 2 rfl ?_
       refine RW.done ?_
       refine NW.next ?_
       by_cases c4 : y6 = 0
       ·
        rw [if_pos c4] at H
        refine CW.cond_t rfl (beq_t c4) ?_
        refine CW.skip ?_
        have h34 := (h30.ext x8).ext x9
        have h35 := ((h26.ext x7).ext x8).ext x9
        have h36 := ((h25.ext x7).ext x8).ext x9
        have h37 := (h29.ext x8).ext x9
        have h38 := (((((gF1_1.ext x4).ext x5).ext x6).ext x7).ext x8).ext x9
        have h39 := (((((gF2_1.ext x4).ext x5).ext x6).ext x7).ext x8).ext x9
        have h40 := Ext.trans (Ext.trans (Ext.trans (Ext.trans (Ext.trans (Ext.trans x0_1 x4) x5) x6) x7) x8) x9
        have h41 := h32.ext x9
        have h42 := (((((gb1_1.ext x4).ext x5).ext x6).ext x7).ext x8).ext x9
        have h43 := (((((g0_1.ext x4).ext x5).ext x6).ext x7).ext x8).ext x9
        exact NW.J fun a ha => ⟨(y6 == 0), ha.sub ⟨rfl, rfl, rfl, rfl, rfl, rfl, rfl, rfl, rfl, rfl, rfl, trivial⟩, by omega, h34, h35, h36, h37, h38, h39, h40, h41, h42, h43, H⟩
       ·
        rw [if_neg c4] at H
        refine CW.cond_f rfl (beq_f c4) ?_
        refine CW.lex [.W, .W] rfl ?_
        refine RW.pure tabOk 2 rfl ?_
        refine RW.done ?_
        have h44 := (h30.ext x8).ext x9
        have h45 := ((h26.ext x7).ext x8).ext x9
        have h46 := ((h25.ext x7).ext x8).ext x9
        have h47 := (h29.ext x8).ext x9
        have h48 := (((((gF1_1.ext x4).ext x5).ext x6).ext x7).ext x8).ext x9
        have h49 := (((((gF2_1.ext x4).ext x5).ext x6).ext x7).ext x8).ext x9
        have h50 := Ext.trans (Ext.trans (Ext.trans (Ext.trans (Ext.trans (Ext.trans x0_1 x4) x5) x6) x7) x8) x9
        have h51 := h32.ext x9
        have h52 := (((((gb1_1.ext x4).ext x5).ext x6).ext x7).ext x8).ext x9
        have h53 := (((((g0_1.ext x4).ext x5).ext x6).ext x7).ext x8).ext x9
        exact NW.J fun a ha => ⟨(y6 == 1), ha.sub ⟨rfl, rfl, rfl, rfl, rfl, rfl, rfl, rfl, rfl, rfl, rfl, trivial⟩, by omega, h44, h45, h46, h47, h48, h49, h50, h51, h52, h53, H⟩
      intro a w14 hJ hp
      obtain ⟨bt45_4, hS, hle, gL0_t3_4, gF4_4, gF5_4, gF6_4, gF1_4, gF2_4, x0_4, gb2_4, gb1_4, g0_4, H⟩ := hJ
      unfold hermitagelaw7_RoomExact.j3 at H
      refine CW.go hp hS ?_
      by_cases c5 : bt45_4 = true
      ·
       rw [if_pos c5] at H
       refine CW.cond_t rfl (c5) ?_
       refine CW.seq ?_
       refine CW.lex [.W, .W, .L, .W, .L, .X, .W, .W, .W, .W, .W, .W, .W] rfl ?_
       refine RW.pure tabOk 2 rfl ?_
       refine RW.load tabOk [.int .i64 ((rd p0.A it4_0).N)] ((gb2_4.at 1).take 1 rfl) ⟨rfl, rfl, rfl, rfl⟩ rfl rfl rfl rfl ?_
       refine RW.pure tabOk 1 rfl ?_
       refine RW.load tabOk [.int .i64 ((rd p0.A it4_0).Not)] ((gb2_4.at 2).take 1 rfl) ⟨rfl, rfl, rfl, rfl⟩ rfl rfl rfl rfl ?_
       obtain ⟨y7, h54, H⟩ := bind_some H
       refine RW.callF (.inl rfl) ent40 ⟨rfl, rfl, rfl, rfl⟩ rfl rfl (room_Take.calls k A5 c_5 y3 ((rd p0.A it4_0).N) ((rd p0.A it4_0).Not) _ _ (gF5_4.all.to kDevice_ro rfl) gF5_4.len g0_4 h54) ?_
       rintro _ w15 ⟨A7, c_7, A8, c_8, rfl, x10, h55, h56⟩
       refine ⟨_, rfl, x10, ?_⟩
       have sx10 := x10.size
       have h57 : Ow kPtr 70 w15.heap (okL [(w14.heap.size, some w15.heap.size, some 70)]) (okL []) A7 c_7 y7.1 := h55.close
       have h58 : Ow kDeviceO 84 w15.heap (okL [(w14.heap.size, some w15.heap.size, some 84)]) (okL [(w14.heap.size, some w15.heap.size, some 93)]) A8 c_8 y7.2.1 := h56.close
       refine RW.pure tabOk 7 rfl ?_
       refine RW.done ?_
       refine NW.next ?_
       refine CW.seqJ (fun a w16 => ∃ (bt63_5 : Bool), Sat 197 [(0, .slice At3_0 lt3_0.length ct3_0), (3, .pointer (some ⟨b2, 0, none⟩)), (6, .slice A5 y3.length c_5), (7, .slice A6 y4.length c_6), (8, .bool y5), (9, .int .i64 1), (10, .slice A8 y7.2.1.length c_8), (11, .slice none 0 0), (12, .slice A7 y7.1.length c_7), (13, .slice none 0 0), (14, .int .i64 y7.2.2), (63, .bool bt63_5)] a ∧ w15.heap.size ≤ w16.heap.size ∧ Ow kDeviceO 84 w16.heap (okL [(w2.heap.size, some w4.heap.size, some 84)]) (okL [(w2.heap.size, some w4.heap.size, some 93)]) At3_0 ct3_0 lt3_0 ∧ Sl kPtr w16.heap (okL [(0, some w.heap.size, none)]) A4 ((rd p0.A it4_0).P) ∧ Ow kDeviceO 84 w16.heap (okL [(w8.heap.size, some w9.heap.size, some 84)]) (okL [(w8.heap.size, some w9.heap.size, some 93)]) A5 c_5 y3 ∧ Ow kPtr 70 w16.heap (okL [(w9.heap.size, some w10.heap.size, some 70)]) (okL []) A6 c_6 y4 ∧ Ow kDeviceO 84 w16.heap (okL [(w14.heap.size, some w15.heap.size, some 84)]) (okL [(w14.heap.size, some w15.heap.size, some 93)]) A8 c_8 y7.2.1 ∧ Ow kPtr 70 w16.heap (okL [(w14.heap.size, some w15.heap.size, some 70)]) (okL []) A7 c_7 y7.1 ∧ Sl kDeviceR w16.heap (okL [(0, some w.heap.size, none)]) A1 p0.L ∧ Sl kActR w16.heap (okL [(0, some w.heap.size, none)]) A2 p0.A ∧ Ext w w16 ∧ Box w16.heap b2 109 [.int .i64 ((rd p0.A it4_0).Do), .int .i64 ((rd p0.A it4_0).N), .int .i64 ((rd p0.A it4_0).Not), .slice A4 ((rd p0.A it4_0).P).length c_4] ∧ Box w16.heap b1 59 [.slice A1 p0.L.length c_1, .slice A2 p0.A.length c_2] ∧ Box w16.heap 0 gT (arrI .u8 64 tz) ∧ hermitagelaw7_RoomExact.j4 p0 k lt3_0 it4_0 y3 y4 y5 y7 (hermitagelaw7_RoomExact.l0 p0 k n1) bt63_5 = some r) ?_ ?_
       ·
        refine CW.lex [.W, .W, .W, .L, .X, .W] rfl ?_
        refine RW.pure tabOk 2 rfl ?_
        by_cases c6 : y5 = true
        ·
         rw [if_pos c6] at H
         refine RW.bool 59 (b' := true) (c6) rfl ?_
         refine RW.pure tabOk 1 rfl ?_
         have h59 := gb2_4.ext x10
         refine RW.load tabOk [.int .i64 ((rd p0.A it4_0).N)] ((h59.at 1).take 1 rfl) ⟨rfl, rfl, rfl, rfl⟩ rfl rfl rfl rfl ?_
         obtain ⟨y8, h60, H⟩ := bind_some H
         refine RW.callF (.inl rfl) ent31 ⟨rfl, rfl, rfl, rfl⟩ rfl rfl (hermitageref0_Num.calls ((rd p0.A it4_0).N) 384 _ _ h60) ?_
         rintro _ w17 ⟨rfl, x11⟩
         refine ⟨_, rfl, x11, ?_⟩
         have sx11 := x11.size
         refine RW.pure tabOk 1 rfl ?_
         refine RW.done ?_
         have h61 := (gL0_t3_4.ext x10).ext x11
         have h62 := (gF4_4.ext x10).ext x11
         have h63 := (gF5_4.ext x10).ext x11
         have h64 := (gF6_4.ext x10).ext x11
         have h65 := h58.ext x11
         have h66 := h57.ext x11
         have h67 := (gF1_4.ext x10).ext x11
         have h68 := (gF2_4.ext x10).ext x11
         have h69 := Ext.trans (Ext.trans x0_4 x10) x11
         have h70 := h59.ext x11
         have h71 := (gb1_4.ext x10).ext x11
         have h72 := (g0_4.ext x10).ext x11
         exact NW.J fun a ha => ⟨y8, ha.sub ⟨rfl, rfl, rfl, rfl, rfl, rfl, rfl, rfl, rfl, rfl, rfl, rfl, trivial⟩, by omega, h61, h62, h63, h64, h65, h66, h67, h68, h69, h70, h71, h72, H⟩
        ·
         rw [if_neg c6] at H
         refine RW.bool 59 (b' := false) (bool_f c6) rfl ?_
         refine RW.pure tabOk 4 rfl ?_
         refine RW.done ?_
         have h73 := gL0_t3_4.ext x10
         have h74 := gF4_4.ext x10
         have h75 := gF5_4.ext x10
         have h76 := gF6_4.ext x10
         have h77 := gF1_4.ext x10
         have h78 := gF2_4.ext x10
         have h79 := Ext.trans x0_4 x10
         have h80 := gb2_4.ext x10
         have h81 := gb1_4.ext x10
         have h82 := g0_4.ext x10
         exact NW.J fun a ha => ⟨false, ha.sub ⟨rfl, rfl, rfl, rfl, rfl, rfl, rfl, rfl, rfl, rfl, rfl, rfl, trivial⟩, by omega, h73, h74, h75, h76, h58, h57, h77, h78, h79, h80, h81, h82, H⟩
       intro a w16 hJ hp
       obtain ⟨bt63_5, hS, hle, gL0_t3_5, gF4_5, gF5_5, gF6_5, gF8_5, gF7_5, gF1_5, gF2_5, x0_5, gb2_5, gb1_5, g0_5, H⟩ := hJ
       unfold hermitagelaw7_RoomExact.j4 at H
       refine CW.go hp hS ?_
       by_cases c7 : bt63_5 = true
       ·
        rw [if_pos c7] at H
        refine CW.cond_t rfl (c7) ?_
        refine CW.seq ?_
        refine CW.lex [.W] rfl ?_
        refine RW.pure tabOk 1 rfl ?_
        refine RW.done ?_
        refine NW.next ?_
        refine CW.seq ?_
        refine CW.lex [.W, .W, .L, .W, .L, .X, .W, .W, .W, .W, .W, .W, .W] rfl ?_
        refine RW.pure tabOk 2 rfl ?_
        refine RW.load tabOk [.int .i64 ((rd p0.A it4_0).N)] ((gb2_5.at 1).take 1 rfl) ⟨rfl, rfl, rfl, rfl⟩ rfl rfl rfl rfl ?_
        refine RW.pure tabOk 1 rfl ?_
        refine RW.load tabOk [.int .i64 ((rd p0.A it4_0).Not)] ((gb2_5.at 2).take 1 rfl) ⟨rfl, rfl, rfl, rfl⟩ rfl rfl rfl rfl ?_
        obtain ⟨y9, h83, H⟩ := bind_some H
        refine RW.callF (.inl rfl) ent108 ⟨rfl, rfl, rfl, rfl⟩ rfl rfl (hermitageref7_Take.calls k At3_0 ct3_0 lt3_0 ((rd p0.A it4_0).N) ((rd p0.A it4_0).Not) _ _ (gL0_t3_5.all.to kDevice_ro rfl) gL0_t3_5.len h83) ?_
        rintro _ w18 ⟨A9, c_9, A10, c_10, rfl, x12, h84, h85⟩
        refine ⟨_, rfl, x12, ?_⟩
        have sx12 := x12.size
        have h86 : Ow kPtr 70 w18.heap (okL [(w16.heap.size, some w18.heap.size, some 70)]) (okL []) A9 c_9 y9.1 := h84.close
        have h87 : Ow kDeviceO 84 w18.heap (okL [(w16.heap.size, some w18.heap.size, some 84)]) (okL [(w16.heap.size, some w18.heap.size, some 93)]) A10 c_10 y9.2.1 := h85.close
        refine RW.pure tabOk 7 rfl ?_
        refine RW.done ?_
        refine NW.next ?_
        refine CW.seq ?_
        refine CW.lex [.W] rfl ?_
        refine RW.pure tabOk 1 rfl ?_
        refine RW.done ?_
        refine NW.next ?_
        by_cases c8 : y9.2.2 = true
        ·
         rw [if_pos c8] at H
         refine CW.cond_t rfl (c8) ?_
         refine CW.lex [.W, .W, .W, .W, .W] rfl ?_
         refine RW.pure tabOk 5 rfl ?_
         refine RW.done ?_
         refine NW.norm_block ?_
         have h88 := gF8_5.ext x12
         have h89 := gF7_5.ext x12
         have h90 := gL0_t3_5.ext x12
         have h91 := gF4_5.ext x12
         have h92 := gF5_5.ext x12
         have h93 := gF6_5.ext x12
         have h94 := gF1_5.ext x12
         have h95 := gF2_5.ext x12
         have h96 := Ext.trans x0_5 x12
         have h97 := gb2_5.ext x12
         have h98 := gb1_5.ext x12
         have h99 := g0_5.ext x12
         exact NW.J fun a ha => ⟨0, y7.2.1, A8, c_8, y9.2.1, A10, c_10, y7.1, A7, c_7, y9.1, A9, c_9, y7.2.2, w15.heap.size, w15.heap.size, ha.sub ⟨rfl, rfl, rfl, rfl, rfl, rfl, rfl, rfl, rfl, rfl, rfl, trivial⟩, by omega, (h88.sub ⟨(.inl ⟨by omega, by omega, rfl⟩), trivial⟩ ⟨(.inl ⟨by omega, by omega, rfl⟩), trivial⟩), (h87.sub ⟨(.inl ⟨by omega, trivial, rfl⟩), trivial⟩ ⟨(.inl ⟨by omega, trivial, rfl⟩), trivial⟩), (h89.sub ⟨(.inl ⟨by omega, by omega, rfl⟩), trivial⟩ trivial), (h86.sub ⟨(.inl ⟨by omega, trivial, rfl⟩), trivial⟩ trivial), h90, h91, h92, h93, h94, h95, h96, h97, h98, h99, by omega, by omega, by omega, H⟩
        ·
         rw [if_neg c8] at H
         refine CW.cond_f rfl (bool_f c8) ?_
         refine CW.skip ?_
         refine NW.norm_block ?_
         have h100 := gF8_5.ext x12
         have h101 := gF7_5.ext x12
         have h102 := gL0_t3_5.ext x12
         have h103 := gF4_5.ext x12
         have h104 := gF5_5.ext x12
         have h105 := gF6_5.ext x12
         have h106 := gF1_5.ext x12
         have h107 := gF2_5.ext x12
         have h108 := Ext.trans x0_5 x12
         have h109 := gb2_5.ext x12
         have h110 := gb1_5.ext x12
         have h111 := g0_5.ext x12
         exact NW.J fun a ha => ⟨5, y7.2.1, A8, c_8, ([] : List Device), none, 0, y7.1, A7, c_7, ([] : List Ptr), none, 0, y7.2.2, w15.heap.size, w15.heap.size, ha.sub ⟨rfl, rfl, rfl, rfl, rfl, rfl, rfl, rfl, rfl, rfl, rfl, trivial⟩, by omega, (h100.sub ⟨(.inl ⟨by omega, by omega, rfl⟩), trivial⟩ ⟨(.inl ⟨by omega, by omega, rfl⟩), trivial⟩), Ow.nil, (h101.sub ⟨(.inl ⟨by omega, by omega, rfl⟩), trivial⟩ trivial), Ow.nil, h102, h103, h104, h105, h106, h107, h108, h109, h110, h111, by omega, by omega, by omega, H⟩
       ·
        rw [if_neg c7] at H
        refine CW.cond_f rfl (bool_f c7) ?_
        refine CW.skip ?_
        refine NW.norm_block ?_
        exact NW.J fun a ha => ⟨1, y7.2.1, A8, c_8, ([] : List Device), none, 0, y7.1, A7, c_7, ([] : List Ptr), none, 0, y7.2.2, w15.heap.size, w15.heap.size, ha.sub ⟨rfl, rfl, rfl, rfl, rfl, rfl, rfl, rfl, rfl, rfl, rfl, trivial⟩, by omega, (gF8_5.sub ⟨(.inl ⟨by omega, by omega, rfl⟩), trivial⟩ ⟨(.inl ⟨by omega, by omega, rfl⟩), trivial⟩), Ow.nil, (gF7_5.sub ⟨(.inl ⟨by omega, by omega, rfl⟩), trivial⟩ trivial), Ow.nil, gL0_t3_5, gF4_5, gF5_5, gF6_5, gF1_5, gF2_5, x0_5, gb2_5, gb1_5, g0_5, by omega, by omega, by omega, H⟩
      ·
       rw [if_neg c5] at H
       refine CW.cond_f rfl (bool_f c5) ?_
       refine CW.seqJ (fun a w19 => ∃ (bt77_6 : Bool), Sat 197 [(0, .slice At3_0 lt3_0.length ct3_0), (3, .pointer (some ⟨b2, 0, none⟩)), (6, .slice A5 y3.length c_5), (7, .slice A6 y4.length c_6), (8, .bool y5), (9, .int .i64 1), (11, .slice none 0 0), (12, .slice none 0 0), (13, .slice none 0 0), (77, .bool bt77_6)] a ∧ w14.heap.size ≤ w19.heap.size ∧ Ow kDeviceO 84 w19.heap (okL [(w2.heap.size, some w4.heap.size, some 84)]) (okL [(w2.heap.size, some w4.heap.size, some 93)]) At3_0 ct3_0 lt3_0 ∧ Sl kPtr w19.heap (okL [(0, some w.heap.size, none)]) A4 ((rd p0.A it4_0).P) ∧ Ow kDeviceO 84 w19.heap (okL [(w8.heap.size, some w9.heap.size, some 84)]) (okL [(w8.heap.size, some w9.heap.size, some 93)]) A5 c_5 y3 ∧ Ow kPtr 70 w19.heap (okL [(w9.heap.size, some w10.heap.size, some 70)]) (okL []) A6 c_6 y4 ∧ Sl kDeviceR w19.heap (okL [(0, some w.heap.size, none)]) A1 p0.L ∧ Sl kActR w19.heap (okL [(0, some w.heap.size, none)]) A2 p0.A ∧ Ext w w19 ∧ Box w19.heap b2 109 [.int .i64 ((rd p0.A it4_0).Do), .int .i64 ((rd p0.A it4_0).N), .int .i64 ((rd p0.A it4_0).Not), .slice A4 ((rd p0.A it4_0).P).length c_4] ∧ Box w19.heap b1 59 [.slice A1 p0.L.length c_1, .slice A2 p0.A.length c_2] ∧ Box w19.heap 0 gT (arrI .u8 64 tz) ∧ hermitagelaw7_RoomExact.j5 p0 k lt3_0 it4_0 y3 y4 y5 (hermitagelaw7_RoomExact.l0 p0 k n1) bt77_6 = some r) ?_ ?_
       ·
        refine CW.seq ?_
        refine CW.lex [.W, .W] rfl ?_
        refine RW.pure tabOk 2 rfl ?_
        refine RW.done ?_
        refine NW.next ?_
        by_cases c9 : y6 = 2
        ·
         rw [if_pos c9] at H
         refine CW.cond_t rfl (beq_t c9) ?_
         refine CW.skip ?_
         exact NW.J fun a ha => ⟨(y6 == 2), ha.sub ⟨rfl, rfl, rfl, rfl, rfl, rfl, rfl, rfl, rfl, rfl, trivial⟩, by omega, gL0_t3_4, gF4_4, gF5_4, gF6_4, gF1_4, gF2_4, x0_4, gb2_4, gb1_4, g0_4, H⟩
        ·
         rw [if_neg c9] at H
         refine CW.cond_f rfl (beq_f c9) ?_
         refine CW.lex [.W, .W] rfl ?_
         refine RW.pure tabOk 2 rfl ?_
         refine RW.done ?_
         exact NW.J fun a ha => ⟨(y6 == 3), ha.sub ⟨rfl, rfl, rfl, rfl, rfl, rfl, rfl, rfl, rfl, rfl, trivial⟩, by omega, gL0_t3_4, gF4_4, gF5_4, gF6_4, gF1_4, gF2_4, x0_4, gb2_4, gb1_4, g0_4, H⟩
       intro a w19 hJ hp
       obtain ⟨bt77_6, hS, hle, gL0_t3_6, gF4_6, gF5_6, gF6_6, gF1_6, gF2_6, x0_6, gb2_6, gb1_6, g0_6, H⟩ := hJ
       unfold hermitagelaw7_RoomExact.j5 at H
       refine CW.go hp hS ?_
       by_cases c10 : bt77_6 = true
       ·
        rw [if_pos c10] at H
        refine CW.cond_t rfl (c10) ?_
        refine CW.seq ?_
        refine CW.lex [.W, .W, .X, .W, .W, .W, .W, .W] rfl ?_
        refine RW.pure tabOk 2 rfl ?_
        obtain ⟨y10, h112, H⟩ := bind_some H
        refine RW.callF (.inl rfl) ent41 ⟨rfl, rfl, rfl, rfl⟩ rfl rfl (room_Give.calls k A5 c_5 y3 A6 c_6 y4 _ _ (gF5_6.all.to kDevice_ro rfl) gF5_6.len gF6_6.all gF6_6.len g0_6 h112) ?_
        rintro _ w20 ⟨A11, c_11, rfl, x13, h113⟩
        refine ⟨_, rfl, x13, ?_⟩
        have sx13 := x13.size
        have h114 : Ow kDeviceO 84 w20.heap (okL [(w19.heap.size, some w20.heap.size, some 84)]) (okL [(w19.heap.size, some w20.heap.size, some 93)]) A11 c_11 y10.1 := h113.close
        refine RW.pure tabOk 5 rfl ?_
        refine RW.done ?_
        refine NW.next ?_
        refine CW.seq ?_
        refine CW.lex [.W] rfl ?_
        refine RW.pure tabOk 1 rfl ?_
        refine RW.done ?_
        refine NW.next ?_
        by_cases c11 : y5 = true
        ·
         rw [if_pos c11] at H
         refine CW.cond_t rfl (c11) ?_
         refine CW.lex [.W, .W, .L, .X, .W, .W, .W, .W, .W] rfl ?_
         refine RW.pure tabOk 2 rfl ?_
         have h115 := gb2_6.ext x13
         refine RW.load tabOk [.slice A4 ((rd p0.A it4_0).P).length c_4] (h115.at 3) ⟨rfl, rfl, rfl, rfl⟩ rfl rfl rfl rfl ?_
         have h116 := gL0_t3_6.ext x13
         have h117 := gF4_6.ext x13
         obtain ⟨y11, h118, H⟩ := bind_some H
         refine RW.callF (.inl rfl) ent109 ⟨rfl, rfl, rfl, rfl⟩ rfl rfl (hermitageref7_Give.calls k At3_0 ct3_0 lt3_0 A4 c_4 ((rd p0.A it4_0).P) _ _ (h116.all.to kDevice_ro rfl) h116.len h117.all l2 h118) ?_
         rintro _ w21 ⟨A12, c_12, rfl, x14, h119⟩
         refine ⟨_, rfl, x14, ?_⟩
         have sx14 := x14.size
         have h120 : Ow kDeviceO 84 w21.heap (okL [(w20.heap.size, some w21.heap.size, some 84)]) (okL [(w20.heap.size, some w21.heap.size, some 93)]) A12 c_12 y11.1 := h119.close
         refine RW.pure tabOk 5 rfl ?_
         refine RW.done ?_
         refine NW.norm_block ?_
         have h121 := h114.ext x14
         have h122 := h116.ext x14
         have h123 := h117.ext x14
         have h124 := (gF5_6.ext x13).ext x14
         have h125 := (gF6_6.ext x13).ext x14
         have h126 := (gF1_6.ext x13).ext x14
         have h127 := (gF2_6.ext x13).ext x14
         have h128 := Ext.trans (Ext.trans x0_6 x13) x14
         have h129 := h115.ext x14
         have h130 := (gb1_6.ext x13).ext x14
         have h131 := (g0_6.ext x13).ext x14
         exact NW.J fun a ha => ⟨y11.2, y10.1, A11, c_11, y11.1, A12, c_12, ([] : List Ptr), none, 0, ([] : List Ptr), none, 0, y10.2, w11.heap.size, w20.heap.size, ha.sub ⟨rfl, rfl, rfl, rfl, rfl, rfl, rfl, rfl, rfl, rfl, rfl, trivial⟩, by omega, (h121.sub ⟨(.inl ⟨by omega, by omega, rfl⟩), trivial⟩ ⟨(.inl ⟨by omega, by omega, rfl⟩), trivial⟩), (h120.sub ⟨(.inl ⟨by omega, trivial, rfl⟩), trivial⟩ ⟨(.inl ⟨by omega, trivial, rfl⟩), trivial⟩), Ow.nil, Ow.nil, h122, h123, h124, h125, h126, h127, h128, h129, h130, h131, by omega, by omega, by omega, H⟩
        ·
         rw [if_neg c11] at H
         refine CW.cond_f rfl (bool_f c11) ?_
         refine CW.skip ?_
         refine NW.norm_block ?_
         have h132 := gL0_t3_6.ext x13
         have h133 := gF4_6.ext x13
         have h134 := gF5_6.ext x13
         have h135 := gF6_6.ext x13
         have h136 := gF1_6.ext x13
         have h137 := gF2_6.ext x13
         have h138 := Ext.trans x0_6 x13
         have h139 := gb2_6.ext x13
         have h140 := gb1_6.ext x13
         have h141 := g0_6.ext x13
         exact NW.J fun a ha => ⟨1, y10.1, A11, c_11, ([] : List Device), none, 0, ([] : List Ptr), none, 0, ([] : List Ptr), none, 0, y10.2, w11.heap.size, w20.heap.size, ha.sub ⟨rfl, rfl, rfl, rfl, rfl, rfl, rfl, rfl, rfl, rfl, rfl, trivial⟩, by omega, (h114.sub ⟨(.inl ⟨by omega, by omega, rfl⟩), trivial⟩ ⟨(.inl ⟨by omega, by omega, rfl⟩), trivial⟩), Ow.nil, Ow.nil, Ow.nil, h132, h133, h134, h135, h136, h137, h138, h139, h140, h141, by omega, by omega, by omega, H⟩
       ·
        rw [if_neg c10] at H
        refine CW.cond_f rfl (bool_f c10) ?_
        refine CW.seq ?_
        refine CW.lex [.W, .X, .W, .W, .W, .W, .W] rfl ?_
        refine RW.pure tabOk 1 rfl ?_
        obtain ⟨y12, h142, H⟩ := bind_some H
        refine RW.callF (.inl rfl) ent37 ⟨rfl, rfl, rfl, rfl⟩ rfl rfl (room_Commit.calls k A5 c_5 y3 _ _ (gF5_6.all.to kDevice_ro rfl) gF5_6.len g0_6 h142) ?_
        rintro _ w22 ⟨A13, c_13, rfl, x15, h143⟩
        refine ⟨_, rfl, x15, ?_⟩
        have sx15 := x15.size
        have h144 : Ow kDeviceO 84 w22.heap (okL [(w19.heap.size, some w22.heap.size, some 84)]) (okL [(w19.heap.size, some w22.heap.size, some 93)]) A13 c_13 y12.1 := h143.close
        refine RW.pure tabOk 5 rfl ?_
        refine RW.done ?_
        refine NW.next ?_
        refine CW.seq ?_
        refine CW.lex [.W] rfl ?_
        refine RW.pure tabOk 1 rfl ?_
        refine RW.done ?_
        refine NW.next ?_
        by_cases c12 : y5 = true
        ·
         rw [if_pos c12] at H
         refine CW.cond_t rfl (c12) ?_
         refine CW.lex [.W, .X, .W, .W] rfl ?_
         refine RW.pure tabOk 1 rfl ?_
         have h145 := gL0_t3_6.ext x15
         obtain ⟨y13, h146, H⟩ := bind_some H
         refine RW.callF (.inl rfl) ent110 ⟨rfl, rfl, rfl, rfl⟩ rfl rfl (hermitageref7_Commit.calls k At3_0 ct3_0 lt3_0 _ _ (h145.all.to kDevice_ro rfl) h145.len h146) ?_
         rintro _ w23 ⟨A14, c_14, rfl, x16, h147⟩
         refine ⟨_, rfl, x16, ?_⟩
         have sx16 := x16.size
         have h148 : Ow kDeviceO 84 w23.heap (okL [(w22.heap.size, some w23.heap.size, some 84)]) (okL [(w22.heap.size, some w23.heap.size, some 93)]) A14 c_14 y13 := h147.close
         refine RW.pure tabOk 2 rfl ?_
         refine RW.done ?_
         refine NW.norm_block ?_
         have h149 := h144.ext x16
         have h150 := h145.ext x16
         have h151 := (gF4_6.ext x15).ext x16
         have h152 := (gF5_6.ext x15).ext x16
         have h153 := (gF6_6.ext x15).ext x16
         have h154 := (gF1_6.ext x15).ext x16
         have h155 := (gF2_6.ext x15).ext x16
         have h156 := Ext.trans (Ext.trans x0_6 x15) x16
         have h157 := (gb2_6.ext x15).ext x16
         have h158 := (gb1_6.ext x15).ext x16
         have h159 := (g0_6.ext x15).ext x16
         exact NW.J fun a ha => ⟨0, y12.1, A13, c_13, y13, A14, c_14, ([] : List Ptr), none, 0, ([] : List Ptr), none, 0, y12.2, w11.heap.size, w22.heap.size, ha.sub ⟨rfl, rfl, rfl, rfl, rfl, rfl, rfl, rfl, rfl, rfl, rfl, trivial⟩, by omega, (h149.sub ⟨(.inl ⟨by omega, by omega, rfl⟩), trivial⟩ ⟨(.inl ⟨by omega, by omega, rfl⟩), trivial⟩), (h148.sub ⟨(.inl ⟨by omega, trivial, rfl⟩), trivial⟩ ⟨(.inl ⟨by omega, trivial, rfl⟩), trivial⟩), Ow.nil, Ow.nil, h150, h151, h152, h153, h154, h155, h156, h157, h158, h159, by omega, by omega, by omega, H⟩
        ·
         rw [if_neg c12] at H
         refine CW.cond_f rfl (bool_f c12) ?_
         refine CW.skip ?_
         refine NW.norm_block ?_
         have h160 := gL0_t3_6.ext x15
         have h161 := gF4_6.ext x15
         have h162 := gF5_6.ext x15
         have h163 := gF6_6.ext x15
         have h164 := gF1_6.ext x15
         have h165 := gF2_6.ext x15
         have h166 := Ext.trans x0_6 x15
         have h167 := gb2_6.ext x15
         have h168 := gb1_6.ext x15
         have h169 := g0_6.ext x15
         exact NW.J fun a ha => ⟨1, y12.1, A13, c_13, ([] : List Device), none, 0, ([] : List Ptr), none, 0, ([] : List Ptr), none, 0, y12.2, w11.heap.size, w22.heap.size, ha.sub ⟨rfl, rfl, rfl, rfl, rfl, rfl, rfl, rfl, rfl, rfl, rfl, trivial⟩, by omega, (h144.sub ⟨(.inl ⟨by omega, by omega, rfl⟩), trivial⟩ ⟨(.inl ⟨by omega, by omega, rfl⟩), trivial⟩), Ow.nil, Ow.nil, Ow.nil, h160, h161, h162, h163, h164, h165, h166, h167, h168, h169, by omega, by omega, by omega, H⟩
     intro a w12 hJ hp
     obtain ⟨it9_3, lt10_3, At10_3, ct10_3, lt11_3, At11_3, ct11_3, lt12_3, At12_3, ct12_3, lt13_3, At13_3, ct13_3, it14_3, mid0_3, mid1_3, hS, hle, ft10_3, ft11_3, ft12_3, ft13_3, gL0_t3_3, gF4_3, gF5_3, gF6_3, gF1_3, gF2_3, x0_3, gb2_3, gb1_3, g0_3, lomid0_3, lomid1_3, lom, H⟩ := hJ
     unfold hermitagelaw7_RoomExact.j2 at H
     refine CW.go hp hS ?_
     have h170 : Ow kDeviceO 84 w12.heap (okL [(mid1_3, some w12.heap.size, some 84)]) (okL [(mid1_3, some w12.heap.size, some 93)]) At11_3 ct11_3 lt11_3 := ft11_3.close
     have h171 : Ow kPtr 70 w12.heap (okL [(mid0_3, some w12.heap.size, some 70)]) (okL []) At13_3 ct13_3 lt13_3 := ft13_3.close
     refine CW.seq ?_
     refine CW.lex [.W, .W, .L, .X, .W, .W, .W, .W, .W] rfl ?_
     refine RW.pure tabOk 2 rfl ?_
     refine RW.load tabOk [.int .i64 ((rd p0.A it4_0).Not)] ((gb2_3.at 2).take 1 rfl) ⟨rfl, rfl, rfl, rfl⟩ rfl rfl rfl rfl ?_
     obtain ⟨y14, h172, H⟩ := bind_some H
     refine RW.callF (.inl rfl) ent39 ⟨rfl, rfl, rfl, rfl⟩ rfl rfl (room_Count.calls k A5 c_5 y3 ((rd p0.A it4_0).Not) _ _ (gF5_3.all.to kDevice_ro rfl) gF5_3.len h172) ?_
     rintro _ w24 ⟨rfl, x17⟩
     refine ⟨_, rfl, x17, ?_⟩
     have sx17 := x17.size
     refine RW.pure tabOk 5 rfl ?_
     refine RW.done ?_
     refine NW.next ?_
     refine CW.seq ?_
     refine CW.lex [.W, .W] rfl ?_
     refine RW.pure tabOk 2 rfl ?_
     refine RW.done ?_
     refine NW.next ?_
     refine CW.seqJ (fun a w25 => ∃ (it20_7 : Int) (it21_7 : Int), Sat 197 [(0, .slice At3_0 lt3_0.length ct3_0), (3, .pointer (some ⟨b2, 0, none⟩)), (6, .slice A5 y3.length c_5), (7, .slice A6 y4.length c_6), (8, .bool y5), (9, .int .i64 it9_3), (10, .slice At10_3 lt10_3.length ct10_3), (11, .slice At11_3 lt11_3.length ct11_3), (12, .slice At12_3 lt12_3.length ct12_3), (13, .slice At13_3 lt13_3.length ct13_3), (14, .int .i64 it14_3), (18, .int .i64 y14.1), (19, .int .i64 y14.2), (20, .int .i64 it20_7), (21, .int .i64 it21_7)] a ∧ w24.heap.size ≤ w25.heap.size ∧ Ow kDeviceO 84 w25.heap (okL [(w2.heap.size, some w4.heap.size, some 84)]) (okL [(w2.heap.size, some w4.heap.size, some 93)]) At3_0 ct3_0 lt3_0 ∧ Sl kPtr w25.heap (okL [(0, some w.heap.size, none)]) A4 ((rd p0.A it4_0).P) ∧ Ow kDeviceO 84 w25.heap (okL [(w8.heap.size, some w9.heap.size, some 84)]) (okL [(w8.heap.size, some w9.heap.size, some 93)]) A5 c_5 y3 ∧ Ow kPtr 70 w25.heap (okL [(w9.heap.size, some w10.heap.size, some 70)]) (okL []) A6 c_6 y4 ∧ Ow kDeviceO 84 w25.heap (okL [(w11.heap.size, some mid1_3, some 84)]) (okL [(w11.heap.size, some mid1_3, some 93)]) At10_3 ct10_3 lt10_3 ∧ Ow kDeviceO 84 w25.heap (okL [(mid1_3, some w12.heap.size, some 84)]) (okL [(mid1_3, some w12.heap.size, some 93)]) At11_3 ct11_3 lt11_3 ∧ Ow kPtr 70 w25.heap (okL [(w11.heap.size, some mid0_3, some 70)]) (okL []) At12_3 ct12_3 lt12_3 ∧ Ow kPtr 70 w25.heap (okL [(mid0_3, some w12.heap.size, some 70)]) (okL []) At13_3 ct13_3 lt13_3 ∧ Sl kDeviceR w25.heap (okL [(0, some w.heap.size, none)]) A1 p0.L ∧ Sl kActR w25.heap (okL [(0, some w.heap.size, none)]) A2 p0.A ∧ Ext w w25 ∧ Box w25.heap b2 109 [.int .i64 ((rd p0.A it4_0).Do), .int .i64 ((rd p0.A it4_0).N), .int .i64 ((rd p0.A it4_0).Not), .slice A4 ((rd p0.A it4_0).P).length c_4] ∧ Box w25.heap b1 59 [.slice A1 p0.L.length c_1, .slice A2 p0.A.length c_2] ∧ Box w25.heap 0 gT (arrI .u8 64 tz) ∧ hermitagelaw7_RoomExact.j6 p0 k lt3_0 it4_0 y3 y4 y5 it9_3 lt10_3 lt11_3 lt12_3 lt13_3 it14_3 y14 (hermitagelaw7_RoomExact.l0 p0 k n1) it20_7 it21_7 = some r) ?_ ?_
     ·
      refine CW.seq ?_
      refine CW.lex [.W] rfl ?_
      refine RW.pure tabOk 1 rfl ?_
      refine RW.done ?_
      refine NW.next ?_
      by_cases c13 : y5 = true
      ·
       rw [if_pos c13] at H
       refine CW.cond_t rfl (c13) ?_
       refine CW.lex [.W, .W, .L, .X, .W, .W] rfl ?_
       refine RW.pure tabOk 2 rfl ?_
       have h173 := gb2_3.ext x17
       refine RW.load tabOk [.int .i64 ((rd p0.A it4_0).Not)] ((h173.at 2).take 1 rfl) ⟨rfl, rfl, rfl, rfl⟩ rfl rfl rfl rfl ?_
       have h174 := gL0_t3_3.ext x17
       obtain ⟨y15, h175, H⟩ := bind_some H
       refine RW.callF (.inl rfl) ent111 ⟨rfl, rfl, rfl, rfl⟩ rfl rfl (hermitageref7_Count.calls k At3_0 ct3_0 lt3_0 ((rd p0.A it4_0).Not) _ _ (h174.all.to kDevice_ro rfl) h174.len h175) ?_
       rintro _ w26 ⟨rfl, x18⟩
       refine ⟨_, rfl, x18, ?_⟩
       have sx18 := x18.size
       refine RW.pure tabOk 2 rfl ?_
       refine RW.done ?_
       have h176 := h174.ext x18
       have h177 := (gF4_3.ext x17).ext x18
       have h178 := (gF5_3.ext x17).ext x18
       have h179 := (gF6_3.ext x17).ext x18
       have h180 := (ft10_3.ext x17).ext x18
       have h181 := (h170.ext x17).ext x18
       have h182 := (ft12_3.ext x17).ext x18
       have h183 := (h171.ext x17).ext x18
       have h184 := (gF1_3.ext x17).ext x18
       have h185 := (gF2_3.ext x17).ext x18
       have h186 := Ext.trans (Ext.trans x0_3 x17) x18
       have h187 := h173.ext x18
       have h188 := (gb1_3.ext x17).ext x18
       have h189 := (g0_3.ext x17).ext x18
       exact NW.J fun a ha => ⟨0, y15, ha.sub ⟨rfl, rfl, rfl, rfl, rfl, rfl, rfl, rfl, rfl, rfl, rfl, rfl, rfl, rfl, rfl, trivial⟩, by omega, h176, h177, h178, h179, h180, h181, h182, h183, h184, h185, h186, h187, h188, h189, H⟩
      ·
       rw [if_neg c13] at H
       refine CW.cond_f rfl (bool_f c13) ?_
       refine CW.skip ?_
       have h190 := gL0_t3_3.ext x17
       have h191 := gF4_3.ext x17
       have h192 := gF5_3.ext x17
       have h193 := gF6_3.ext x17
       have h194 := ft10_3.ext x17
       have h195 := h170.ext x17
       have h196 := ft12_3.ext x17
       have h197 := h171.ext x17
       have h198 := gF1_3.ext x17
       have h199 := gF2_3.ext x17
       have h200 := Ext.trans x0_3 x17
       have h201 := gb2_3.ext x17
       have h202 := gb1_3.ext x17
       have h203 := g0_3.ext x17
       exact NW.J fun a ha => ⟨1, 0, ha.sub ⟨rfl, rfl, rfl, rfl, rfl, rfl, rfl, rfl, rfl, rfl, rfl, rfl, rfl, rfl, rfl, trivial⟩, by omega, h190, h191, h192, h193, h194, h195, h196, h197, h198, h199, h200, h201, h202, h203, H⟩
     intro a w25 hJ hp
     obtain ⟨it20_7, it21_7, hS, hle, gL0_t3_7, gF4_7, gF5_7, gF6_7, gL3_t10_7, gL3_t11_7, gL3_t12_7, gL3_t13_7, gF1_7, gF2_7, x0_7, gb2_7, gb1_7, g0_7, H⟩ := hJ
     unfold hermitagelaw7_RoomExact.j6 at H
     refine CW.go hp hS ?_
     refine CW.seq ?_
     refine CW.lex [.W, .W, .L, .X, .W, .W, .W, .W, .W] rfl ?_
     refine RW.pure tabOk 2 rfl ?_
     refine RW.load tabOk [.int .i64 ((rd p0.A it4_0).Not)] ((gb2_7.at 2).take 1 rfl) ⟨rfl, rfl, rfl, rfl⟩ rfl rfl rfl rfl ?_
     obtain ⟨y16, h204, H⟩ := bind_some H
     refine RW.callF (.inl rfl) ent112 ⟨rfl, rfl, rfl, rfl⟩ rfl rfl (room_Used.calls k A5 c_5 y3 ((rd p0.A it4_0).Not) _ _ (gF5_7.all.to kDevice_ro rfl) gF5_7.len h204) ?_
     rintro _ w27 ⟨rfl, x19⟩
     refine ⟨_, rfl, x19, ?_⟩
     have sx19 := x19.size
     refine RW.pure tabOk 5 rfl ?_
     refine RW.done ?_
     refine NW.next ?_
     refine CW.seq ?_
     refine CW.lex [.W, .W] rfl ?_
     refine RW.pure tabOk 2 rfl ?_
     refine RW.done ?_
     refine NW.next ?_
     refine CW.seqJ (fun a w28 => ∃ (it24_8 : Int) (it25_8 : Int), Sat 197 [(0, .slice At3_0 lt3_0.length ct3_0), (3, .pointer (some ⟨b2, 0, none⟩)), (6, .slice A5 y3.length c_5), (7, .slice A6 y4.length c_6), (8, .bool y5), (9, .int .i64 it9_3), (10, .slice At10_3 lt10_3.length ct10_3), (11, .slice At11_3 lt11_3.length ct11_3), (12, .slice At12_3 lt12_3.length ct12_3), (13, .slice At13_3 lt13_3.length ct13_3), (14, .int .i64 it14_3), (18, .int .i64 y14.1), (19, .int .i64 y14.2), (20, .int .i64 it20_7), (21, .int .i64 it21_7), (22, .int .i64 y16.1), (23, .int .i64 y16.2), (24, .int .i64 it24_8), (25, .int .i64 it25_8)] a ∧ w27.heap.size ≤ w28.heap.size ∧ Ow kDeviceO 84 w28.heap (okL [(w2.heap.size, some w4.heap.size, some 84)]) (okL [(w2.heap.size, some w4.heap.size, some 93)]) At3_0 ct3_0 lt3_0 ∧ Sl kPtr w28.heap (okL [(0, some w.heap.size, none)]) A4 ((rd p0.A it4_0).P) ∧ Ow kDeviceO 84 w28.heap (okL [(w8.heap.size, some w9.heap.size, some 84)]) (okL [(w8.heap.size, some w9.heap.size, some 93)]) A5 c_5 y3 ∧ Ow kPtr 70 w28.heap (okL [(w9.heap.size, some w10.heap.size, some 70)]) (okL []) A6 c_6 y4 ∧ Ow kDeviceO 84 w28.heap (okL [(w11.heap.size, some mid1_3, some 84)]) (okL [(w11.heap.size, some mid1_3, some 93)]) At10_3 ct10_3 lt10_3 ∧ Ow kDeviceO 84 w28.heap (okL [(mid1_3, some w12.heap.size, some 84)]) (okL [(mid1_3, some w12.heap.size, some 93)]) At11_3 ct11_3 lt11_3 ∧ Ow kPtr 70 w28.heap (okL [(w11.heap.size, some mid0_3, some 70)]) (okL []) At12_3 ct12_3 lt12_3 ∧ Ow kPtr 70 w28.heap (okL [(mid0_3, some w12.heap.size, some 70)]) (okL []) At13_3 ct13_3 lt13_3 ∧ Sl kDeviceR w28.heap (okL [(0, some w.heap.size, none)]) A1 p0.L ∧ Sl kActR w28.heap (okL [(0, some w.heap.size, none)]) A2 p0.A ∧ Ext w w28 ∧ Box w28.heap b2 109 [.int .i64 ((rd p0.A it4_0).Do), .int .i64 ((rd p0.A it4_0).N), .int .i64 ((rd p0.A it4_0).Not), .slice A4 ((rd p0.A it4_0).P).length c_4] ∧ Box w28.heap b1 59 [.slice A1 p0.L.length c_1, .slice A2 p0.A.length c_2] ∧ Box w28.heap 0 gT (arrI .u8 64 tz) ∧ hermitagelaw7_RoomExact.j7 p0 k lt3_0 it4_0 y3 y4 y5 it9_3 lt10_3 lt11_3 lt12_3 lt13_3 it14_3 y14 it20_7 it21_7 y16 (hermitagelaw7_RoomExact.l0 p0 k n1) it24_8 it25_8 = some r) ?_ ?_
     ·
      refine CW.seq ?_
      refine CW.lex [.W] rfl ?_
      refine RW.pure tabOk 1 rfl ?_
      refine RW.done ?_
      refine NW.next ?_
      by_cases c14 : y5 = true
      ·
       rw [if_pos c14] at H
       refine CW.cond_t rfl (c14) ?_
       refine CW.seq ?_
       refine CW.lex [.W] rfl ?_
       refine RW.pure tabOk 1 rfl ?_
       refine RW.done ?_
       refine NW.next ?_
       refine CW.seq ?_
       refine CW.lex [.W, .W, .L, .X, .W] rfl ?_
       refine RW.pure tabOk 2 rfl ?_
       have h205 := gb2_7.ext x19
       refine RW.load tabOk [.int .i64 ((rd p0.A it4_0).Not)] ((h205.at 2).take 1 rfl) ⟨rfl, rfl, rfl, rfl⟩ rfl rfl rfl rfl ?_
       have h206 := gL0_t3_7.ext x19
       obtain ⟨y17, h207, H⟩ := bind_some H
       refine RW.callF (.inl rfl) ent113 ⟨rfl, rfl, rfl, rfl⟩ rfl rfl (hermitageref7_At.calls k At3_0 ct3_0 lt3_0 ((rd p0.A it4_0).Not) _ _ (h206.all.to kDevice_ro rfl) h206.len h207) ?_
       rintro _ w29 ⟨rfl, x20⟩
       refine ⟨_, rfl, x20, ?_⟩
       have sx20 := x20.size
       refine RW.pure tabOk 1 rfl ?_
       refine RW.done ?_
       refine NW.next ?_
       refine CW.seq ?_
       refine CW.lex [.W, .W] rfl ?_
       refine RW.pure tabOk 2 rfl ?_
       refine RW.done ?_
       refine NW.next ?_
       by_cases c15 : 0 ≤ y17
       ·
        rw [if_pos c15] at H
        refine CW.cond_t rfl (decide_eq_true c15) ?_
        refine CW.lex [.W, .W, .W, .L, .X, .W, .W] rfl ?_
        refine RW.pure tabOk 2 rfl ?_
        obtain ⟨g2, H⟩ := guard_some H
        have h208 := h206.ext x20
        obtain ⟨ad2, A15, c_15, A16, c_16, e2, a2, h209, h210⟩ := kDeviceO_ato h208 g2.1 g2.2
        refine RW.index tabOk g2.1 g2.2 e2 ⟨rfl, rfl, rfl, rfl⟩ rfl rfl rfl rfl rfl rfl ?_
        refine RW.load tabOk [.int .i64 ((rd lt3_0 y17).ID), .int .i64 ((rd lt3_0 y17).Size), .slice A15 ((rd lt3_0 y17).Free).length c_15, .slice A16 ((rd lt3_0 y17).Late).length c_16] a2 ⟨rfl, rfl, rfl, rfl⟩ rfl rfl rfl rfl ?_
        obtain ⟨y18, h211, H⟩ := bind_some H
        refine RW.callF (.inl rfl) ent114 ⟨rfl, rfl, rfl, rfl⟩ rfl rfl (hermitageref7_Used.calls k (rd lt3_0 y17) A15 c_15 A16 c_16 _ _ h209.all h209.len h210.all h210.len h211) ?_
        rintro _ w30 ⟨rfl, x21⟩
        refine ⟨_, rfl, x21, ?_⟩
        have sx21 := x21.size
        refine RW.pure tabOk 2 rfl ?_
        refine RW.done ?_
        have h212 := h208.ext x21
        have h213 := ((gF4_7.ext x19).ext x20).ext x21
        have h214 := ((gF5_7.ext x19).ext x20).ext x21
        have h215 := ((gF6_7.ext x19).ext x20).ext x21
        have h216 := ((gL3_t10_7.ext x19).ext x20).ext x21
        have h217 := ((gL3_t11_7.ext x19).ext x20).ext x21
        have h218 := ((gL3_t12_7.ext x19).ext x20).ext x21
        have h219 := ((gL3_t13_7.ext x19).ext x20).ext x21
        have h220 := ((gF1_7.ext x19).ext x20).ext x21
        have h221 := ((gF2_7.ext x19).ext x20).ext x21
        have h222 := Ext.trans (Ext.trans (Ext.trans x0_7 x19) x20) x21
        have h223 := (h205.ext x20).ext x21
        have h224 := ((gb1_7.ext x19).ext x20).ext x21
        have h225 := ((g0_7.ext x19).ext x20).ext x21
        exact NW.J fun a ha => ⟨0, y18, ha.sub ⟨rfl, rfl, rfl, rfl, rfl, rfl, rfl, rfl, rfl, rfl, rfl, rfl, rfl, rfl, rfl, rfl, rfl, rfl, rfl, trivial⟩, by omega, h212, h213, h214, h215, h216, h217, h218, h219, h220, h221, h222, h223, h224, h225, H⟩
       ·
        rw [if_neg c15] at H
        refine CW.cond_f rfl (decide_eq_false c15) ?_
        refine CW.skip ?_
        have h226 := h206.ext x20
        have h227 := (gF4_7.ext x19).ext x20
        have h228 := (gF5_7.ext x19).ext x20
        have h229 := (gF6_7.ext x19).ext x20
        have h230 := (gL3_t10_7.ext x19).ext x20
        have h231 := (gL3_t11_7.ext x19).ext x20
        have h232 := (gL3_t12_7.ext x19).ext x20
        have h233 := (gL3_t13_7.ext x19).ext x20
        have h234 := (gF1_7.ext x19).ext x20
        have h235 := (gF2_7.ext x19).ext x20
        have h236 := Ext.trans (Ext.trans x0_7 x19) x20
        have h237 := h205.ext x20
        have h238 := (gb1_7.ext x19).ext x20
        have h239 := (g0_7.ext x19).ext x20
        exact NW.J fun a ha => ⟨3, 0, ha.sub ⟨rfl, rfl, rfl, rfl, rfl, rfl, rfl, rfl, rfl, rfl, rfl, rfl, rfl, rfl, rfl, rfl, rfl, rfl, rfl, trivial⟩, by omega, h226, h227, h228, h229, h230, h231, h232, h233, h234, h235, h236, h237, h238, h239, H⟩
      ·
       rw [if_neg c14] at H
       refine CW.cond_f rfl (bool_f c14) ?_
       refine CW.skip ?_
       have h240 := gL0_t3_7.ext x19
       have h241 := gF4_7.ext x19
       have h242 := gF5_7.ext x19
       have h243 := gF6_7.ext x19
       have h244 := gL3_t10_7.ext x19
       have h245 := gL3_t11_7.ext x19
       have h246 := gL3_t12_7.ext x19
       have h247 := gL3_t13_7.ext x19
       have h248 := gF1_7.ext x19
       have h249 := gF2_7.ext x19
       have h250 := Ext.trans x0_7 x19
       have h251 := gb2_7.ext x19
       have h252 := gb1_7.ext x19
       have h253 := g0_7.ext x19
       exact NW.J fun a ha => ⟨1, 0, ha.sub ⟨rfl, rfl, rfl, rfl, rfl, rfl, rfl, rfl, rfl, rfl, rfl, rfl, rfl, rfl, rfl, rfl, rfl, rfl, rfl, trivial⟩, by omega, h240, h241, h242, h243, h244, h245, h246, h247, h248, h249, h250, h251, h252, h253, H⟩
     intro a w28 hJ hp
     obtain ⟨it24_8, it25_8, hS, hle, gL0_t3_8, gF4_8, gF5_8, gF6_8, gL3_t10_8, gL3_t11_8, gL3_t12_8, gL3_t13_8, gF1_8, gF2_8, x0_8, gb2_8, gb1_8, g0_8, H⟩ := hJ
     unfold hermitagelaw7_RoomExact.j7 at H
     refine CW.go hp hS ?_
     refine CW.seq ?_
     refine CW.seqJ (fun a w31 => ∃ (bt183_9 : Bool), Sat 197 [(0, .slice At3_0 lt3_0.length ct3_0), (6, .slice A5 y3.length c_5), (9, .int .i64 it9_3), (10, .slice At10_3 lt10_3.length ct10_3), (11, .slice At11_3 lt11_3.length ct11_3), (183, .bool bt183_9)] a ∧ w28.heap.size ≤ w31.heap.size ∧ Ow kDeviceO 84 w31.heap (okL [(w2.heap.size, some w4.heap.size, some 84)]) (okL [(w2.heap.size, some w4.heap.size, some 93)]) At3_0 ct3_0 lt3_0 ∧ Ow kDeviceO 84 w31.heap (okL [(w8.heap.size, some w9.heap.size, some 84)]) (okL [(w8.heap.size, some w9.heap.size, some 93)]) A5 c_5 y3 ∧ Ow kDeviceO 84 w31.heap (okL [(w11.heap.size, some mid1_3, some 84)]) (okL [(w11.heap.size, some mid1_3, some 93)]) At10_3 ct10_3 lt10_3 ∧ Ow kDeviceO 84 w31.heap (okL [(mid1_3, some w12.heap.size, some 84)]) (okL [(mid1_3, some w12.heap.size, some 93)]) At11_3 ct11_3 lt11_3 ∧ Sl kDeviceR w31.heap (okL [(0, some w.heap.size, none)]) A1 p0.L ∧ Sl kActR w31.heap (okL [(0, some w.heap.size, none)]) A2 p0.A ∧ Ext w w31 ∧ Box w31.heap b1 59 [.slice A1 p0.L.length c_1, .slice A2 p0.A.length c_2] ∧ Box w31.heap 0 gT (arrI .u8 64 tz) ∧ hermitagelaw7_RoomExact.j8 k lt3_0 it4_0 y3 it9_3 lt10_3 lt11_3 (hermitagelaw7_RoomExact.l0 p0 k n1) bt183_9 = some r) ?_ ?_
     ·
      refine CW.lex [.W, .X, .W, .W, .W, .W, .W, .X, .W, .W, .W, .W, .W, .X, .W, .W, .W, .W, .X, .W, .W, .W, .W, .W, .W, .W, .W, .W, .W, .X, .W, .W, .W, .W, .W, .W, .W, .W, .W, .W, .W, .X, .W, .W, .W, .W, .W, .L, .X, .W, .W, .W, .W, .X, .X, .W, .W, .W, .W] rfl ?_
      refine RW.pure tabOk 1 rfl ?_
      obtain ⟨y19, h254, H⟩ := bind_some H
      refine RW.callF (.inl rfl) ent38 ⟨rfl, rfl, rfl, rfl⟩ rfl rfl (hermitagelaw7_num.calls it14_3 _ _ h254) ?_
      rintro _ w32 ⟨rfl, x22⟩
      refine ⟨_, rfl, x22, ?_⟩
      have sx22 := x22.size
      refine RW.pure tabOk 3 rfl ?_
      by_cases c16 : y19 = it9_3
      ·
       rw [if_pos c16] at H
       refine RW.bool 129 (b' := false) (bne_f c16) rfl ?_
       refine RW.pure tabOk 2 rfl ?_
       have h255 := gL3_t10_8.ext x22
       have h256 := gL3_t11_8.ext x22
       obtain ⟨y20, h257, H⟩ := bind_some H
       refine RW.callF (.inl rfl) ent42 ⟨rfl, rfl, rfl, rfl⟩ rfl rfl (hermitageref0_EqDevices.calls k At10_3 ct10_3 lt10_3 At11_3 ct11_3 lt11_3 _ _ (h255.all.to kDevice_ro rfl) h255.len (h256.all.to kDevice_ro rfl) h256.len h257) ?_
       rintro _ w33 ⟨rfl, x23⟩
       refine ⟨_, rfl, x23, ?_⟩
       have sx23 := x23.size
       refine RW.pure tabOk 3 rfl ?_
       by_cases c17 : y20 = true
       ·
        rw [if_pos c17] at H
        refine RW.bool 135 (b' := false) (not_f (c17)) rfl ?_
        refine RW.pure tabOk 2 rfl ?_
        have h258 := (gL3_t12_8.ext x22).ext x23
        have h259 := (gL3_t13_8.ext x22).ext x23
        obtain ⟨y21, h260, H⟩ := bind_some H
        refine RW.callF (.inl rfl) ent73 ⟨rfl, rfl, rfl, rfl⟩ rfl rfl (hermitageref0_EqPtrs.calls k At12_3 ct12_3 lt12_3 At13_3 ct13_3 lt13_3 _ _ h258.all h258.len h259.all h259.len h260) ?_
        rintro _ w34 ⟨rfl, x24⟩
        refine ⟨_, rfl, x24, ?_⟩
        have sx24 := x24.size
        refine RW.pure tabOk 3 rfl ?_
        by_cases c18 : y21 = true
        ·
         rw [if_pos c18] at H
         refine RW.bool 141 (b' := false) (not_f (c18)) rfl ?_
         refine RW.pure tabOk 1 rfl ?_
         obtain ⟨y22, h261, H⟩ := bind_some H
         refine RW.callF (.inl rfl) ent38 ⟨rfl, rfl, rfl, rfl⟩ rfl rfl (hermitagelaw7_num.calls y14.2 _ _ h261) ?_
         rintro _ w35 ⟨rfl, x25⟩
         refine ⟨_, rfl, x25, ?_⟩
         have sx25 := x25.size
         refine RW.pure tabOk 4 rfl ?_
         by_cases c19 : y22 = it20_7
         ·
          rw [if_pos c19] at H
          refine RW.bool 147 (b' := false) (bne_f c19) rfl ?_
          refine RW.pure tabOk 5 rfl ?_
          by_cases c20 : y14.1 = it21_7
          ·
           rw [if_pos c20] at H
           refine RW.bool 152 (b' := false) (bne_f c20) rfl ?_
           refine RW.pure tabOk 1 rfl ?_
           obtain ⟨y23, h262, H⟩ := bind_some H
           refine RW.callF (.inl rfl) ent38 ⟨rfl, rfl, rfl, rfl⟩ rfl rfl (hermitagelaw7_num.calls y16.2 _ _ h262) ?_
           rintro _ w36 ⟨rfl, x26⟩
           refine ⟨_, rfl, x26, ?_⟩
           have sx26 := x26.size
           refine RW.pure tabOk 4 rfl ?_
           by_cases c21 : y23 = it24_8
           ·
            rw [if_pos c21] at H
            refine RW.bool 158 (b' := false) (bne_f c21) rfl ?_
            refine RW.pure tabOk 5 rfl ?_
            by_cases c22 : y16.1 = it25_8
            ·
             rw [if_pos c22] at H
             refine RW.bool 163 (b' := false) (bne_f c22) rfl ?_
             refine RW.pure tabOk 2 rfl ?_
             have h263 := ((((gF5_8.ext x22).ext x23).ext x24).ext x25).ext x26
             have h264 := ((((gL0_t3_8.ext x22).ext x23).ext x24).ext x25).ext x26
             obtain ⟨y24, h265, H⟩ := bind_some H
             refine RW.callF (.inl rfl) ent42 ⟨rfl, rfl, rfl, rfl⟩ rfl rfl (hermitageref0_EqDevices.calls k A5 c_5 y3 At3_0 ct3_0 lt3_0 _ _ (h263.all.to kDevice_ro rfl) h263.len (h264.all.to kDevice_ro rfl) h264.len h265) ?_
             rintro _ w37 ⟨rfl, x27⟩
             refine ⟨_, rfl, x27, ?_⟩
             have sx27 := x27.size
             refine RW.pure tabOk 3 rfl ?_
             by_cases c23 : y24 = true
             ·
              rw [if_pos c23] at H
              refine RW.bool 169 (b' := false) (not_f (c23)) rfl ?_
              refine RW.pure tabOk 2 rfl ?_
              have h266 := (((((gb2_8.ext x22).ext x23).ext x24).ext x25).ext x26).ext x27
              refine RW.load tabOk [.slice A4 ((rd p0.A it4_0).P).length c_4] (h266.at 3) ⟨rfl, rfl, rfl, rfl⟩ rfl rfl rfl rfl ?_
              have h267 := (((((gF6_8.ext x22).ext x23).ext x24).ext x25).ext x26).ext x27
              have h268 := (((((gF4_8.ext x22).ext x23).ext x24).ext x25).ext x26).ext x27
              obtain ⟨y25, h269, H⟩ := bind_some H
              refine RW.callF (.inl rfl) ent73 ⟨rfl, rfl, rfl, rfl⟩ rfl rfl (hermitageref0_EqPtrs.calls k A6 c_6 y4 A4 c_4 ((rd p0.A it4_0).P) _ _ h267.all h267.len h268.all l2 h269) ?_
              rintro _ w38 ⟨rfl, x28⟩
              refine ⟨_, rfl, x28, ?_⟩
              have sx28 := x28.size
              refine RW.pure tabOk 3 rfl ?_
              by_cases c24 : y25 = true
              ·
               rw [if_pos c24] at H
               refine RW.bool 176 (b' := false) (not_f (c24)) rfl ?_
               refine RW.pure tabOk 1 rfl ?_
               have h270 := (h263.ext x27).ext x28
               obtain ⟨y26, h271, H⟩ := bind_some H
               refine RW.callF (.inl rfl) ent115 ⟨rfl, rfl, rfl, rfl⟩ rfl rfl (room_Check.calls k A5 c_5 y3 _ _ (h270.all.to kDevice_ro rfl) h270.len h271) ?_
               rintro _ w39 ⟨rfl, x29⟩
               refine ⟨_, rfl, x29, ?_⟩
               have sx29 := x29.size
               obtain ⟨y27, h272, H⟩ := bind_some H
               refine RW.callF (.inl rfl) ent38 ⟨rfl, rfl, rfl, rfl⟩ rfl rfl (hermitagelaw7_num.calls y26 _ _ h272) ?_
               rintro _ w40 ⟨rfl, x30⟩
               refine ⟨_, rfl, x30, ?_⟩
               have sx30 := x30.size
               refine RW.pure tabOk 4 rfl ?_
               refine RW.done ?_
               have h273 := (((h264.ext x27).ext x28).ext x29).ext x30
               have h274 := (h270.ext x29).ext x30
               have h275 := (((((((h255.ext x23).ext x24).ext x25).ext x26).ext x27).ext x28).ext x29).ext x30
               have h276 := (((((((h256.ext x23).ext x24).ext x25).ext x26).ext x27).ext x28).ext x29).ext x30
               have h277 := ((((((((gF1_8.ext x22).ext x23).ext x24).ext x25).ext x26).ext x27).ext x28).ext x29).ext x30
               have h278 := ((((((((gF2_8.ext x22).ext x23).ext x24).ext x25).ext x26).ext x27).ext x28).ext x29).ext x30
               have h279 := Ext.trans (Ext.trans (Ext.trans (Ext.trans (Ext.trans (Ext.trans (Ext.trans (Ext.trans (Ext.trans x0_8 x22) x23) x24) x25) x26) x27) x28) x29) x30
               have h280 := ((((((((gb1_8.ext x22).ext x23).ext x24).ext x25).ext x26).ext x27).ext x28).ext x29).ext x30
               have h281 := ((((((((g0_8.ext x22).ext x23).ext x24).ext x25).ext x26).ext x27).ext x28).ext x29).ext x30
               exact NW.J fun a ha => ⟨(!((y27 == 0) == y5)), ha.sub ⟨rfl, rfl, rfl, rfl, rfl, rfl, trivial⟩, by omega, h273, h274, h275, h276, h277, h278, h279, h280, h281, H⟩
              ·
               rw [if_neg c24] at H
               refine RW.bool 176 (b' := true) (not_t (bool_f c24)) rfl ?_
               refine RW.pure tabOk 7 rfl ?_
               refine RW.done ?_
               have h282 := (h264.ext x27).ext x28
               have h283 := (h263.ext x27).ext x28
               have h284 := (((((h255.ext x23).ext x24).ext x25).ext x26).ext x27).ext x28
               have h285 := (((((h256.ext x23).ext x24).ext x25).ext x26).ext x27).ext x28
               have h286 := ((((((gF1_8.ext x22).ext x23).ext x24).ext x25).ext x26).ext x27).ext x28
               have h287 := ((((((gF2_8.ext x22).ext x23).ext x24).ext x25).ext x26).ext x27).ext x28
               have h288 := Ext.trans (Ext.trans (Ext.trans (Ext.trans (Ext.trans (Ext.trans (Ext.trans x0_8 x22) x23) x24) x25) x26) x27) x28
               have h289 := ((((((gb1_8.ext x22).ext x23).ext x24).ext x25).ext x26).ext x27).ext x28
               have h290 := ((((((g0_8.ext x22).ext x23).ext x24).ext x25).ext x26).ext x27).ext x28
               exact NW.J fun a ha => ⟨true, ha.sub ⟨rfl, rfl, rfl, rfl, rfl, rfl, trivial⟩, by omega, h282, h283, h284, h285, h286, h287, h288, h289, h290, H⟩
             ·
              rw [if_neg c23] at H
              refine RW.bool 169 (b' := true) (not_t (bool_f c23)) rfl ?_
              refine RW.pure tabOk 14 rfl ?_
              refine RW.done ?_
              have h291 := h264.ext x27
              have h292 := h263.ext x27
              have h293 := ((((h255.ext x23).ext x24).ext x25).ext x26).ext x27
              have h294 := ((((h256.ext x23).ext x24).ext x25).ext x26).ext x27
              have h295 := (((((gF1_8.ext x22).ext x23).ext x24).ext x25).ext x26).ext x27
              have h296 := (((((gF2_8.ext x22).ext x23).ext x24).ext x25).ext x26).ext x27
              have h297 := Ext.trans (Ext.trans (Ext.trans (Ext.trans (Ext.trans (Ext.trans x0_8 x22) x23) x24) x25) x26) x27
              have h298 := (((((gb1_8.ext x22).ext x23).ext x24).ext x25).ext x26).ext x27
              have h299 := (((((g0_8.ext x22).ext x23).ext x24).ext x25).ext x26).ext x27
              exact NW.J fun a ha => ⟨true, ha.sub ⟨rfl, rfl, rfl, rfl, rfl, rfl, trivial⟩, by omega, h291, h292, h293, h294, h295, h296, h297, h298, h299, H⟩
            ·
             rw [if_neg c22] at H
             refine RW.bool 163 (b' := true) (bne_t c22) rfl ?_
             refine RW.pure tabOk 20 rfl ?_
             refine RW.done ?_
             have h300 := ((((gL0_t3_8.ext x22).ext x23).ext x24).ext x25).ext x26
             have h301 := ((((gF5_8.ext x22).ext x23).ext x24).ext x25).ext x26
             have h302 := (((h255.ext x23).ext x24).ext x25).ext x26
             have h303 := (((h256.ext x23).ext x24).ext x25).ext x26
             have h304 := ((((gF1_8.ext x22).ext x23).ext x24).ext x25).ext x26
             have h305 := ((((gF2_8.ext x22).ext x23).ext x24).ext x25).ext x26
             have h306 := Ext.trans (Ext.trans (Ext.trans (Ext.trans (Ext.trans x0_8 x22) x23) x24) x25) x26
             have h307 := ((((gb1_8.ext x22).ext x23).ext x24).ext x25).ext x26
             have h308 := ((((g0_8.ext x22).ext x23).ext x24).ext x25).ext x26
             exact NW.J fun a ha => ⟨true, ha.sub ⟨rfl, rfl, rfl, rfl, rfl, rfl, trivial⟩, by omega, h300, h301, h302, h303, h304, h305, h306, h307, h308, H⟩
           ·
            rw [if_neg c21] at H
            refine RW.bool 158 (b' := true) (bne_t c21) rfl ?_
            refine RW.pure tabOk 25 rfl ?_
            refine RW.done ?_
            have h309 := ((((gL0_t3_8.ext x22).ext x23).ext x24).ext x25).ext x26
            have h310 := ((((gF5_8.ext x22).ext x23).ext x24).ext x25).ext x26
            have h311 := (((h255.ext x23).ext x24).ext x25).ext x26
            have h312 := (((h256.ext x23).ext x24).ext x25).ext x26
            have h313 := ((((gF1_8.ext x22).ext x23).ext x24).ext x25).ext x26
            have h314 := ((((gF2_8.ext x22).ext x23).ext x24).ext x25).ext x26
            have h315 := Ext.trans (Ext.trans (Ext.trans (Ext.trans (Ext.trans x0_8 x22) x23) x24) x25) x26
            have h316 := ((((gb1_8.ext x22).ext x23).ext x24).ext x25).ext x26
            have h317 := ((((g0_8.ext x22).ext x23).ext x24).ext x25).ext x26
            exact NW.J fun a ha => ⟨true, ha.sub ⟨rfl, rfl, rfl, rfl, rfl, rfl, trivial⟩, by omega, h309, h310, h311, h312, h313, h314, h315, h316, h317, H⟩
          ·
           rw [if_neg c20] at H
           refine RW.bool 152 (b' := true) (bne_t c20) rfl ?_
           refine RW.pure tabOk 31 rfl ?_
           refine RW.done ?_
           have h318 := (((gL0_t3_8.ext x22).ext x23).ext x24).ext x25
           have h319 := (((gF5_8.ext x22).ext x23).ext x24).ext x25
           have h320 := ((h255.ext x23).ext x24).ext x25
           have h321 := ((h256.ext x23).ext x24).ext x25
           have h322 := (((gF1_8.ext x22).ext x23).ext x24).ext x25
           have h323 := (((gF2_8.ext x22).ext x23).ext x24).ext x25
           have h324 := Ext.trans (Ext.trans (Ext.trans (Ext.trans x0_8 x22) x23) x24) x25
           have h325 := (((gb1_8.ext x22).ext x23).ext x24).ext x25
           have h326 := (((g0_8.ext x22).ext x23).ext x24).ext x25
           exact NW.J fun a ha => ⟨true, ha.sub ⟨rfl, rfl, rfl, rfl, rfl, rfl, trivial⟩, by omega, h318, h319, h320, h321, h322, h323, h324, h325, h326, H⟩
         ·
          rw [if_neg c19] at H
          refine RW.bool 147 (b' := true) (bne_t c19) rfl ?_
          refine RW.pure tabOk 36 rfl ?_
          refine RW.done ?_
          have h327 := (((gL0_t3_8.ext x22).ext x23).ext x24).ext x25
          have h328 := (((gF5_8.ext x22).ext x23).ext x24).ext x25
          have h329 := ((h255.ext x23).ext x24).ext x25
          have h330 := ((h256.ext x23).ext x24).ext x25
          have h331 := (((gF1_8.ext x22).ext x23).ext x24).ext x25
          have h332 := (((gF2_8.ext x22).ext x23).ext x24).ext x25
          have h333 := Ext.trans (Ext.trans (Ext.trans (Ext.trans x0_8 x22) x23) x24) x25
          have h334 := (((gb1_8.ext x22).ext x23).ext x24).ext x25
          have h335 := (((g0_8.ext x22).ext x23).ext x24).ext x25
          exact NW.J fun a ha => ⟨true, ha.sub ⟨rfl, rfl, rfl, rfl, rfl, rfl, trivial⟩, by omega, h327, h328, h329, h330, h331, h332, h333, h334, h335, H⟩
        ·
         rw [if_neg c18] at H
         refine RW.bool 141 (b' := true) (not_t (bool_f c18)) rfl ?_
         refine RW.pure tabOk 42 rfl ?_
         refine RW.done ?_
         have h336 := ((gL0_t3_8.ext x22).ext x23).ext x24
         have h337 := ((gF5_8.ext x22).ext x23).ext x24
         have h338 := (h255.ext x23).ext x24
         have h339 := (h256.ext x23).ext x24
         have h340 := ((gF1_8.ext x22).ext x23).ext x24
         have h341 := ((gF2_8.ext x22).ext x23).ext x24
         have h342 := Ext.trans (Ext.trans (Ext.trans x0_8 x22) x23) x24
         have h343 := ((gb1_8.ext x22).ext x23).ext x24
         have h344 := ((g0_8.ext x22).ext x23).ext x24
         exact NW.J fun a ha => ⟨true, ha.sub ⟨rfl, rfl, rfl, rfl, rfl, rfl, trivial⟩, by omega, h336, h337, h338, h339, h340, h341, h342, h343, h344, H⟩
       ·
        rw [if_neg c17] at H
        refine RW.bool 135 (b' := true) (not_t (bool_f c17)) rfl ?_
        refine RW.pure tabOk 48 rfl ?_
        refine RW.done ?_
        have h345 := (gL0_t3_8.ext x22).ext x23
        have h346 := (gF5_8.ext x22).ext x23
        have h347 := h255.ext x23
        have h348 := h256.ext x23
        have h349 := (gF1_8.ext x22).ext x23
        have h350 := (gF2_8.ext x22).ext x23
        have h351 := Ext.trans (Ext.trans x0_8 x22) x23
        have h352 := (gb1_8.ext x22).ext x23
        have h353 := (g0_8.ext x22).ext x23
        exact NW.J fun a ha => ⟨true, ha.sub ⟨rfl, rfl, rfl, rfl, rfl, rfl, trivial⟩, by omega, h345, h346, h347, h348, h349, h350, h351, h352, h353, H⟩
      ·
       rw [if_neg c16] at H
       refine RW.bool 129 (b' := true) (bne_t c16) rfl ?_
       refine RW.pure tabOk 54 rfl ?_
       refine RW.done ?_
       have h354 := gL0_t3_8.ext x22
       have h355 := gF5_8.ext x22
       have h356 := gL3_t10_8.ext x22
       have h357 := gL3_t11_8.ext x22
       have h358 := gF1_8.ext x22
       have h359 := gF2_8.ext x22
       have h360 := Ext.trans x0_8 x22
       have h361 := gb1_8.ext x22
       have h362 := g0_8.ext x22
       exact NW.J fun a ha => ⟨true, ha.sub ⟨rfl, rfl, rfl, rfl, rfl, rfl, trivial⟩, by omega, h354, h355, h356, h357, h358, h359, h360, h361, h362, H⟩
     intro a w31 hJ hp
     obtain ⟨bt183_9, hS, hle, gL0_t3_9, gF5_9, gL3_t10_9, gL3_t11_9, gF1_9, gF2_9, x0_9, gb1_9, g0_9, H⟩ := hJ
     unfold hermitagelaw7_RoomExact.j8 at H
     refine CW.go hp hS ?_
     by_cases c25 : bt183_9 = true
     ·
      rw [if_pos c25] at H
      refine CW.cond_t rfl (c25) ?_
      refine CW.seq ?_
      refine CW.lex [.W, .W, .W] rfl ?_
      refine RW.pure tabOk 3 rfl ?_
      refine RW.done ?_
      refine NW.next ?_
      refine CW.ret ?_
      refine NW.ret_then ?_
      exact NW.ret2 rfl (by rfl) (by rfl) ⟨lt3_0, At3_0, ct3_0, false, rfl, by omega, (gL0_t3_9.sub ⟨(.inl ⟨by omega, by omega, rfl⟩), trivial⟩ ⟨(.inl ⟨by omega, trivial, rfl⟩), trivial⟩), gF1_9, gF2_9, x0_9, gb1_9, g0_9, H⟩
     ·
      rw [if_neg c25] at H
      refine CW.cond_f rfl (bool_f c25) ?_
      refine CW.skip ?_
      refine NW.next ?_
      refine CW.seq ?_
      refine CW.lex [.W, .M] rfl ?_
      refine RW.pure tabOk 1 rfl ?_
      have h363 := Ow.conv (d := kDeviceO) (d' := kDeviceH) rfl kDeviceH_conv gL3_t10_9
      refine RW.callFM (R := fun e w41 => e = .returned (.tuple #[]) ∧ w31.heap.size ≤ w41.heap.size ∧ Ow kDeviceO 84 w41.heap (okL [(w2.heap.size, some w4.heap.size, some 84)]) (okL [(w2.heap.size, some w4.heap.size, some 93)]) At3_0 ct3_0 lt3_0 ∧ Ow kDeviceO 84 w41.heap (okL [(w8.heap.size, some w9.heap.size, some 84)]) (okL [(w8.heap.size, some w9.heap.size, some 93)]) A5 c_5 y3 ∧ Ow kDeviceO 84 w41.heap (okL [(mid1_3, some w12.heap.size, some 84)]) (okL [(mid1_3, some w12.heap.size, some 93)]) At11_3 ct11_3 lt11_3 ∧ Sl kDeviceR w41.heap (okL [(0, some w.heap.size, none)]) A1 p0.L ∧ Sl kActR w41.heap (okL [(0, some w.heap.size, none)]) A2 p0.A ∧ Ext w w41 ∧ Box w41.heap b1 59 [.slice A1 p0.L.length c_1, .slice A2 p0.A.length c_2] ∧ Box w41.heap 0 gT (arrI .u8 64 tz) ∧ hermitagelaw7_RoomExact.j9 k lt3_0 it4_0 y3 it9_3 lt11_3 (hermitagelaw7_RoomExact.l0 p0 k n1) = some r) ent116 ⟨rfl, rfl, rfl, rfl⟩ rfl rfl rfl ?_ ?_
      ·
       refine calls_start Tryd.func116 rfl 25 rfl [.slice At10_3 lt10_3.length ct10_3] rfl ?_
       refine CW.seq ?_
       refine CW.lex [.W] rfl ?_
       refine RW.pure tabOk 1 rfl ?_
       refine RW.done ?_
       refine NW.next ?_
       refine CW.block ?_
       refine CW.loop (fun n2 a w42 => ∃ (lt0_11 : List Device) (it2_11 : Int), Sat 25 [(0, .slice At10_3 lt0_11.length ct10_3), (2, .int .i64 it2_11)] a ∧ w31.heap.size ≤ w42.heap.size ∧ Ow kDeviceH 84 w42.heap (okL [(w11.heap.size, some mid1_3, some 84)]) (okL [(w11.heap.size, some mid1_3, some 93)]) At10_3 ct10_3 lt0_11 ∧ Sl kDeviceR w42.heap (okL [(0, some w.heap.size, none)]) A1 p0.L ∧ Sl kActR w42.heap (okL [(0, some w.heap.size, none)]) A2 p0.A ∧ Ow kDeviceO 84 w42.heap (okL [(w2.heap.size, some w4.heap.size, some 84)]) (okL [(w2.heap.size, some w4.heap.size, some 93)]) At3_0 ct3_0 lt3_0 ∧ Ow kDeviceO 84 w42.heap (okL [(w8.heap.size, some w9.heap.size, some 84)]) (okL [(w8.heap.size, some w9.heap.size, some 93)]) A5 c_5 y3 ∧ Ow kDeviceO 84 w42.heap (okL [(mid1_3, some w12.heap.size, some 84)]) (okL [(mid1_3, some w12.heap.size, some 93)]) At11_3 ct11_3 lt11_3 ∧ Ext w w42 ∧ lt0_11.length = lt10_3.length ∧ Box w42.heap b1 59 [.slice A1 p0.L.length c_1, .slice A2 p0.A.length c_2] ∧ Box w42.heap 0 gT (arrI .u8 64 tz) ∧ hermitagelaw7_RoomExact.l1 k lt3_0 it4_0 y3 it9_3 lt11_3 (hermitagelaw7_RoomExact.l0 p0 k n1) n2 lt0_11 it2_11 = some r) k ?_ ?_
       · exact fun a ha => ⟨lt10_3, 0, ha.sub ⟨rfl, rfl, trivial⟩, by omega, (h363.sub ⟨(.inl ⟨by omega, by omega, rfl⟩), trivial⟩ ⟨(.inl ⟨by omega, by omega, rfl⟩), trivial⟩), gF1_9, gF2_9, gL0_t3_9, gF5_9, gL3_t11_9, x0_9, (by (try simp only [List.length_set]) <;> omega), gb1_9, g0_9, H⟩
       intro n2 a w42 hI hp
       obtain ⟨lt0_11, it2_11, hS, hle, ft0_11, gF1_11, gF2_11, gL0_t3_11, gF5_11, gL3_t11_11, x0_11, ln_lt0_11, gb1_11, g0_11, H⟩ := hI
       cases n2 with
       | zero => cases H
       | succ n2 =>
        rw [hermitagelaw7_RoomExact.l1] at H
        refine CW.go hp hS ?_
        refine CW.seq ?_
        refine CW.seq ?_
        refine CW.lex [.W, .W, .W, .W] rfl ?_
        refine RW.pure tabOk 4 rfl ?_
        refine RW.done ?_
        refine NW.next ?_
        by_cases c26 : it2_11 < (lt0_11.length : Int)
        ·
         rw [if_pos c26] at H
         refine CW.cond_t rfl (decide_eq_true c26) ?_
         refine CW.skip ?_
         refine NW.next ?_
         refine CW.seq ?_
         refine CW.block ?_
         refine CW.seq ?_
         refine CW.lex [.W, .W, .W, .W, .L, .M] rfl ?_
         refine RW.pure tabOk 2 rfl ?_
         obtain ⟨g3, H⟩ := guard_some H
         obtain ⟨ad3, A17, c_17, A18, c_18, e3, a3, h364, h365⟩ := kDeviceH_ato ft0_11 g3.1 g3.2
         refine RW.index tabOk g3.1 g3.2 e3 ⟨rfl, rfl, rfl, rfl⟩ rfl rfl rfl rfl rfl rfl ?_
         refine RW.pure tabOk 1 rfl ?_
         refine RW.load tabOk [.slice A17 ((rd lt0_11 it2_11).Free).length c_17] ((a3.fld 2).take 1 rfl) ⟨rfl, rfl, rfl, rfl⟩ rfl rfl rfl rfl ?_
         refine RW.callFM (R := fun e w43 => e = .returned (.tuple #[]) ∧ w42.heap.size ≤ w43.heap.size ∧ Ow kDeviceH 84 w43.heap (okL [(w11.heap.size, some mid1_3, some 84)]) (okL [(w11.heap.size, some mid1_3, some 93)]) At10_3 ct10_3 lt0_11 ∧ Sl kDeviceR w43.heap (okL [(0, some w.heap.size, none)]) A1 p0.L ∧ Sl kActR w43.heap (okL [(0, some w.heap.size, none)]) A2 p0.A ∧ Ow kDeviceO 84 w43.heap (okL [(w2.heap.size, some w4.heap.size, some 84)]) (okL [(w2.heap.size, some w4.heap.size, some 93)]) At3_0 ct3_0 lt3_0 ∧ Ow kDeviceO 84 w43.heap (okL [(w8.heap.size, some w9.heap.size, some 84)]) (okL [(w8.heap.size, some w9.heap.size, some 93)]) A5 c_5 y3 ∧ Ow kDeviceO 84 w43.heap (okL [(mid1_3, some w12.heap.size, some 84)]) (okL [(mid1_3, some w12.heap.size, some 93)]) At11_3 ct11_3 lt11_3 ∧ Ext w w43 ∧ Box w43.heap b1 59 [.slice A1 p0.L.length c_1, .slice A2 p0.A.length c_2] ∧ Box w43.heap 0 gT (arrI .u8 64 tz) ∧ hermitagelaw7_RoomExact.j10 k it2_11 lt0_11 (hermitagelaw7_RoomExact.l1 k lt3_0 it4_0 y3 it9_3 lt11_3 (hermitagelaw7_RoomExact.l0 p0 k n1) n2) = some r) ent21 ⟨rfl, rfl, rfl, rfl⟩ rfl rfl rfl ?_ ?_
         ·
          refine calls_start Tryd.func21 rfl 13 rfl [.slice A17 ((rd lt0_11 it2_11).Free).length c_17] rfl ?_
          refine CW.seq ?_
          refine CW.lex [.W] rfl ?_
          refine RW.pure tabOk 1 rfl ?_
          refine RW.done ?_
          refine NW.next ?_
          refine CW.block ?_
          refine CW.loop (fun n3 a w44 => ∃ (lt0_13 : List Seg) (it2_13 : Int), Sat 13 [(0, .slice A17 lt0_13.length c_17), (2, .int .i64 it2_13)] a ∧ w42.heap.size ≤ w44.heap.size ∧ Ow (Kd.any Seg 1) 93 w44.heap (okL [(w11.heap.size, some mid1_3, some 93)]) (okL [(w11.heap.size, some mid1_3, some 93)]) A17 c_17 lt0_13 ∧ Sl kDeviceR w44.heap (okL [(0, some w.heap.size, none)]) A1 p0.L ∧ Sl kActR w44.heap (okL [(0, some w.heap.size, none)]) A2 p0.A ∧ Ow kDeviceO 84 w44.heap (okL [(w2.heap.size, some w4.heap.size, some 84)]) (okL [(w2.heap.size, some w4.heap.size, some 93)]) At3_0 ct3_0 lt3_0 ∧ Ow kDeviceO 84 w44.heap (okL [(w8.heap.size, some w9.heap.size, some 84)]) (okL [(w8.heap.size, some w9.heap.size, some 93)]) A5 c_5 y3 ∧ Ow kDeviceO 84 w44.heap (okL [(mid1_3, some w12.heap.size, some 84)]) (okL [(mid1_3, some w12.heap.size, some 93)]) At11_3 ct11_3 lt11_3 ∧ Ow kDeviceH 84 w44.heap (okL [(w11.heap.size, some mid1_3, some 84)]) (okL [(w11.heap.size, some mid1_3, some 93)]) At10_3 ct10_3 lt0_11 ∧ Ext w w44 ∧ lt0_13.length = ((rd lt0_11 it2_11).Free).length ∧ Box w44.heap b1 59 [.slice A1 p0.L.length c_1, .slice A2 p0.A.length c_2] ∧ Box w44.heap 0 gT (arrI .u8 64 tz) ∧ hermitagelaw7_RoomExact.l2 k it2_11 lt0_11 (hermitagelaw7_RoomExact.l1 k lt3_0 it4_0 y3 it9_3 lt11_3 (hermitagelaw7_RoomExact.l0 p0 k n1) n2) n3 lt0_13 it2_13 = some r) k ?_ ?_
          · exact fun a ha => ⟨((rd lt0_11 it2_11).Free), 0, ha.sub ⟨rfl, rfl, trivial⟩, by omega, (h364.sub ⟨(.inl ⟨by omega, by omega, rfl⟩), trivial⟩ ⟨(.inl ⟨by omega, by omega, rfl⟩), trivial⟩), gF1_11, gF2_11, gL0_t3_11, gF5_11, gL3_t11_11, ft0_11, x0_11, (by (try simp only [List.length_set]) <;> omega), gb1_11, g0_11, H⟩
          intro n3 a w44 hI hp
          obtain ⟨lt0_13, it2_13, hS, hle, ft0_13, gF1_13, gF2_13, gL0_t3_13, gF5_13, gL3_t11_13, gL11_t0_13, x0_13, ln_lt0_13, gb1_13, g0_13, H⟩ := hI
          cases n3 with
          | zero => cases H
          | succ n3 =>
           rw [hermitagelaw7_RoomExact.l2] at H
           refine CW.go hp hS ?_
           refine CW.seq ?_
           refine CW.seq ?_
           refine CW.lex [.W, .W, .W, .W] rfl ?_
           refine RW.pure tabOk 4 rfl ?_
           refine RW.done ?_
           refine NW.next ?_
           by_cases c27 : it2_13 < (lt0_13.length : Int)
           ·
            rw [if_pos c27] at H
            refine CW.cond_t rfl (decide_eq_true c27) ?_
            refine CW.skip ?_
            refine NW.next ?_
            refine CW.seq ?_
            refine CW.block ?_
            refine CW.lex [.W, .W, .W, .W, .M] rfl ?_
            refine RW.pure tabOk 3 rfl ?_
            obtain ⟨g4, H⟩ := guard_some H
            obtain ⟨ad4, _, e4, _, a4⟩ := ft0_13.at_ g4.1 g4.2 default
            refine RW.index tabOk g4.1 g4.2 e4 ⟨rfl, rfl, rfl, rfl⟩ rfl rfl rfl rfl rfl rfl ?_
            refine RW.storeElY0 (y := (⟨(-9), 0⟩ : Seg)) (lv := []) tabOk ft0_13 (j := it2_13.toNat) (by have := g4; omega) default [.int .i64 (-9), .int .i64 0] (fun cs ok' hr => Kd.any_lay hr (Nat.le_of_ble_eq_true rfl) rfl) trivial ⟨rfl, rfl, rfl⟩ rfl rfl e4 rfl rfl rfl rfl rfl ?_
            rintro w45 x31 ⟨_, s1⟩ h366
            have sx31 := x31.size
            have h367 := h366.sub (l' := [(w11.heap.size, some mid1_3, some 93)]) (li' := [(w11.heap.size, some mid1_3, some 93)]) ⟨(.inl ⟨by omega, by omega, rfl⟩), trivial⟩ ⟨(.inl ⟨by omega, by omega, rfl⟩), trivial⟩
            refine RW.tell 0 (v' := .slice A17 (lt0_13.set it2_13.toNat (⟨(-9), 0⟩ : Seg)).length c_17) (by simp only [List.length_set]) rfl ?_
            refine RW.done ?_
            refine NW.norm_block (NW.next ?_)
            refine CW.lex [.W, .W, .W] rfl ?_
            refine RW.pure tabOk 3 rfl ?_
            refine RW.done ?_
            have h368 := gF1_13.turnL x31 ⟨⟨.inr (.inl (by omega)), trivial⟩, trivial⟩
            have h369 := gF2_13.turnL x31 ⟨⟨.inr (.inl (by omega)), trivial⟩, trivial⟩
            have h370 := gL0_t3_13.turnL x31 ⟨⟨.inl (show (84 : Nat) ≠ 93 by decide), trivial⟩, trivial⟩ ⟨⟨.inr (.inl (by omega)), trivial⟩, trivial⟩
            have h371 := gF5_13.turnL x31 ⟨⟨.inl (show (84 : Nat) ≠ 93 by decide), trivial⟩, trivial⟩ ⟨⟨.inr (.inl (by omega)), trivial⟩, trivial⟩
            have h372 := gL3_t11_13.turnL x31 ⟨⟨.inl (show (84 : Nat) ≠ 93 by decide), trivial⟩, trivial⟩ ⟨⟨.inr (.inr (by omega)), trivial⟩, trivial⟩
            have h373 := gL11_t0_13.kept s1 (by decide) (kDeviceH_kept s1)
            have h374 := Ext.turn x0_13 x31 ⟨by omega, trivial⟩
            have h375 := gb1_13.turnL x31 (.inl (by decide))
            have h376 := g0_13.turnL x31 (.inr ⟨⟨.inr (.inl (by omega)), trivial⟩, trivial⟩)
            exact NW.J fun a ha => ⟨n3, Nat.lt_succ_self n3, (lt0_13.set it2_13.toNat (⟨(-9), 0⟩ : Seg)), (w64 (it2_13 + 1)), ha.sub ⟨rfl, rfl, trivial⟩, by omega, (h367.sub ⟨(.inl ⟨by omega, by omega, rfl⟩), trivial⟩ ⟨(.inl ⟨by omega, by omega, rfl⟩), trivial⟩), h368, h369, h370, h371, h372, h373, h374, (by (try simp only [List.length_set]) <;> omega), h375, h376, H⟩
           ·
            rw [if_neg c27] at H
            refine CW.cond_f rfl (decide_eq_false c27) ?_
            refine CW.exit ?_
            refine NW.exit_then (NW.exit_then (NW.exit_hit ?_))
            refine NW.end_ ?_
            exact NW.ret0 rfl ⟨rfl, by omega, gL11_t0_13, gF1_13, gF2_13, gL0_t3_13, gF5_13, gL3_t11_13, x0_13, gb1_13, g0_13, H⟩
         rintro _ w43 ⟨rfl, hle, gL11_t0_12, gF1_12, gF2_12, gL0_t3_12, gF5_12, gL3_t11_12, x0_12, gb1_12, g0_12, H⟩
         refine ⟨_, rfl, ?_⟩
         unfold hermitagelaw7_RoomExact.j10 at H
         refine RW.done ?_
         refine NW.next ?_
         refine CW.seq ?_
         refine CW.lex [.W, .W, .W, .W, .L, .M] rfl ?_
         refine RW.pure tabOk 2 rfl ?_
         obtain ⟨g5, H⟩ := guard_some H
         obtain ⟨ad5, A19, c_19, A20, c_20, e5, a5, h377, h378⟩ := kDeviceH_ato gL11_t0_12 g5.1 g5.2
         refine RW.index tabOk g5.1 g5.2 e5 ⟨rfl, rfl, rfl, rfl⟩ rfl rfl rfl rfl rfl rfl ?_
         refine RW.pure tabOk 1 rfl ?_
         refine RW.load tabOk [.slice A20 ((rd lt0_11 it2_11).Late).length c_20] (a5.fld 3) ⟨rfl, rfl, rfl, rfl⟩ rfl rfl rfl rfl ?_
         refine RW.callFM (R := fun e w46 => e = .returned (.tuple #[]) ∧ w43.heap.size ≤ w46.heap.size ∧ Ow kDeviceH 84 w46.heap (okL [(w11.heap.size, some mid1_3, some 84)]) (okL [(w11.heap.size, some mid1_3, some 93)]) At10_3 ct10_3 lt0_11 ∧ Sl kDeviceR w46.heap (okL [(0, some w.heap.size, none)]) A1 p0.L ∧ Sl kActR w46.heap (okL [(0, some w.heap.size, none)]) A2 p0.A ∧ Ow kDeviceO 84 w46.heap (okL [(w2.heap.size, some w4.heap.size, some 84)]) (okL [(w2.heap.size, some w4.heap.size, some 93)]) At3_0 ct3_0 lt3_0 ∧ Ow kDeviceO 84 w46.heap (okL [(w8.heap.size, some w9.heap.size, some 84)]) (okL [(w8.heap.size, some w9.heap.size, some 93)]) A5 c_5 y3 ∧ Ow kDeviceO 84 w46.heap (okL [(mid1_3, some w12.heap.size, some 84)]) (okL [(mid1_3, some w12.heap.size, some 93)]) At11_3 ct11_3 lt11_3 ∧ Ext w w46 ∧ Box w46.heap b1 59 [.slice A1 p0.L.length c_1, .slice A2 p0.A.length c_2] ∧ Box w46.heap 0 gT (arrI .u8 64 tz) ∧ hermitagelaw7_RoomExact.j11 it2_11 lt0_11 (hermitagelaw7_RoomExact.l1 k lt3_0 it4_0 y3 it9_3 lt11_3 (hermitagelaw7_RoomExact.l0 p0 k n1) n2) = some r) ent21 ⟨rfl, rfl, rfl, rfl⟩ rfl rfl rfl ?_ ?_
         ·
          refine calls_start Tryd.func21 rfl 13 rfl [.slice A20 ((rd lt0_11 it2_11).Late).length c_20] rfl ?_
          refine CW.seq ?_
          refine CW.lex [.W] rfl ?_
          refine RW.pure tabOk 1 rfl ?_
          refine RW.done ?_
          refine NW.next ?_
          refine CW.block ?_
          refine CW.loop (fun n4 a w47 => ∃ (lt0_15 : List Seg) (it2_15 : Int), Sat 13 [(0, .slice A20 lt0_15.length c_20), (2, .int .i64 it2_15)] a ∧ w43.heap.size ≤ w47.heap.size ∧ Ow (Kd.any Seg 1) 93 w47.heap (okL [(w11.heap.size, some mid1_3, some 93)]) (okL [(w11.heap.size, some mid1_3, some 93)]) A20 c_20 lt0_15 ∧ Sl kDeviceR w47.heap (okL [(0, some w.heap.size, none)]) A1 p0.L ∧ Sl kActR w47.heap (okL [(0, some w.heap.size, none)]) A2 p0.A ∧ Ow kDeviceO 84 w47.heap (okL [(w2.heap.size, some w4.heap.size, some 84)]) (okL [(w2.heap.size, some w4.heap.size, some 93)]) At3_0 ct3_0 lt3_0 ∧ Ow kDeviceO 84 w47.heap (okL [(w8.heap.size, some w9.heap.size, some 84)]) (okL [(w8.heap.size, some w9.heap.size, some 93)]) A5 c_5 y3 ∧ Ow kDeviceO 84 w47.heap (okL [(mid1_3, some w12.heap.size, some 84)]) (okL [(mid1_3, some w12.heap.size, some 93)]) At11_3 ct11_3 lt11_3 ∧ Ow kDeviceH 84 w47.heap (okL [(w11.heap.size, some mid1_3, some 84)]) (okL [(w11.heap.size, some mid1_3, some 93)]) At10_3 ct10_3 lt0_11 ∧ Ext w w47 ∧ lt0_15.length = ((rd lt0_11 it2_11).Late).length ∧ Box w47.heap b1 59 [.slice A1 p0.L.length c_1, .slice A2 p0.A.length c_2] ∧ Box w47.heap 0 gT (arrI .u8 64 tz) ∧ hermitagelaw7_RoomExact.l3 it2_11 lt0_11 (hermitagelaw7_RoomExact.l1 k lt3_0 it4_0 y3 it9_3 lt11_3 (hermitagelaw7_RoomExact.l0 p0 k n1) n2) n4 lt0_15 it2_15 = some r) k ?_ ?_
          · exact fun a ha => ⟨((rd lt0_11 it2_11).Late), 0, ha.sub ⟨rfl, rfl, trivial⟩, by omega, (h378.sub ⟨(.inl ⟨by omega, by omega, rfl⟩), trivial⟩ ⟨(.inl ⟨by omega, by omega, rfl⟩), trivial⟩), gF1_12, gF2_12, gL0_t3_12, gF5_12, gL3_t11_12, gL11_t0_12, x0_12, (by (try simp only [List.length_set]) <;> omega), gb1_12, g0_12, H⟩
          intro n4 a w47 hI hp
          obtain ⟨lt0_15, it2_15, hS, hle, ft0_15, gF1_15, gF2_15, gL0_t3_15, gF5_15, gL3_t11_15, gL11_t0_15, x0_15, ln_lt0_15, gb1_15, g0_15, H⟩ := hI
          cases n4 with
          | zero => cases H
          | succ n4 =>
           rw [hermitagelaw7_RoomExact.l3] at H
           refine CW.go hp hS ?_
           refine CW.seq ?_
           refine CW.seq ?_
           refine CW.lex [.W, .W, .W, .W] rfl ?_
           refine RW.pure tabOk 4 rfl ?_
           refine RW.done ?_
           refine NW.next ?_
           by_cases c28 : it2_15 < (lt0_15.length : Int)
           ·
            rw [if_pos c28] at H
            refine CW.cond_t rfl (decide_eq_true c28) ?_
            refine CW.skip ?_
            refine NW.next ?_
            refine CW.seq ?_
            refine CW.block ?_
            refine CW.lex [.W, .W, .W, .W, .M] rfl ?_
            refine RW.pure tabOk 3 rfl ?_
            obtain ⟨g6, H⟩ := guard_some H
            obtain ⟨ad6, _, e6, _, a6⟩ := ft0_15.at_ g6.1 g6.2 default
            refine RW.index tabOk g6.1 g6.2 e6 ⟨rfl, rfl, rfl, rfl⟩ rfl rfl rfl rfl rfl rfl ?_
            refine RW.storeElY0 (y := (⟨(-9), 0⟩ : Seg)) (lv := []) tabOk ft0_15 (j := it2_15.toNat) (by have := g6; omega) default [.int .i64 (-9), .int .i64 0] (fun cs ok' hr => Kd.any_lay hr (Nat.le_of_ble_eq_true rfl) rfl) trivial ⟨rfl, rfl, rfl⟩ rfl rfl e6 rfl rfl rfl rfl rfl ?_
            rintro w48 x32 ⟨_, s2⟩ h379
            have sx32 := x32.size
            have h380 := h379.sub (l' := [(w11.heap.size, some mid1_3, some 93)]) (li' := [(w11.heap.size, some mid1_3, some 93)]) ⟨(.inl ⟨by omega, by omega, rfl⟩), trivial⟩ ⟨(.inl ⟨by omega, by omega, rfl⟩), trivial⟩
            refine RW.tell 0 (v' := .slice A20 (lt0_15.set it2_15.toNat (⟨(-9), 0⟩ : Seg)).length c_20) (by simp only [List.length_set]) rfl ?_
            refine RW.done ?_
            refine NW.norm_block (NW.next ?_)
            refine CW.lex [.W, .W, .W] rfl ?_
            refine RW.pure tabOk 3 rfl ?_
            refine RW.done ?_
            have h381 := gF1_15.turnL x32 ⟨⟨.inr (.inl (by omega)), trivial⟩, trivial⟩
            have h382 := gF2_15.turnL x32 ⟨⟨.inr (.inl (by omega)), trivial⟩, trivial⟩
            have h383 := gL0_t3_15.turnL x32 ⟨⟨.inl (show (84 : Nat) ≠ 93 by decide), trivial⟩, trivial⟩ ⟨⟨.inr (.inl (by omega)), trivial⟩, trivial⟩
            have h384 := gF5_15.turnL x32 ⟨⟨.inl (show (84 : Nat) ≠ 93 by decide), trivial⟩, trivial⟩ ⟨⟨.inr (.inl (by omega)), trivial⟩, trivial⟩
            have h385 := gL3_t11_15.turnL x32 ⟨⟨.inl (show (84 : Nat) ≠ 93 by decide), trivial⟩, trivial⟩ ⟨⟨.inr (.inr (by omega)), trivial⟩, trivial⟩
            have h386 := gL11_t0_15.kept s2 (by decide) (kDeviceH_kept s2)
            have h387 := Ext.turn x0_15 x32 ⟨by omega, trivial⟩
            have h388 := gb1_15.turnL x32 (.inl (by decide))
            have h389 := g0_15.turnL x32 (.inr ⟨⟨.inr (.inl (by omega)), trivial⟩, trivial⟩)
            exact NW.J fun a ha => ⟨n4, Nat.lt_succ_self n4, (lt0_15.set it2_15.toNat (⟨(-9), 0⟩ : Seg)), (w64 (it2_15 + 1)), ha.sub ⟨rfl, rfl, trivial⟩, by omega, (h380.sub ⟨(.inl ⟨by omega, by omega, rfl⟩), trivial⟩ ⟨(.inl ⟨by omega, by omega, rfl⟩), trivial⟩), h381, h382, h383, h384, h385, h386, h387, (by (try simp only [List.length_set]) <;> omega), h388, h389, H⟩
           ·
            rw [if_neg c28] at H
            refine CW.cond_f rfl (decide_eq_false c28) ?_
            refine CW.exit ?_
            refine NW.exit_then (NW.exit_then (NW.exit_hit ?_))
            refine NW.end_ ?_
            exact NW.ret0 rfl ⟨rfl, by omega, gL11_t0_15, gF1_15, gF2_15, gL0_t3_15, gF5_15, gL3_t11_15, x0_15, gb1_15, g0_15, H⟩
         rintro _ w46 ⟨rfl, hle, gL11_t0_14, gF1_14, gF2_14, gL0_t3_14, gF5_14, gL3_t11_14, x0_14, gb1_14, g0_14, H⟩
         refine ⟨_, rfl, ?_⟩
         unfold hermitagelaw7_RoomExact.j11 at H
         refine RW.done ?_
         refine NW.next ?_
         refine CW.lex [.W, .W, .W, .W, .M] rfl ?_
         refine RW.pure tabOk 3 rfl ?_
         obtain ⟨g7, H⟩ := guard_some H
         obtain ⟨ad7, A21, c_21, A22, c_22, e7, a7, h390, h391⟩ := kDeviceH_ato gL11_t0_14 g7.1 g7.2
         refine RW.index tabOk g7.1 g7.2 e7 ⟨rfl, rfl, rfl, rfl⟩ rfl rfl rfl rfl rfl rfl ?_
         refine RW.storeElL0 (y := (⟨(-9), 0, ([] : List Seg), ([] : List Seg)⟩ : Device)) (lv := []) tabOk gL11_t0_14 (j := it2_11.toNat) (by have := g7; omega) default [.int .i64 (-9), .int .i64 0, .slice none 0 0, .slice none 0 0] (fun cs ok' hr => by obtain ⟨qa1, qc1, qa2, qc2, rfl, q1, q2⟩ := kDeviceH_open hr; exact ⟨by simp, kDeviceH_mk (⟨(-9), 0, ([] : List Seg), ([] : List Seg)⟩ : Device) Ow.nil Ow.nil⟩) trivial ⟨rfl, rfl, rfl⟩ rfl rfl e7 rfl rfl rfl rfl rfl ?_
         intro w49 x33 h392
         have sx33 := x33.size
         have h393 := h392.sub (l' := [(w11.heap.size, some mid1_3, some 84)]) (li' := [(w11.heap.size, some mid1_3, some 93)]) ⟨(.inl ⟨by omega, by omega, rfl⟩), trivial⟩ ⟨(.inl ⟨by omega, by omega, rfl⟩), trivial⟩
         refine RW.tell 0 (v' := .slice At10_3 (lt0_11.set it2_11.toNat (⟨(-9), 0, ([] : List Seg), ([] : List Seg)⟩ : Device)).length ct10_3) (by simp only [List.length_set]) rfl ?_
         refine RW.done ?_
         refine NW.norm_block (NW.next ?_)
         refine CW.lex [.W, .W, .W] rfl ?_
         refine RW.pure tabOk 3 rfl ?_
         refine RW.done ?_
         have h394 := gF1_14.turnL x33 ⟨⟨.inr (.inl (by omega)), trivial⟩, trivial⟩
         have h395 := gF2_14.turnL x33 ⟨⟨.inr (.inl (by omega)), trivial⟩, trivial⟩
         have h396 := gL0_t3_14.turnL x33 ⟨⟨.inr (.inl (by omega)), trivial⟩, trivial⟩ ⟨⟨.inl (show (93 : Nat) ≠ 84 by decide), trivial⟩, trivial⟩
         have h397 := gF5_14.turnL x33 ⟨⟨.inr (.inl (by omega)), trivial⟩, trivial⟩ ⟨⟨.inl (show (93 : Nat) ≠ 84 by decide), trivial⟩, trivial⟩
         have h398 := gL3_t11_14.turnL x33 ⟨⟨.inr (.inr (by omega)), trivial⟩, trivial⟩ ⟨⟨.inl (show (93 : Nat) ≠ 84 by decide), trivial⟩, trivial⟩
         have h399 := Ext.turn x0_14 x33 ⟨by omega, trivial⟩
         have h400 := gb1_14.turnL x33 (.inl (by decide))
         have h401 := g0_14.turnL x33 (.inr ⟨⟨.inr (.inl (by omega)), trivial⟩, trivial⟩)
         exact NW.J fun a ha => ⟨n2, Nat.lt_succ_self n2, (lt0_11.set it2_11.toNat (⟨(-9), 0, ([] : List Seg), ([] : List Seg)⟩ : Device)), (w64 (it2_11 + 1)), ha.sub ⟨rfl, rfl, trivial⟩, by omega, (h393.sub ⟨(.inl ⟨by omega, by omega, rfl⟩), trivial⟩ ⟨(.inl ⟨by omega, by omega, rfl⟩), trivial⟩), h394, h395, h396, h397, h398, h399, (by (try simp only [List.length_set]) <;> omega), h400, h401, H⟩
        ·
         rw [if_neg c26] at H
         refine CW.cond_f rfl (decide_eq_false c26) ?_
         refine CW.exit ?_
         refine NW.exit_then (NW.exit_then (NW.exit_hit ?_))
         refine NW.end_ ?_
         exact NW.ret0 rfl ⟨rfl, by omega, gL0_t3_11, gF5_11, gL3_t11_11, gF1_11, gF2_11, x0_11, gb1_11, g0_11, H⟩
      rintro _ w41 ⟨rfl, hle, gL0_t3_10, gF5_10, gL3_t11_10, gF1_10, gF2_10, x0_10, gb1_10, g0_10, H⟩
      refine ⟨_, rfl, ?_⟩
      unfold hermitagelaw7_RoomExact.j9 at H
      refine RW.done ?_
      refine NW.next ?_
      refine CW.seq ?_
      refine CW.seq ?_
      refine CW.lex [.W, .W, .X, .W] rfl ?_
      refine RW.pure tabOk 2 rfl ?_
      obtain ⟨y28, h402, H⟩ := bind_some H
      refine RW.callF (.inl rfl) ent42 ⟨rfl, rfl, rfl, rfl⟩ rfl rfl (hermitageref0_EqDevices.calls k A5 c_5 y3 At3_0 ct3_0 lt3_0 _ _ (gF5_10.all.to kDevice_ro rfl) gF5_10.len (gL0_t3_10.all.to kDevice_ro rfl) gL0_t3_10.len h402) ?_
      rintro _ w50 ⟨rfl, x34⟩
      refine ⟨_, rfl, x34, ?_⟩
      have sx34 := x34.size
      refine RW.pure tabOk 1 rfl ?_
      refine RW.done ?_
      refine NW.next ?_
      by_cases c29 : y28 = true
      ·
       rw [if_pos c29] at H
       refine CW.cond_f rfl (not_f (c29)) ?_
       refine CW.skip ?_
       refine NW.next ?_
       refine CW.seq ?_
       refine CW.seq ?_
       refine CW.lex [.W, .W] rfl ?_
       refine RW.pure tabOk 2 rfl ?_
       refine RW.done ?_
       refine NW.next ?_
       by_cases c30 : it9_3 = 0
       ·
        rw [if_pos c30] at H
        refine CW.cond_f rfl (bne_f c30) ?_
        refine CW.skip ?_
        refine NW.next ?_
        refine CW.seq ?_
        refine CW.lex [.W, .X, .W, .W] rfl ?_
        refine RW.pure tabOk 1 rfl ?_
        have h403 := gL3_t11_10.ext x34
        obtain ⟨y29, h404, H⟩ := bind_some H
        refine RW.callF (.inl rfl) ent88 ⟨rfl, rfl, rfl, rfl⟩ rfl rfl (hermitageref0_CopyDevices.calls k At11_3 ct11_3 lt11_3 _ _ (h403.all.to kDevice_ro rfl) h403.len h404) ?_
        rintro _ w51 ⟨A23, c_23, rfl, x35, h405⟩
        refine ⟨_, rfl, x35, ?_⟩
        have sx35 := x35.size
        have h406 : Ow kDeviceO 84 w51.heap (okL [(w50.heap.size, some w51.heap.size, some 84)]) (okL [(w50.heap.size, some w51.heap.size, some 93)]) A23 c_23 y29 := h405.close
        refine RW.pure tabOk 2 rfl ?_
        refine RW.done ?_
        refine NW.next ?_
        refine CW.ret ?_
        have h407 := (gF1_10.ext x34).ext x35
        have h408 := (gF2_10.ext x34).ext x35
        have h409 := Ext.trans (Ext.trans x0_10 x34) x35
        have h410 := (gb1_10.ext x34).ext x35
        have h411 := (g0_10.ext x34).ext x35
        exact NW.ret2 rfl (by rfl) (by rfl) ⟨y29, A23, c_23, true, rfl, by omega, (h406.sub ⟨(.inr (.inl ⟨by omega, trivial, rfl⟩)), trivial⟩ ⟨(.inl ⟨by omega, trivial, rfl⟩), trivial⟩), h407, h408, h409, h410, h411, H⟩
       ·
        rw [if_neg c30] at H
        refine CW.cond_t rfl (bne_t c30) ?_
        refine CW.seq ?_
        refine CW.lex [.W, .W, .W] rfl ?_
        refine RW.pure tabOk 3 rfl ?_
        refine RW.done ?_
        refine NW.next ?_
        refine CW.ret ?_
        refine NW.ret_then ?_
        have h412 := gL0_t3_10.ext x34
        have h413 := gF1_10.ext x34
        have h414 := gF2_10.ext x34
        have h415 := Ext.trans x0_10 x34
        have h416 := gb1_10.ext x34
        have h417 := g0_10.ext x34
        exact NW.ret2 rfl (by rfl) (by rfl) ⟨lt3_0, At3_0, ct3_0, true, rfl, by omega, (h412.sub ⟨(.inl ⟨by omega, by omega, rfl⟩), trivial⟩ ⟨(.inl ⟨by omega, trivial, rfl⟩), trivial⟩), h413, h414, h415, h416, h417, H⟩
      ·
       rw [if_neg c29] at H
       refine CW.cond_t rfl (not_t (bool_f c29)) ?_
       refine CW.seq ?_
       refine CW.lex [.W, .W, .W] rfl ?_
       refine RW.pure tabOk 3 rfl ?_
       refine RW.done ?_
       refine NW.next ?_
       refine CW.ret ?_
       refine NW.ret_then ?_
       have h418 := gL0_t3_10.ext x34
       have h419 := gF1_10.ext x34
       have h420 := gF2_10.ext x34
       have h421 := Ext.trans x0_10 x34
       have h422 := gb1_10.ext x34
       have h423 := g0_10.ext x34
       exact NW.ret2 rfl (by rfl) (by rfl) ⟨lt3_0, At3_0, ct3_0, false, rfl, by omega, (h418.sub ⟨(.inl ⟨by omega, by omega, rfl⟩), trivial⟩ ⟨(.inl ⟨by omega, trivial, rfl⟩), trivial⟩), h419, h420, h421, h422, h423, H⟩
    rintro _ w6 ⟨lt30_0_2, At30_0_2, ct30_0_2, bt30_1_2, rfl, hle, ft30_0_2, gF1_2, gF2_2, x0_2, gb1_2, g0_2, H⟩
    refine ⟨_, rfl, ?_⟩
    unfold hermitagelaw7_RoomExact.j1 at H
    have h424 : Ow kDeviceO 84 w6.heap (okL [(w2.heap.size, some w4.heap.size, some 84), (w5.heap.size, some w6.heap.size, some 84)]) (okL [(w2.heap.size, some w6.heap.size, some 93)]) At30_0_2 ct30_0_2 lt30_0_2 := ft30_0_2.close
    refine RW.pure tabOk 5 rfl ?_
    refine RW.done ?_
    refine NW.next ?_
    refine CW.seq ?_
    refine CW.seq ?_
    refine CW.lex [.W, .W] rfl ?_
    refine RW.pure tabOk 2 rfl ?_
    refine RW.done ?_
    refine NW.next ?_
    by_cases c31 : bt30_1_2 = true
    ·
     rw [if_pos c31] at H
     refine CW.cond_f rfl (not_f (c31)) ?_
     refine CW.skip ?_
     refine NW.next ?_
     refine CW.lex [.W, .W] rfl ?_
     refine RW.pure tabOk 2 rfl ?_
     refine RW.done ?_
     refine NW.norm_block (NW.next ?_)
     refine CW.lex [.W, .W, .W] rfl ?_
     refine RW.pure tabOk 3 rfl ?_
     refine RW.done ?_
     exact NW.J fun a ha => ⟨n1, Nat.lt_succ_self n1, lt30_0_2, At30_0_2, ct30_0_2, (w64 (it4_0 + 1)), ha.sub ⟨rfl, rfl, rfl, trivial⟩, by omega, (h424.sub ⟨(.inl ⟨by omega, trivial, rfl⟩), ⟨(.inl ⟨by omega, trivial, rfl⟩), trivial⟩⟩ ⟨(.inl ⟨by omega, trivial, rfl⟩), trivial⟩), gF1_2, gF2_2, x0_2, gb1_2, g0_2, H⟩
    ·
     rw [if_neg c31] at H
     refine CW.cond_t rfl (not_t (bool_f c31)) ?_
     refine CW.seq ?_
     refine CW.lex [.W] rfl ?_
     refine RW.pure tabOk 1 rfl ?_
     refine RW.done ?_
     refine NW.next ?_
     refine CW.ret ?_
     refine NW.ret_then (NW.ret_block (NW.ret_then (NW.ret_then (NW.ret_block (NW.ret_then ?_)))))
     obtain rfl := Option.some.inj H
     exact NW.ret1 rfl (by rfl) ⟨rfl, x0_2⟩
   ·
    rw [if_neg c3] at H
    refine CW.cond_f rfl (bool_f c3) ?_
    refine CW.exit ?_
    refine NW.exit_then (NW.exit_then (NW.exit_hit ?_))
    refine NW.next ?_
    refine CW.seq ?_
    refine CW.lex [.X, .W] rfl ?_
    obtain ⟨y30, h425, H⟩ := bind_some H
    refine RW.callF (.inl rfl) ent43 ⟨rfl, rfl, rfl, rfl⟩ rfl rfl (hermitagelaw7_wakes.calls k _ _ g0_1 h425) ?_
    rintro _ w52 ⟨rfl, x36⟩
    refine ⟨_, rfl, x36, ?_⟩
    have sx36 := x36.size
    refine RW.pure tabOk 1 rfl ?_
    refine RW.done ?_
    refine NW.next ?_
    refine CW.ret ?_
    obtain rfl := Option.some.inj H
    have h426 := Ext.trans x0_1 x36
    exact NW.ret1 rfl (by rfl) ⟨rfl, h426⟩

set_option maxHeartbeats 4000000 in
set_option maxRecDepth 100000 in
theorem hermitagelaw7_only.calls (k : Nat) (p0 : Script) (A1 : Option Addr) (c_1 : Nat) (A2 : Option Addr) (c_2 : Nat) (A3 : Option Addr) (c_3 : Nat) (p1 : List Int) (r : Bool) (w : World) (hs1 : Sl kDeviceR w.heap okAll A1 p0.L) (hl1 : p0.L.length ≤ c_1) (hs2 : Sl kActR w.heap okAll A2 p0.A) (hl2 : p0.A.length ≤ c_2) (hs3 : Sl (Kd.int .i64) w.heap okAll A3 p1) (hl3 : p1.length ≤ c_3) {gT : Nat} (hG : Box w.heap 0 gT (arrI .u8 64 tz)) (H : hermitagelaw7_only.f k p0 p1 = some r) :
    Calls Tryd.prog 44 #[.agg #[.slice A1 p0.L.length c_1, .slice A2 p0.A.length c_2], .slice A3 p1.length c_3] w fun e w' => e = .returned (.bool r) ∧ Ext w w' := by
 have h1 : Sl kDeviceR w.heap (okL [(0, some w.heap.size, none)]) A1 p0.L := hs1.old _ rfl
 have h2 : Sl kActR w.heap (okL [(0, some w.heap.size, none)]) A2 p0.A := hs2.old _ rfl
 have h3 : Sl (Kd.int .i64) w.heap (okL [(0, some w.heap.size, none)]) A3 p1 := hs3.old _ rfl
 have hG0 : 0 < w.heap.size := hG.lt
 have x0 : Ext w w := Upd.refl _ w
 unfold hermitagelaw7_only.f at H
 refine calls_start Tryd.func44 rfl 39 rfl [.agg #[.slice A1 p0.L.length c_1, .slice A2 p0.A.length c_2], .slice A3 p1.length c_3] rfl ?_
 refine CW.seq ?_
 refine CW.lex [.X, .W] rfl ?_
 refine RW.box (cs := [.slice A1 p0.L.length c_1, .slice A2 p0.A.length c_2]) (.inl rfl) ⟨rfl, rfl, rfl, rfl⟩ rfl rfl rfl ?_
 intro b1 w1 x1 l1 h4
 have sx1 := x1.size
 have ltb1 := h4.lt
 refine RW.pure tabOk 1 rfl ?_
 refine RW.done ?_
 refine NW.next ?_
 refine CW.seq ?_
 refine CW.lex [.W, .L, .W, .X, .M] rfl ?_
 refine RW.pure tabOk 1 rfl ?_
 refine RW.load tabOk [.slice A1 p0.L.length c_1] ((h4.at 0).take 1 rfl) ⟨rfl, rfl, rfl, rfl⟩ rfl rfl rfl rfl ?_
 refine RW.pure tabOk 1 rfl ?_
 refine RW.alloc tabOk (.inl rfl) ⟨rfl, rfl, rfl, rfl⟩ rfl rfl ?_
 intro b2 w2 x2 l2 h5
 have sx2 := x2.size
 have ltb2 := h5.lt
 refine RW.storeBox tabOk h5 [.slice A1 p0.L.length c_1, .slice none 0 0] ⟨rfl, rfl, rfl⟩ rfl rfl rfl rfl rfl rfl rfl rfl ?_
 intro w3 x3 h6
 have h7 : Box w3.heap b2 59 [.slice A1 p0.L.length c_1, .slice none 0 0] := h6
 have sx3 := x3.size
 refine RW.done ?_
 refine NW.next ?_
 refine CW.seq ?_
 refine CW.seq ?_
 refine CW.lex [.W] rfl ?_
 refine RW.pure tabOk 1 rfl ?_
 refine RW.done ?_
 refine NW.next ?_
 refine CW.block ?_
 refine CW.loop (fun n1 a w4 => ∃ (it6_0 : Int) (lb2_1_0 : List Act) (Ab2_1_0 : Option Addr) (cb2_1_0 : Nat), Sat 39 [(1, .slice A3 p1.length c_3), (2, .pointer (some ⟨b1, 0, none⟩)), (5, .pointer (some ⟨b2, 0, none⟩)), (6, .int .i64 it6_0)] a ∧ w3.heap.size ≤ w4.heap.size ∧ Sl (Kd.int .i64) w4.heap (okL [(0, some w.heap.size, none)]) A3 p1 ∧ Sl kDeviceR w4.heap (okL [(0, some w.heap.size, none)]) A1 p0.L ∧ Sl kActR w4.heap (okL [(0, some w.heap.size, none)]) A2 p0.A ∧ Ow kActR 109 w4.heap (okL [(w3.heap.size, none, some 109)]) (okL [(w3.heap.size, none, some 70), (0, some w.heap.size, none)]) Ab2_1_0 cb2_1_0 lb2_1_0 ∧ Ext w w4 ∧ Box w4.heap b1 59 [.slice A1 p0.L.length c_1, .slice A2 p0.A.length c_2] ∧ Box w4.heap b2 59 [.slice A1 p0.L.length c_1, .slice Ab2_1_0 lb2_1_0.length cb2_1_0] ∧ Box w4.heap 0 gT (arrI .u8 64 tz) ∧ hermitagelaw7_only.l0 p0 p1 k n1 it6_0 lb2_1_0 = some r) k ?_ ?_
 have h8 := ((h3.ext x1).ext x2).turnB x3 h5 ⟨.inr (by omega), trivial⟩
 have h9 := ((h1.ext x1).ext x2).turnB x3 h5 ⟨.inr (by omega), trivial⟩
 have h10 := ((h2.ext x1).ext x2).turnB x3 h5 ⟨.inr (by omega), trivial⟩
 have h11 := Ext.turnB (Ext.trans (Ext.trans x0 x1) x2) x3 (by omega)
 have h12 := (h4.ext x2).turnB x3 (by omega)
 have h13 := ((hG.ext x1).ext x2).turnB x3 (by omega)
 · exact fun a ha => ⟨0, ([] : List Act), none, 0, ha.sub ⟨rfl, rfl, rfl, rfl, trivial⟩, by omega, h8, h9, h10, Ow.nil, h11, h12, h7, h13, H⟩
 intro n1 a w4 hI hp
 obtain ⟨it6_0, lb2_1_0, Ab2_1_0, cb2_1_0, hS, hle, gF3_0, gF1_0, gF2_0, fb2_1_0, x0_0, gb1_0, gb2_0, g0_0, H⟩ := hI
 cases n1 with
 | zero => cases H
 | succ n1 =>
  rw [hermitagelaw7_only.l0] at H
  refine CW.go hp hS ?_
  have h14 : Ow kActR 109 w4.heap (okL [(w3.heap.size, some w4.heap.size, some 109)]) (okL [(w3.heap.size, some w4.heap.size, some 70), (0, some w.heap.size, none)]) Ab2_1_0 cb2_1_0 lb2_1_0 := fb2_1_0.close
  refine CW.seq ?_
  refine CW.seq ?_
  refine CW.lex [.W, .W, .L, .W, .W] rfl ?_
  refine RW.pure tabOk 2 rfl ?_
  refine RW.load tabOk [.slice A2 p0.A.length c_2] (gb1_0.at 1) ⟨rfl, rfl, rfl, rfl⟩ rfl rfl rfl rfl ?_
  refine RW.pure tabOk 2 rfl ?_
  refine RW.done ?_
  refine NW.next ?_
  by_cases c1 : it6_0 < (p0.A.length : Int)
  ·
   rw [if_pos c1] at H
   refine CW.cond_t rfl (decide_eq_true c1) ?_
   refine CW.skip ?_
   refine NW.next ?_
   refine CW.seq ?_
   refine CW.block ?_
   refine CW.seq ?_
   refine CW.lex [.W, .L, .W, .W, .L, .X, .M] rfl ?_
   refine RW.pure tabOk 1 rfl ?_
   refine RW.load tabOk [.slice A2 p0.A.length c_2] (gb1_0.at 1) ⟨rfl, rfl, rfl, rfl⟩ rfl rfl rfl rfl ?_
   refine RW.pure tabOk 1 rfl ?_
   obtain ⟨g1, H⟩ := guard_some H
   obtain ⟨ad1, A4, c_4, e1, a1, l3, h15⟩ := kActR_at gF2_0 g1.1 g1.2
   refine RW.index tabOk g1.1 g1.2 e1 ⟨rfl, rfl, rfl, rfl⟩ rfl rfl rfl rfl rfl rfl ?_
   refine RW.load tabOk [.int .i64 ((rd p0.A it6_0).Do), .int .i64 ((rd p0.A it6_0).N), .int .i64 ((rd p0.A it6_0).Not), .slice A4 ((rd p0.A it6_0).P).length c_4] a1 ⟨rfl, rfl, rfl, rfl⟩ rfl rfl rfl rfl ?_
   refine RW.alloc tabOk (.inl rfl) ⟨rfl, rfl, rfl, rfl⟩ rfl rfl ?_
   intro b3 w5 x4 l4 h16
   have sx4 := x4.size
   have ltb3 := h16.lt
   refine RW.storeBox tabOk h16 [.int .i64 ((rd p0.A it6_0).Do), .int .i64 ((rd p0.A it6_0).N), .int .i64 ((rd p0.A it6_0).Not), .slice A4 ((rd p0.A it6_0).P).length c_4] ⟨rfl, rfl, rfl⟩ rfl rfl rfl rfl rfl rfl rfl rfl ?_
   intro w6 x5 h17
   have h18 : Box w6.heap b3 109 [.int .i64 ((rd p0.A it6_0).Do), .int .i64 ((rd p0.A it6_0).N), .int .i64 ((rd p0.A it6_0).Not), .slice A4 ((rd p0.A it6_0).P).length c_4] := h17
   have sx5 := x5.size
   refine RW.done ?_
   refine NW.next ?_
   refine CW.seq ?_
   refine CW.lex [.W, .W, .W, .W, .W, .W, .L, .W, .M] rfl ?_
   refine RW.pure tabOk 4 rfl ?_
   obtain ⟨g2, H⟩ := guard_some H
   refine RW.div g2 ⟨rfl, rfl, rfl, rfl⟩ rfl rfl rfl rfl ?_
   obtain ⟨g3, H⟩ := guard_some H
   have h19 := (gF3_0.ext x4).turnB x5 h16 ⟨.inr (by omega), trivial⟩
   obtain ⟨ad2, e2, a2⟩ := at_i64 h19 g3.1 g3.2
   refine RW.index tabOk g3.1 g3.2 e2 ⟨rfl, rfl, rfl, rfl⟩ rfl rfl rfl rfl rfl rfl ?_
   refine RW.load tabOk [.int .i64 (rd p1 (it6_0.tmod (p1.length : Int)))] a2 ⟨rfl, rfl, rfl, rfl⟩ rfl rfl rfl rfl ?_
   refine RW.pure tabOk 1 rfl ?_
   refine RW.storeBox tabOk h18 [.int .i64 (rd p1 (it6_0.tmod (p1.length : Int)))] ⟨rfl, rfl, rfl⟩ rfl rfl rfl rfl rfl rfl rfl rfl ?_
   intro w7 x6 h20
   have h21 : Box w7.heap b3 109 [.int .i64 (rd p1 (it6_0.tmod (p1.length : Int))), .int .i64 ((rd p0.A it6_0).N), .int .i64 ((rd p0.A it6_0).Not), .slice A4 ((rd p0.A it6_0).P).length c_4] := h20
   have sx6 := x6.size
   refine RW.done ?_
   refine NW.next ?_
   refine CW.lex [.W, .L, .L, .X, .M, .W, .M] rfl ?_
   refine RW.pure tabOk 1 rfl ?_
   have h22 := ((gb2_0.ext x4).turnB x5 (by omega)).turnB x6 (by omega)
   refine RW.load tabOk [.slice Ab2_1_0 lb2_1_0.length cb2_1_0] (h22.at 1) ⟨rfl, rfl, rfl, rfl⟩ rfl rfl rfl rfl ?_
   refine RW.load tabOk [.int .i64 (rd p1 (it6_0.tmod (p1.length : Int))), .int .i64 ((rd p0.A it6_0).N), .int .i64 ((rd p0.A it6_0).Not), .slice A4 ((rd p0.A it6_0).P).length c_4] (h21.at 0) ⟨rfl, rfl, rfl, rfl⟩ rfl rfl rfl rfl ?_
   refine RW.buildSlice (cs := [.int .i64 (rd p1 (it6_0.tmod (p1.length : Int))), .int .i64 ((rd p0.A it6_0).N), .int .i64 ((rd p0.A it6_0).Not), .slice A4 ((rd p0.A it6_0).P).length c_4]) tabOk (.inl rfl) ⟨rfl, rfl, rfl, rfl⟩ rfl rfl rfl rfl rfl rfl rfl ?_
   intro b4 w8 x7 l5 h23
   have sx7 := x7.size
   have ltb4 := h23.lt
   have h24 := (((h14.ext x4).turnB x5 h16 ⟨.inr (by omega), trivial⟩ ⟨.inl (show (70 : Nat) ≠ 109 by decide), ⟨.inr (by omega), trivial⟩⟩).turnB x6 h18 ⟨.inr (by omega), trivial⟩ ⟨.inl (show (70 : Nat) ≠ 109 by decide), ⟨.inr (by omega), trivial⟩⟩).ext x7
   have h25 := (((h15.ext x4).turnB x5 h16 ⟨.inr (by omega), trivial⟩).turnB x6 h18 ⟨.inr (by omega), trivial⟩).ext x7
   obtain ⟨g4, H⟩ := guard_some H
   refine RW.append1L (d := kActR) (v := (⟨rd p1 (it6_0.tmod (p1.length : Int)), (rd p0.A it6_0).N, (rd p0.A it6_0).Not, (rd p0.A it6_0).P⟩ : Act)) (l := [(w3.heap.size, some w4.heap.size, some 109)]) (li := [(w3.heap.size, some w4.heap.size, some 70), (0, some w.heap.size, none)]) (ly := [(0, some w.heap.size, none)]) (xs := lb2_1_0) tabOk h24 h23 (kActR_mk (⟨rd p1 (it6_0.tmod (p1.length : Int)), (rd p0.A it6_0).N, (rd p0.A it6_0).Not, (rd p0.A it6_0).P⟩ : Act) l3 (Sl.sub (l' := [(0, some w.heap.size, none)]) h25 ⟨(.inl ⟨by omega, by omega, trivial⟩), trivial⟩)) ⟨⟨.inr (.inl (by omega)), trivial⟩, trivial⟩ (by simp only [maxLen]; omega) g4 ⟨rfl, rfl, rfl, rfl⟩ rfl rfl rfl rfl rfl rfl rfl ?_
   intro A5 c_5 w9 x8 h26
   have sx8 := x8.size
   have h27 := h26.close.sub (l' := [(w3.heap.size, some w9.heap.size, some 109)]) (li' := [(w3.heap.size, some w4.heap.size, some 70), (0, some w.heap.size, none)]) ⟨(.inl ⟨by omega, by omega, rfl⟩), ⟨(.inl ⟨by omega, by omega, rfl⟩), trivial⟩⟩ ⟨(.inl ⟨by omega, by omega, rfl⟩), ⟨(.inr (.inl ⟨by omega, by omega, trivial⟩)), ⟨(.inr (.inl ⟨by omega, by omega, trivial⟩)), trivial⟩⟩⟩
   refine RW.pure tabOk 1 rfl ?_
   have h28 := (h22.ext x7).turnL x8 (.inl (by decide))
   refine RW.storeBox tabOk h28 [.slice A5 (lb2_1_0 ++ [(⟨rd p1 (it6_0.tmod (p1.length : Int)), (rd p0.A it6_0).N, (rd p0.A it6_0).Not, (rd p0.A it6_0).P⟩ : Act)]).length c_5] ⟨rfl, rfl, rfl⟩ rfl rfl rfl rfl rfl rfl rfl rfl ?_
   intro w10 x9 h29
   have h30 : Box w10.heap b2 59 [.slice A1 p0.L.length c_1, .slice A5 (lb2_1_0 ++ [(⟨rd p1 (it6_0.tmod (p1.length : Int)), (rd p0.A it6_0).N, (rd p0.A it6_0).Not, (rd p0.A it6_0).P⟩ : Act)]).length c_5] := h29
   have sx9 := x9.size
   refine RW.done ?_
   refine NW.norm_block (NW.next ?_)
   refine CW.lex [.W, .W, .W] rfl ?_
   refine RW.pure tabOk 3 rfl ?_
   refine RW.done ?_
   have h31 := (((h19.turnB x6 h18 ⟨.inr (by omega), trivial⟩).ext x7).turnL x8 ⟨⟨.inr (.inl (by omega)), trivial⟩, trivial⟩).turnB x9 h28 ⟨.inr (by omega), trivial⟩
   have h32 := (((((gF1_0.ext x4).turnB x5 h16 ⟨.inr (by omega), trivial⟩).turnB x6 h18 ⟨.inr (by omega), trivial⟩).ext x7).turnL x8 ⟨⟨.inr (.inl (by omega)), trivial⟩, trivial⟩).turnB x9 h28 ⟨.inr (by omega), trivial⟩
   have h33 := (((((gF2_0.ext x4).turnB x5 h16 ⟨.inr (by omega), trivial⟩).turnB x6 h18 ⟨.inr (by omega), trivial⟩).ext x7).turnL x8 ⟨⟨.inr (.inl (by omega)), trivial⟩, trivial⟩).turnB x9 h28 ⟨.inr (by omega), trivial⟩
   have h34 := h27.turnB x9 h28 ⟨.inl (show (109 : Nat) ≠ 59 by decide), trivial⟩ ⟨.inl (show (70 : Nat) ≠ 59 by decide), ⟨.inr (by omega), trivial⟩⟩
   have h35 := Ext.turnB (Ext.turn (Ext.trans (Ext.turnB (Ext.turnB (Ext.trans x0_0 x4) x5 (by omega)) x6 (by omega)) x7) x8 ⟨by omega, trivial⟩) x9 (by omega)
   have h36 := (((((gb1_0.ext x4).turnB x5 (by omega)).turnB x6 (by omega)).ext x7).turnL x8 (.inl (by decide))).turnB x9 (by omega)
   have h37 := (((((g0_0.ext x4).turnB x5 (by omega)).turnB x6 (by omega)).ext x7).turnL x8 (.inr ⟨⟨.inr (.inl (by omega)), trivial⟩, trivial⟩)).turnB x9 (by omega)
   exact NW.J fun a ha => ⟨n1, Nat.lt_succ_self n1, (w64 (it6_0 + 1)), (lb2_1_0 ++ [(⟨rd p1 (it6_0.tmod (p1.length : Int)), (rd p0.A it6_0).N, (rd p0.A it6_0).Not, (rd p0.A it6_0).P⟩ : Act)]), A5, c_5, ha.sub ⟨rfl, rfl, rfl, rfl, trivial⟩, by omega, h31, h32, h33, (h34.sub ⟨(.inl ⟨by omega, trivial, rfl⟩), trivial⟩ ⟨(.inl ⟨by omega, trivial, rfl⟩), ⟨(.inr (.inl ⟨by omega, by omega, trivial⟩)), trivial⟩⟩), h35, h36, h30, h37, H⟩
  ·
   rw [if_neg c1] at H
   refine CW.cond_f rfl (decide_eq_false c1) ?_
   refine CW.exit ?_
   refine NW.exit_then (NW.exit_then (NW.exit_hit ?_))
   refine NW.next ?_
   refine CW.seq ?_
   refine CW.lex [.L, .X, .W] rfl ?_
   refine RW.load tabOk [.slice A1 p0.L.length c_1, .slice Ab2_1_0 lb2_1_0.length cb2_1_0] (gb2_0.at 0) ⟨rfl, rfl, rfl, rfl⟩ rfl rfl rfl rfl ?_
   obtain ⟨y1, h38, H⟩ := bind_some H
   refine RW.callF (.inl rfl) ent74 ⟨rfl, rfl, rfl, rfl⟩ rfl rfl (hermitagelaw7_RoomExact.calls k (⟨p0.L, lb2_1_0⟩ : Script) A1 c_1 Ab2_1_0 cb2_1_0 _ _ gF1_0.all hl1 h14.all h14.len g0_0 h38) ?_
   rintro _ w11 ⟨rfl, x10⟩
   refine ⟨_, rfl, x10, ?_⟩
   have sx10 := x10.size
   refine RW.pure tabOk 1 rfl ?_
   refine RW.done ?_
   refine NW.next ?_
   refine CW.ret ?_
   obtain rfl := Option.some.inj H
   have h39 := Ext.trans x0_0 x10
   exact NW.ret1 rfl (by rfl) ⟨rfl, h39⟩

set_option maxHeartbeats 4000000 in
set_option maxRecDepth 100000 in
theorem hermitagelaw7_RoomTakes.calls (k : Nat) (p0 : Script) (A1 : Option Addr) (c_1 : Nat) (A2 : Option Addr) (c_2 : Nat) (r : Bool) (w : World) (hs1 : Sl kDeviceR w.heap okAll A1 p0.L) (hl1 : p0.L.length ≤ c_1) (hs2 : Sl kActR w.heap okAll A2 p0.A) (hl2 : p0.A.length ≤ c_2) {gT : Nat} (hG : Box w.heap 0 gT (arrI .u8 64 tz)) (H : hermitagelaw7_RoomTakes.f k p0 = some r) :
    Calls Tryd.prog 9 #[.agg #[.slice A1 p0.L.length c_1, .slice A2 p0.A.length c_2]] w fun e w' => e = .returned (.bool r) ∧ Ext w w' := by
 have h1 : Sl kDeviceR w.heap (okL [(0, some w.heap.size, none)]) A1 p0.L := hs1.old _ rfl
 have h2 : Sl kActR w.heap (okL [(0, some w.heap.size, none)]) A2 p0.A := hs2.old _ rfl
 have hG0 : 0 < w.heap.size := hG.lt
 have x0 : Ext w w := Upd.refl _ w
 unfold hermitagelaw7_RoomTakes.f at H
 refine calls_start Tryd.func9 rfl 6 rfl [.agg #[.slice A1 p0.L.length c_1, .slice A2 p0.A.length c_2]] rfl ?_
 refine CW.seq ?_
 refine CW.lex [.X, .W] rfl ?_
 refine RW.box (cs := [.slice A1 p0.L.length c_1, .slice A2 p0.A.length c_2]) (.inl rfl) ⟨rfl, rfl, rfl, rfl⟩ rfl rfl rfl ?_
 intro b1 w1 x1 l1 h3
 have sx1 := x1.size
 have ltb1 := h3.lt
 refine RW.pure tabOk 1 rfl ?_
 refine RW.done ?_
 refine NW.next ?_
 refine CW.seq ?_
 refine CW.lex [.L, .X, .X, .W] rfl ?_
 refine RW.load tabOk [.slice A1 p0.L.length c_1, .slice A2 p0.A.length c_2] (h3.at 0) ⟨rfl, rfl, rfl, rfl⟩ rfl rfl rfl rfl ?_
 refine RW.buildSlice (cs := [.int .i64 0, .int .i64 0, .int .i64 4]) tabOk (.inl rfl) ⟨rfl, rfl, rfl, rfl⟩ rfl rfl rfl rfl rfl rfl rfl ?_
 intro b2 w2 x2 l2 h4
 have sx2 := x2.size
 have ltb2 := h4.lt
 have h5 := (h1.ext x1).ext x2
 have h6 := (h2.ext x1).ext x2
 have h7 : Ow (Kd.int .i64) 3 w2.heap (okL [(w1.heap.size, some w2.heap.size, some 3)]) (okL []) (some ⟨b2, 0, none⟩) 3 ([0, 0, 4] : List Int) := Ow.of_box h4 (.inl ⟨l2, ltb2, rfl⟩) (Nat.le_of_ble_eq_true rfl) (Ch.cons (d := (Kd.int .i64)) (cs := [.int .i64 0]) (x := 0) rfl (Ch.cons (d := (Kd.int .i64)) (cs := [.int .i64 0]) (x := 0) rfl (Ch.cons (d := (Kd.int .i64)) (cs := [.int .i64 4]) (x := 4) rfl Ch.nil)))
 have h8 := (hG.ext x1).ext x2
 obtain ⟨y1, h9, H⟩ := bind_some H
 refine RW.callF (.inl rfl) ent44 ⟨rfl, rfl, rfl, rfl⟩ rfl rfl (hermitagelaw7_only.calls k p0 A1 c_1 A2 c_2 (some ⟨b2, 0, none⟩) 3 ([0, 0, 4] : List Int) _ _ h5.all hl1 h6.all hl2 h7.all h7.len h8 h9) ?_
 rintro _ w3 ⟨rfl, x3⟩
 refine ⟨_, rfl, x3, ?_⟩
 have sx3 := x3.size
 refine RW.pure tabOk 1 rfl ?_
 refine RW.done ?_
 refine NW.next ?_
 refine CW.ret ?_
 obtain rfl := Option.some.inj H
 have h10 := Ext.trans (Ext.trans (Ext.trans x0 x1) x2) x3
 exact NW.ret1 rfl (by rfl) ⟨rfl, h10⟩

end Go.Proofs.YtnaajldlloglkaaDoor.W
