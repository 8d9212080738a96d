/- Walks; printed by a program of the claim. -/
import Derived.Test.YtnaajldlloglkaaDoorRoomW1
set_option linter.unusedVariables false
set_option linter.unusedSimpArgs false
namespace Go.Proofs.YtnaajldlloglkaaDoor.W
open Go.H Go.Proofs
set_option maxHeartbeats 4000000 in
set_option maxRecDepth 100000 in
theorem hermitagelaw7_RoomBack.calls (k : Nat) (p0 : Script) (A1 : Option Addr) (c_1 : Nat) (A2 : Option Addr) (c_2 : Nat) (r : Bool) (w : World) (hs1 : Sl kDeviceR w.heap okAll A1 p0.L) (hl1 : p0.L.length ≤ c_1) (hs2 : Sl kActR w.heap okAll A2 p0.A) (hl2 : p0.A.length ≤ c_2) {gT : Nat} (hG : Box w.heap 0 gT (arrI .u8 64 tz)) (H : hermitagelaw7_RoomBack.f k p0 = some r) :
    Calls Tryd.prog 8 #[.agg #[.slice A1 p0.L.length c_1, .slice A2 p0.A.length c_2]] w fun e w' => e = .returned (.bool r) ∧ Ext w w' := by
 have h1 : Sl kDeviceR w.heap (okL [(0, some w.heap.size, none)]) A1 p0.L := hs1.old _ rfl
 have h2 : Sl kActR w.heap (okL [(0, some w.heap.size, none)]) A2 p0.A := hs2.old _ rfl
 have hG0 : 0 < w.heap.size := hG.lt
 have x0 : Ext w w := Upd.refl _ w
 unfold hermitagelaw7_RoomBack.f at H
 refine calls_start Tryd.func8 rfl 124 rfl [.agg #[.slice A1 p0.L.length c_1, .slice A2 p0.A.length c_2]] rfl ?_
 refine CW.seq ?_
 refine CW.lex [.X, .W] rfl ?_
 refine RW.box (cs := [.slice A1 p0.L.length c_1, .slice A2 p0.A.length c_2]) (.inl rfl) ⟨rfl, rfl, rfl, rfl⟩ rfl rfl rfl ?_
 intro b1 w1 x1 l1 h3
 have sx1 := x1.size
 have ltb1 := h3.lt
 refine RW.pure tabOk 1 rfl ?_
 refine RW.done ?_
 refine NW.next ?_
 refine CW.seq ?_
 refine CW.seq ?_
 refine CW.lex [.L, .X] rfl ?_
 refine RW.load tabOk [.slice A1 p0.L.length c_1, .slice A2 p0.A.length c_2] (h3.at 0) ⟨rfl, rfl, rfl, rfl⟩ rfl rfl rfl rfl ?_
 have h4 := h1.ext x1
 have h5 := h2.ext x1
 obtain ⟨y1, h6, H⟩ := bind_some H
 refine RW.callF (.inl rfl) ent36 ⟨rfl, rfl, rfl, rfl⟩ rfl rfl (hermitagelaw7_Heavy.calls k p0 A1 c_1 A2 c_2 _ _ h4.all hl1 h5.all hl2 h6) ?_
 rintro _ w2 ⟨rfl, x2⟩
 refine ⟨_, rfl, x2, ?_⟩
 have sx2 := x2.size
 refine RW.done ?_
 refine NW.next ?_
 by_cases c1 : y1 = true
 ·
  rw [if_pos c1] at H
  refine CW.cond_t rfl (c1) ?_
  refine CW.seq ?_
  refine CW.lex [.W] rfl ?_
  refine RW.pure tabOk 1 rfl ?_
  refine RW.done ?_
  refine NW.next ?_
  refine CW.ret ?_
  refine NW.ret_then ?_
  obtain rfl := Option.some.inj H
  have h7 := Ext.trans (Ext.trans x0 x1) x2
  exact NW.ret1 rfl (by rfl) ⟨rfl, h7⟩
 ·
  rw [if_neg c1] at H
  refine CW.cond_f rfl (bool_f c1) ?_
  refine CW.skip ?_
  refine NW.next ?_
  refine CW.seq ?_
  refine CW.lex [.W, .L, .X, .W, .W, .W, .W, .W] rfl ?_
  refine RW.pure tabOk 1 rfl ?_
  have h8 := h3.ext x2
  refine RW.load tabOk [.slice A1 p0.L.length c_1] ((h8.at 0).take 1 rfl) ⟨rfl, rfl, rfl, rfl⟩ rfl rfl rfl rfl ?_
  have h9 := h4.ext x2
  have h10 := (hG.ext x1).ext x2
  obtain ⟨y2, h11, H⟩ := bind_some H
  refine RW.callF (.inl rfl) ent37 ⟨rfl, rfl, rfl, rfl⟩ rfl rfl (room_Commit.calls k A1 c_1 p0.L _ _ h9.all hl1 h10 h11) ?_
  rintro _ w3 ⟨A3, c_3, rfl, x3, h12⟩
  refine ⟨_, rfl, x3, ?_⟩
  have sx3 := x3.size
  have h13 : Ow kDeviceO 84 w3.heap (okL [(w2.heap.size, some w3.heap.size, some 84)]) (okL [(w2.heap.size, some w3.heap.size, some 93)]) A3 c_3 y2.1 := h12.close
  refine RW.pure tabOk 5 rfl ?_
  refine RW.done ?_
  refine NW.next ?_
  refine CW.seq ?_
  refine CW.seq ?_
  refine CW.lex [.W, .X, .W] rfl ?_
  refine RW.pure tabOk 1 rfl ?_
  obtain ⟨y3, h14, H⟩ := bind_some H
  refine RW.callF (.inl rfl) ent38 ⟨rfl, rfl, rfl, rfl⟩ rfl rfl (hermitagelaw7_num.calls y2.2 _ _ h14) ?_
  rintro _ w4 ⟨rfl, x4⟩
  refine ⟨_, rfl, x4, ?_⟩
  have sx4 := x4.size
  refine RW.pure tabOk 1 rfl ?_
  refine RW.done ?_
  refine NW.next ?_
  by_cases c2 : y3 = 0
  ·
   rw [if_pos c2] at H
   refine CW.cond_f rfl (bne_f c2) ?_
   refine CW.skip ?_
   refine NW.next ?_
   refine CW.seq ?_
   refine CW.lex [.W, .X, .W, .W, .W, .W, .W] rfl ?_
   refine RW.pure tabOk 1 rfl ?_
   have h15 := h13.ext x4
   obtain ⟨y4, h16, H⟩ := bind_some H
   refine RW.callF (.inl rfl) ent39 ⟨rfl, rfl, rfl, rfl⟩ rfl rfl (room_Count.calls k A3 c_3 y2.1 0 _ _ (h15.all.to kDevice_ro rfl) h15.len h16) ?_
   rintro _ w5 ⟨rfl, x5⟩
   refine ⟨_, rfl, x5, ?_⟩
   have sx5 := x5.size
   refine RW.pure tabOk 5 rfl ?_
   refine RW.done ?_
   refine NW.next ?_
   refine CW.seq ?_
   refine CW.seq ?_
   refine CW.lex [.W, .X, .W] rfl ?_
   refine RW.pure tabOk 1 rfl ?_
   obtain ⟨y5, h17, H⟩ := bind_some H
   refine RW.callF (.inl rfl) ent38 ⟨rfl, rfl, rfl, rfl⟩ rfl rfl (hermitagelaw7_num.calls y4.2 _ _ h17) ?_
   rintro _ w6 ⟨rfl, x6⟩
   refine ⟨_, rfl, x6, ?_⟩
   have sx6 := x6.size
   refine RW.pure tabOk 1 rfl ?_
   refine RW.done ?_
   refine NW.next ?_
   by_cases c3 : y5 = 0
   ·
    rw [if_pos c3] at H
    refine CW.cond_f rfl (bne_f c3) ?_
    refine CW.skip ?_
    refine NW.next ?_
    refine CW.seq ?_
    refine CW.seq ?_
    refine CW.lex [.W] rfl ?_
    refine RW.pure tabOk 1 rfl ?_
    refine RW.done ?_
    refine NW.next ?_
    refine CW.block ?_
    refine CW.loop (fun n1 a w7 => ∃ (it7_0 : Int), Sat 124 [(3, .slice A3 y2.1.length c_3), (5, .int .i64 y4.1), (7, .int .i64 it7_0)] a ∧ w6.heap.size ≤ w7.heap.size ∧ Ow kDeviceO 84 w7.heap (okL [(w2.heap.size, some w3.heap.size, some 84)]) (okL [(w2.heap.size, some w3.heap.size, some 93)]) A3 c_3 y2.1 ∧ Ext w w7 ∧ Box w7.heap 0 gT (arrI .u8 64 tz) ∧ hermitagelaw7_RoomBack.l0 k y2 y4 n1 it7_0 = some r) k ?_ ?_
    have h18 := (h15.ext x5).ext x6
    have h19 := Ext.trans (Ext.trans (Ext.trans (Ext.trans (Ext.trans (Ext.trans x0 x1) x2) x3) x4) x5) x6
    have h20 := (((h10.ext x3).ext x4).ext x5).ext x6
    · exact fun a ha => ⟨0, ha.sub ⟨rfl, rfl, rfl, trivial⟩, by omega, h18, h19, h20, H⟩
    intro n1 a w7 hI hp
    obtain ⟨it7_0, hS, hle, gF3_0, x0_0, g0_0, H⟩ := hI
    cases n1 with
    | zero => cases H
    | succ n1 =>
     rw [hermitagelaw7_RoomBack.l0] at H
     refine CW.go hp hS ?_
     refine CW.seq ?_
     refine CW.seqJ (fun a w8 => ∃ (bt44_1 : Bool), Sat 124 [(3, .slice A3 y2.1.length c_3), (5, .int .i64 y4.1), (7, .int .i64 it7_0), (44, .bool bt44_1)] a ∧ w7.heap.size ≤ w8.heap.size ∧ Ow kDeviceO 84 w8.heap (okL [(w2.heap.size, some w3.heap.size, some 84)]) (okL [(w2.heap.size, some w3.heap.size, some 93)]) A3 c_3 y2.1 ∧ Ext w w8 ∧ Box w8.heap 0 gT (arrI .u8 64 tz) ∧ hermitagelaw7_RoomBack.j0 k y2 y4 it7_0 (hermitagelaw7_RoomBack.l0 k y2 y4 n1) bt44_1 = some r) ?_ ?_
     ·
      refine CW.lex [.W, .W, .W, .W, .W, .W, .W] rfl ?_
      refine RW.pure tabOk 4 rfl ?_
      by_cases c4 : it7_0 ≤ y4.1
      ·
       rw [if_pos c4] at H
       refine RW.bool 41 (b' := true) (decide_eq_true c4) rfl ?_
       refine RW.pure tabOk 3 rfl ?_
       refine RW.done ?_
       exact NW.J fun a ha => ⟨(decide (it7_0 < 20)), ha.sub ⟨rfl, rfl, rfl, rfl, trivial⟩, by omega, gF3_0, x0_0, g0_0, H⟩
      ·
       rw [if_neg c4] at H
       refine RW.bool 41 (b' := false) (decide_eq_false c4) rfl ?_
       refine RW.pure tabOk 3 rfl ?_
       refine RW.done ?_
       exact NW.J fun a ha => ⟨false, ha.sub ⟨rfl, rfl, rfl, rfl, trivial⟩, by omega, gF3_0, x0_0, g0_0, H⟩
     intro a w8 hJ hp
     obtain ⟨bt44_1, hS, hle, gF3_1, x0_1, g0_1, H⟩ := hJ
     unfold hermitagelaw7_RoomBack.j0 at H
     refine CW.go hp hS ?_
     by_cases c5 : bt44_1 = true
     ·
      rw [if_pos c5] at H
      refine CW.cond_t rfl (c5) ?_
      refine CW.skip ?_
      refine NW.next ?_
      refine CW.seqJ (fun a w9 => Sat 124 [(3, .slice A3 y2.1.length c_3), (5, .int .i64 y4.1), (7, .int .i64 it7_0)] a ∧ w8.heap.size ≤ w9.heap.size ∧ Ow kDeviceO 84 w9.heap (okL [(w2.heap.size, some w3.heap.size, some 84)]) (okL [(w2.heap.size, some w3.heap.size, some 93)]) A3 c_3 y2.1 ∧ Ext w w9 ∧ Box w9.heap 0 gT (arrI .u8 64 tz) ∧ hermitagelaw7_RoomBack.j1 it7_0 (hermitagelaw7_RoomBack.l0 k y2 y4 n1) = some r) ?_ ?_
      ·
       refine CW.block ?_
       refine CW.seq ?_
       refine CW.lex [.W, .W, .X, .W, .W, .W, .W, .W, .W, .W] rfl ?_
       refine RW.pure tabOk 2 rfl ?_
       obtain ⟨y6, h21, H⟩ := bind_some H
       refine RW.callF (.inl rfl) ent40 ⟨rfl, rfl, rfl, rfl⟩ rfl rfl (room_Take.calls k A3 c_3 y2.1 it7_0 0 _ _ (gF3_1.all.to kDevice_ro rfl) gF3_1.len g0_1 h21) ?_
       rintro _ w10 ⟨A4, c_4, A5, c_5, rfl, x7, h22, h23⟩
       refine ⟨_, rfl, x7, ?_⟩
       have sx7 := x7.size
       have h24 : Ow kPtr 70 w10.heap (okL [(w8.heap.size, some w10.heap.size, some 70)]) (okL []) A4 c_4 y6.1 := h22.close
       have h25 : Ow kDeviceO 84 w10.heap (okL [(w8.heap.size, some w10.heap.size, some 84)]) (okL [(w8.heap.size, some w10.heap.size, some 93)]) A5 c_5 y6.2.1 := h23.close
       refine RW.pure tabOk 7 rfl ?_
       refine RW.done ?_
       refine NW.next ?_
       refine CW.seq ?_
       refine CW.lex [.W, .X, .W, .W, .W, .W, .W] rfl ?_
       refine RW.pure tabOk 1 rfl ?_
       obtain ⟨y7, h26, H⟩ := bind_some H
       refine RW.callF (.inl rfl) ent39 ⟨rfl, rfl, rfl, rfl⟩ rfl rfl (room_Count.calls k A5 c_5 y6.2.1 0 _ _ (h25.all.to kDevice_ro rfl) h25.len h26) ?_
       rintro _ w11 ⟨rfl, x8⟩
       refine ⟨_, rfl, x8, ?_⟩
       have sx8 := x8.size
       refine RW.pure tabOk 5 rfl ?_
       refine RW.done ?_
       refine NW.next ?_
       refine CW.seq ?_
       refine CW.lex [.W, .W, .X, .W, .W, .W, .W, .W] rfl ?_
       refine RW.pure tabOk 2 rfl ?_
       have h27 := h25.ext x8
       have h28 := h24.ext x8
       have h29 := (g0_1.ext x7).ext x8
       obtain ⟨y8, h30, H⟩ := bind_some H
       refine RW.callF (.inl rfl) ent41 ⟨rfl, rfl, rfl, rfl⟩ rfl rfl (room_Give.calls k A5 c_5 y6.2.1 A4 c_4 y6.1 _ _ (h27.all.to kDevice_ro rfl) h27.len h28.all h28.len h29 h30) ?_
       rintro _ w12 ⟨A6, c_6, rfl, x9, h31⟩
       refine ⟨_, rfl, x9, ?_⟩
       have sx9 := x9.size
       have h32 : Ow kDeviceO 84 w12.heap (okL [(w11.heap.size, some w12.heap.size, some 84)]) (okL [(w11.heap.size, some w12.heap.size, some 93)]) A6 c_6 y8.1 := h31.close
       refine RW.pure tabOk 5 rfl ?_
       refine RW.done ?_
       refine NW.next ?_
       refine CW.seq ?_
       refine CW.lex [.W, .X, .W, .W, .W, .W, .W] rfl ?_
       refine RW.pure tabOk 1 rfl ?_
       have h33 := h29.ext x9
       obtain ⟨y9, h34, H⟩ := bind_some H
       refine RW.callF (.inl rfl) ent37 ⟨rfl, rfl, rfl, rfl⟩ rfl rfl (room_Commit.calls k A6 c_6 y8.1 _ _ (h32.all.to kDevice_ro rfl) h32.len h33 h34) ?_
       rintro _ w13 ⟨A7, c_7, rfl, x10, h35⟩
       refine ⟨_, rfl, x10, ?_⟩
       have sx10 := x10.size
       have h36 : Ow kDeviceO 84 w13.heap (okL [(w12.heap.size, some w13.heap.size, some 84)]) (okL [(w12.heap.size, some w13.heap.size, some 93)]) A7 c_7 y9.1 := h35.close
       refine RW.pure tabOk 5 rfl ?_
       refine RW.done ?_
       refine NW.next ?_
       refine CW.seq ?_
       refine CW.seqJ (fun a w14 => ∃ (bt100_3 : Bool), Sat 124 [(3, .slice A3 y2.1.length c_3), (5, .int .i64 y4.1), (7, .int .i64 it7_0), (8, .slice A4 y6.1.length c_4), (100, .bool bt100_3)] a ∧ w13.heap.size ≤ w14.heap.size ∧ Ow kDeviceO 84 w14.heap (okL [(w2.heap.size, some w3.heap.size, some 84)]) (okL [(w2.heap.size, some w3.heap.size, some 93)]) A3 c_3 y2.1 ∧ Ow kPtr 70 w14.heap (okL [(w8.heap.size, some w10.heap.size, some 70)]) (okL []) A4 c_4 y6.1 ∧ Ext w w14 ∧ Box w14.heap 0 gT (arrI .u8 64 tz) ∧ hermitagelaw7_RoomBack.j2 k it7_0 y6 (hermitagelaw7_RoomBack.l0 k y2 y4 n1) bt100_3 = some r) ?_ ?_
       ·
        refine CW.lex [.W, .X, .W, .X, .W, .W, .X, .W, .W, .X, .W, .W, .W, .W, .W, .W, .W, .W, .W, .W, .W, .W, .W, .W, .W, .W, .W, .W, .X, .W, .W] rfl ?_
        refine RW.pure tabOk 1 rfl ?_
        obtain ⟨y10, h37, H⟩ := bind_some H
        refine RW.callF (.inl rfl) ent38 ⟨rfl, rfl, rfl, rfl⟩ rfl rfl (hermitagelaw7_num.calls y6.2.2 _ _ h37) ?_
        rintro _ w15 ⟨rfl, x11⟩
        refine ⟨_, rfl, x11, ?_⟩
        have sx11 := x11.size
        refine RW.pure tabOk 1 rfl ?_
        obtain ⟨y11, h38, H⟩ := bind_some H
        refine RW.callF (.inl rfl) ent38 ⟨rfl, rfl, rfl, rfl⟩ rfl rfl (hermitagelaw7_num.calls y7.2 _ _ h38) ?_
        rintro _ w16 ⟨rfl, x12⟩
        refine ⟨_, rfl, x12, ?_⟩
        have sx12 := x12.size
        refine RW.pure tabOk 2 rfl ?_
        obtain ⟨y12, h39, H⟩ := bind_some H
        refine RW.callF (.inl rfl) ent38 ⟨rfl, rfl, rfl, rfl⟩ rfl rfl (hermitagelaw7_num.calls y8.2 _ _ h39) ?_
        rintro _ w17 ⟨rfl, x13⟩
        refine ⟨_, rfl, x13, ?_⟩
        have sx13 := x13.size
        refine RW.pure tabOk 2 rfl ?_
        obtain ⟨y13, h40, H⟩ := bind_some H
        refine RW.callF (.inl rfl) ent38 ⟨rfl, rfl, rfl, rfl⟩ rfl rfl (hermitagelaw7_num.calls y9.2 _ _ h40) ?_
        rintro _ w18 ⟨rfl, x14⟩
        refine ⟨_, rfl, x14, ?_⟩
        have sx14 := x14.size
        refine RW.pure tabOk 3 rfl ?_
        by_cases c6 : w64 ((w64 ((w64 (y10 + y11)) + y12)) + y13) = 0
        ·
         rw [if_pos c6] at H
         refine RW.bool 82 (b' := false) (bne_f c6) rfl ?_
         refine RW.pure tabOk 6 rfl ?_
         by_cases c7 : (y6.1.length : Int) = it7_0
         ·
          rw [if_pos c7] at H
          refine RW.bool 88 (b' := false) (bne_f c7) rfl ?_
          refine RW.pure tabOk 7 rfl ?_
          by_cases c8 : y7.1 = w64 (y4.1 - it7_0)
          ·
           rw [if_pos c8] at H
           refine RW.bool 95 (b' := false) (bne_f c8) rfl ?_
           refine RW.pure tabOk 2 rfl ?_
           have h41 := (((h36.ext x11).ext x12).ext x13).ext x14
           have h42 := (((((((gF3_1.ext x7).ext x8).ext x9).ext x10).ext x11).ext x12).ext x13).ext x14
           obtain ⟨y14, h43, H⟩ := bind_some H
           refine RW.callF (.inl rfl) ent42 ⟨rfl, rfl, rfl, rfl⟩ rfl rfl (hermitageref0_EqDevices.calls k A7 c_7 y9.1 A3 c_3 y2.1 _ _ (h41.all.to kDevice_ro rfl) h41.len (h42.all.to kDevice_ro rfl) h42.len h43) ?_
           rintro _ w19 ⟨rfl, x15⟩
           refine ⟨_, rfl, x15, ?_⟩
           have sx15 := x15.size
           refine RW.pure tabOk 2 rfl ?_
           refine RW.done ?_
           have h44 := h42.ext x15
           have h45 := ((((((h28.ext x9).ext x10).ext x11).ext x12).ext x13).ext x14).ext x15
           have h46 := Ext.trans (Ext.trans (Ext.trans (Ext.trans (Ext.trans (Ext.trans (Ext.trans (Ext.trans (Ext.trans x0_1 x7) x8) x9) x10) x11) x12) x13) x14) x15
           have h47 := (((((h33.ext x10).ext x11).ext x12).ext x13).ext x14).ext x15
           exact NW.J fun a ha => ⟨(!y14), ha.sub ⟨rfl, rfl, rfl, rfl, rfl, trivial⟩, by omega, h44, h45, h46, h47, H⟩
          ·
           rw [if_neg c8] at H
           refine RW.bool 95 (b' := true) (bne_t c8) rfl ?_
           refine RW.pure tabOk 5 rfl ?_
           refine RW.done ?_
           have h48 := (((((((gF3_1.ext x7).ext x8).ext x9).ext x10).ext x11).ext x12).ext x13).ext x14
           have h49 := (((((h28.ext x9).ext x10).ext x11).ext x12).ext x13).ext x14
           have h50 := Ext.trans (Ext.trans (Ext.trans (Ext.trans (Ext.trans (Ext.trans (Ext.trans (Ext.trans x0_1 x7) x8) x9) x10) x11) x12) x13) x14
           have h51 := ((((h33.ext x10).ext x11).ext x12).ext x13).ext x14
           exact NW.J fun a ha => ⟨true, ha.sub ⟨rfl, rfl, rfl, rfl, rfl, trivial⟩, by omega, h48, h49, h50, h51, H⟩
         ·
          rw [if_neg c7] at H
          refine RW.bool 88 (b' := true) (bne_t c7) rfl ?_
          refine RW.pure tabOk 12 rfl ?_
          refine RW.done ?_
          have h52 := (((((((gF3_1.ext x7).ext x8).ext x9).ext x10).ext x11).ext x12).ext x13).ext x14
          have h53 := (((((h28.ext x9).ext x10).ext x11).ext x12).ext x13).ext x14
          have h54 := Ext.trans (Ext.trans (Ext.trans (Ext.trans (Ext.trans (Ext.trans (Ext.trans (Ext.trans x0_1 x7) x8) x9) x10) x11) x12) x13) x14
          have h55 := ((((h33.ext x10).ext x11).ext x12).ext x13).ext x14
          exact NW.J fun a ha => ⟨true, ha.sub ⟨rfl, rfl, rfl, rfl, rfl, trivial⟩, by omega, h52, h53, h54, h55, H⟩
        ·
         rw [if_neg c6] at H
         refine RW.bool 82 (b' := true) (bne_t c6) rfl ?_
         refine RW.pure tabOk 18 rfl ?_
         refine RW.done ?_
         have h56 := (((((((gF3_1.ext x7).ext x8).ext x9).ext x10).ext x11).ext x12).ext x13).ext x14
         have h57 := (((((h28.ext x9).ext x10).ext x11).ext x12).ext x13).ext x14
         have h58 := Ext.trans (Ext.trans (Ext.trans (Ext.trans (Ext.trans (Ext.trans (Ext.trans (Ext.trans x0_1 x7) x8) x9) x10) x11) x12) x13) x14
         have h59 := ((((h33.ext x10).ext x11).ext x12).ext x13).ext x14
         exact NW.J fun a ha => ⟨true, ha.sub ⟨rfl, rfl, rfl, rfl, rfl, trivial⟩, by omega, h56, h57, h58, h59, H⟩
       intro a w14 hJ hp
       obtain ⟨bt100_3, hS, hle, gF3_3, gF4_3, x0_3, g0_3, H⟩ := hJ
       unfold hermitagelaw7_RoomBack.j2 at H
       refine CW.go hp hS ?_
       by_cases c9 : bt100_3 = true
       ·
        rw [if_pos c9] at H
        refine CW.cond_t rfl (c9) ?_
        refine CW.seq ?_
        refine CW.lex [.W] rfl ?_
        refine RW.pure tabOk 1 rfl ?_
        refine RW.done ?_
        refine NW.next ?_
        refine CW.ret ?_
        refine NW.ret_then (NW.ret_block (NW.ret_then (NW.ret_then (NW.ret_block (NW.ret_then ?_)))))
        obtain rfl := Option.some.inj H
        exact NW.ret1 rfl (by rfl) ⟨rfl, x0_3⟩
       ·
        rw [if_neg c9] at H
        refine CW.cond_f rfl (bool_f c9) ?_
        refine CW.skip ?_
        refine NW.next ?_
        refine CW.seq ?_
        refine CW.lex [.W] rfl ?_
        refine RW.pure tabOk 1 rfl ?_
        refine RW.done ?_
        refine NW.next ?_
        refine CW.block ?_
        refine CW.loop (fun n2 a w20 => ∃ (it17_4 : Int), Sat 124 [(3, .slice A3 y2.1.length c_3), (5, .int .i64 y4.1), (7, .int .i64 it7_0), (8, .slice A4 y6.1.length c_4), (17, .int .i64 it17_4)] a ∧ w14.heap.size ≤ w20.heap.size ∧ Ow kDeviceO 84 w20.heap (okL [(w2.heap.size, some w3.heap.size, some 84)]) (okL [(w2.heap.size, some w3.heap.size, some 93)]) A3 c_3 y2.1 ∧ Ow kPtr 70 w20.heap (okL [(w8.heap.size, some w10.heap.size, some 70)]) (okL []) A4 c_4 y6.1 ∧ Ext w w20 ∧ Box w20.heap 0 gT (arrI .u8 64 tz) ∧ hermitagelaw7_RoomBack.l1 k it7_0 y6 (hermitagelaw7_RoomBack.l0 k y2 y4 n1) n2 it17_4 = some r) k ?_ ?_
        · exact fun a ha => ⟨0, ha.sub ⟨rfl, rfl, rfl, rfl, rfl, trivial⟩, by omega, gF3_3, gF4_3, x0_3, g0_3, H⟩
        intro n2 a w20 hI hp
        obtain ⟨it17_4, hS, hle, gF3_4, gF4_4, x0_4, g0_4, H⟩ := hI
        cases n2 with
        | zero => cases H
        | succ n2 =>
         rw [hermitagelaw7_RoomBack.l1] at H
         refine CW.go hp hS ?_
         refine CW.seq ?_
         refine CW.seq ?_
         refine CW.lex [.W, .W, .W] rfl ?_
         refine RW.pure tabOk 3 rfl ?_
         refine RW.done ?_
         refine NW.next ?_
         by_cases c10 : it17_4 < it7_0
         ·
          rw [if_pos c10] at H
          refine CW.cond_t rfl (decide_eq_true c10) ?_
          refine CW.skip ?_
          refine NW.next ?_
          refine CW.seq ?_
          refine CW.block ?_
          refine CW.seq ?_
          refine CW.lex [.W] rfl ?_
          refine RW.pure tabOk 1 rfl ?_
          refine RW.done ?_
          refine NW.next ?_
          refine CW.block ?_
          refine CW.loop (fun n3 a w21 => ∃ (it18_5 : Int), Sat 124 [(3, .slice A3 y2.1.length c_3), (5, .int .i64 y4.1), (7, .int .i64 it7_0), (8, .slice A4 y6.1.length c_4), (17, .int .i64 it17_4), (18, .int .i64 it18_5)] a ∧ w20.heap.size ≤ w21.heap.size ∧ Ow kDeviceO 84 w21.heap (okL [(w2.heap.size, some w3.heap.size, some 84)]) (okL [(w2.heap.size, some w3.heap.size, some 93)]) A3 c_3 y2.1 ∧ Ow kPtr 70 w21.heap (okL [(w8.heap.size, some w10.heap.size, some 70)]) (okL []) A4 c_4 y6.1 ∧ Ext w w21 ∧ Box w21.heap 0 gT (arrI .u8 64 tz) ∧ hermitagelaw7_RoomBack.l2 y6 it17_4 (hermitagelaw7_RoomBack.l1 k it7_0 y6 (hermitagelaw7_RoomBack.l0 k y2 y4 n1) n2) n3 it18_5 = some r) k ?_ ?_
          · exact fun a ha => ⟨0, ha.sub ⟨rfl, rfl, rfl, rfl, rfl, rfl, trivial⟩, by omega, gF3_4, gF4_4, x0_4, g0_4, H⟩
          intro n3 a w21 hI hp
          obtain ⟨it18_5, hS, hle, gF3_5, gF4_5, x0_5, g0_5, H⟩ := hI
          cases n3 with
          | zero => cases H
          | succ n3 =>
           rw [hermitagelaw7_RoomBack.l2] at H
           refine CW.go hp hS ?_
           refine CW.seq ?_
           refine CW.seq ?_
           refine CW.lex [.W, .W, .W] rfl ?_
           refine RW.pure tabOk 3 rfl ?_
           refine RW.done ?_
           refine NW.next ?_
           by_cases c11 : it18_5 < it17_4
           ·
            rw [if_pos c11] at H
            refine CW.cond_t rfl (decide_eq_true c11) ?_
            refine CW.skip ?_
            refine NW.next ?_
            refine CW.seq ?_
            refine CW.block ?_
            refine CW.seq ?_
            refine CW.ord [0, 0, 3, 7, 0, 0, 48, 112, 255] (ofL [(0, .W), (1, .W), (2, .W), (4, .W), (5, .W), (6, .W), (3, .L), (7, .L), (8, .W)] .nil) mixed (by kernel_rfl) ?_
            intro w22 x16
            have sx16 := x16.size
            refine RW.pure tabOk 2 rfl ?_
            obtain ⟨g1, H⟩ := guard_some H
            have h60 := gF4_5.ext x16
            obtain ⟨ad1, e1, a1⟩ := kPtr_at h60.slL g1.1 g1.2
            refine RW.index tabOk g1.1 g1.2 e1 ⟨rfl, rfl, rfl, rfl⟩ rfl rfl rfl rfl rfl rfl ?_
            refine RW.pure tabOk 2 rfl ?_
            obtain ⟨g2, H⟩ := guard_some H
            obtain ⟨ad2, e2, a2⟩ := kPtr_at h60.slL g2.1 g2.2
            refine RW.index tabOk g2.1 g2.2 e2 ⟨rfl, rfl, rfl, rfl⟩ rfl rfl rfl rfl rfl rfl ?_
            refine RW.load tabOk [.int .i64 ((rd y6.1 it17_4).Dev), .int .i64 ((rd y6.1 it17_4).At)] a1 ⟨rfl, rfl, rfl, rfl⟩ rfl rfl rfl rfl ?_
            refine RW.load tabOk [.int .i64 ((rd y6.1 it18_5).Dev), .int .i64 ((rd y6.1 it18_5).At)] a2 ⟨rfl, rfl, rfl, rfl⟩ rfl rfl rfl rfl ?_
            refine RW.eqAgg eqgPtr (eqPtr (rd y6.1 it17_4) (rd y6.1 it18_5)) ⟨rfl, rfl, rfl, rfl⟩ rfl rfl rfl rfl ?_
            refine RW.done ?_
            refine NW.next ?_
            by_cases c12 : (rd y6.1 it17_4) = (rd y6.1 it18_5)
            ·
             rw [if_pos c12] at H
             refine CW.cond_t rfl (decide_eq_true c12) ?_
             refine CW.seq ?_
             refine CW.lex [.W] rfl ?_
             refine RW.pure tabOk 1 rfl ?_
             refine RW.done ?_
             refine NW.next ?_
             refine CW.ret ?_
             refine NW.ret_block (NW.ret_then (NW.ret_then (NW.ret_block (NW.ret_block (NW.ret_then (NW.ret_then (NW.ret_block (NW.ret_block (NW.ret_then (NW.ret_then (NW.ret_block (NW.ret_then ?_))))))))))))
             obtain rfl := Option.some.inj H
             have h61 := Ext.trans x0_5 x16
             exact NW.ret1 rfl (by rfl) ⟨rfl, h61⟩
            ·
             rw [if_neg c12] at H
             refine CW.cond_f rfl (decide_eq_false c12) ?_
             refine CW.skip ?_
             refine NW.norm_block (NW.next ?_)
             refine CW.lex [.W, .W, .W] rfl ?_
             refine RW.pure tabOk 3 rfl ?_
             refine RW.done ?_
             have h62 := gF3_5.ext x16
             have h63 := Ext.trans x0_5 x16
             have h64 := g0_5.ext x16
             exact NW.J fun a ha => ⟨n3, Nat.lt_succ_self n3, (w64 (it18_5 + 1)), ha.sub ⟨rfl, rfl, rfl, rfl, rfl, rfl, trivial⟩, by omega, h62, h60, h63, h64, H⟩
           ·
            rw [if_neg c11] at H
            refine CW.cond_f rfl (decide_eq_false c11) ?_
            refine CW.exit ?_
            refine NW.exit_then (NW.exit_then (NW.exit_hit ?_))
            refine NW.norm_block (NW.next ?_)
            refine CW.lex [.W, .W, .W] rfl ?_
            refine RW.pure tabOk 3 rfl ?_
            refine RW.done ?_
            exact NW.J fun a ha => ⟨n2, Nat.lt_succ_self n2, (w64 (it17_4 + 1)), ha.sub ⟨rfl, rfl, rfl, rfl, rfl, trivial⟩, by omega, gF3_5, gF4_5, x0_5, g0_5, H⟩
         ·
          rw [if_neg c10] at H
          refine CW.cond_f rfl (decide_eq_false c10) ?_
          refine CW.exit ?_
          refine NW.exit_then (NW.exit_then (NW.exit_hit ?_))
          refine NW.norm_block ?_
          exact NW.J fun a ha => ⟨ha.sub ⟨rfl, rfl, rfl, trivial⟩, by omega, gF3_4, x0_4, g0_4, H⟩
      intro a w9 hJ hp
      obtain ⟨hS, hle, gF3_2, x0_2, g0_2, H⟩ := hJ
      unfold hermitagelaw7_RoomBack.j1 at H
      refine CW.go hp hS ?_
      refine CW.lex [.W, .W, .W] rfl ?_
      refine RW.pure tabOk 3 rfl ?_
      refine RW.done ?_
      exact NW.J fun a ha => ⟨n1, Nat.lt_succ_self n1, (w64 (it7_0 + 1)), ha.sub ⟨rfl, rfl, rfl, trivial⟩, by omega, gF3_2, x0_2, g0_2, H⟩
     ·
      rw [if_neg c5] at H
      refine CW.cond_f rfl (bool_f c5) ?_
      refine CW.exit ?_
      refine NW.exit_then (NW.exit_then (NW.exit_hit ?_))
      refine NW.next ?_
      refine CW.seq ?_
      refine CW.lex [.X, .W, .X, .W, .W] rfl ?_
      obtain ⟨y15, h65, H⟩ := bind_some H
      refine RW.callF (.inl rfl) ent12 ⟨rfl, rfl, rfl, rfl⟩ rfl rfl (hermitageref1_Segs.calls k none 0 ([] : List Seg) _ _ Sl.nil (Nat.le_refl 0) h65) ?_
      rintro _ w23 ⟨rfl, x17⟩
      refine ⟨_, rfl, x17, ?_⟩
      have sx17 := x17.size
      refine RW.pure tabOk 1 rfl ?_
      by_cases c13 : y15 = true
      ·
       rw [if_pos c13] at H
       refine RW.bool 121 (b' := true) (c13) rfl ?_
       have h66 := g0_1.ext x17
       obtain ⟨y16, h67, H⟩ := bind_some H
       refine RW.callF (.inl rfl) ent43 ⟨rfl, rfl, rfl, rfl⟩ rfl rfl (hermitagelaw7_wakes.calls k _ _ h66 h67) ?_
       rintro _ w24 ⟨rfl, x18⟩
       refine ⟨_, rfl, x18, ?_⟩
       have sx18 := x18.size
       refine RW.pure tabOk 2 rfl ?_
       refine RW.done ?_
       refine NW.next ?_
       refine CW.ret ?_
       obtain rfl := Option.some.inj H
       have h68 := Ext.trans (Ext.trans x0_1 x17) x18
       exact NW.ret1 rfl (by rfl) ⟨rfl, h68⟩
      ·
       rw [if_neg c13] at H
       refine RW.bool 121 (b' := false) (bool_f c13) rfl ?_
       refine RW.pure tabOk 3 rfl ?_
       refine RW.done ?_
       refine NW.next ?_
       refine CW.ret ?_
       obtain rfl := Option.some.inj H
       have h69 := Ext.trans x0_1 x17
       exact NW.ret1 rfl (by rfl) ⟨rfl, h69⟩
   ·
    rw [if_neg c3] at H
    refine CW.cond_t rfl (bne_t c3) ?_
    refine CW.seq ?_
    refine CW.lex [.W] rfl ?_
    refine RW.pure tabOk 1 rfl ?_
    refine RW.done ?_
    refine NW.next ?_
    refine CW.ret ?_
    refine NW.ret_then ?_
    obtain rfl := Option.some.inj H
    have h70 := Ext.trans (Ext.trans (Ext.trans (Ext.trans (Ext.trans (Ext.trans x0 x1) x2) x3) x4) x5) x6
    exact NW.ret1 rfl (by rfl) ⟨rfl, h70⟩
  ·
   rw [if_neg c2] at H
   refine CW.cond_t rfl (bne_t c2) ?_
   refine CW.seq ?_
   refine CW.lex [.W] rfl ?_
   refine RW.pure tabOk 1 rfl ?_
   refine RW.done ?_
   refine NW.next ?_
   refine CW.ret ?_
   refine NW.ret_then ?_
   obtain rfl := Option.some.inj H
   have h71 := Ext.trans (Ext.trans (Ext.trans (Ext.trans x0 x1) x2) x3) x4
   exact NW.ret1 rfl (by rfl) ⟨rfl, h71⟩

end Go.Proofs.YtnaajldlloglkaaDoor.W
