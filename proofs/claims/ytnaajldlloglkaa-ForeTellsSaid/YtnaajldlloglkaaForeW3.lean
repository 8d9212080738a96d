/- Walks; printed by a program of the claim. -/
import Derived.Test.YtnaajldlloglkaaForeW2
set_option linter.unusedVariables false
set_option linter.unusedSimpArgs false
namespace Go.Proofs.Ytnaajldlloglkaa.W
open Go.H Go.Proofs
set_option maxHeartbeats 4000000 in
set_option maxRecDepth 100000 in
theorem hermitageref9_job.calls (k : Nat) (p0 : Pool) (A1 : Option Addr) (c_1 : Nat) (A2 : Option Addr) (c_2 : Nat) (A3 : Option Addr) (c_3 : Nat) (r : Bool) (w : World) (hs1 : Sl kDeviceR w.heap okAll A1 p0.Devices) (hl1 : p0.Devices.length ≤ c_1) (hs2 : Sl kTableR w.heap okAll A2 p0.Tables) (hl2 : p0.Tables.length ≤ c_2) (hs3 : Sl kEntry w.heap okAll A3 p0.Job.Table.List_) (hl3 : p0.Job.Table.List_.length ≤ c_3) (H : hermitageref9_job.f k p0 = some r) :
    Calls Try.prog 72 #[.agg #[.slice A1 p0.Devices.length c_1, .slice A2 p0.Tables.length c_2, .int .i64 p0.Job.Dev, .int .i64 p0.Job.At, .int .i64 p0.Job.Table.Dev, .int .i64 p0.Job.Table.Size, .slice A3 p0.Job.Table.List_.length c_3, .int .i64 p0.Next]] w fun e w' => e = .returned (.bool r) ∧ Ext w w' := by
 have h1 : Sl kDeviceR w.heap (okL [(0, some w.heap.size, none)]) A1 p0.Devices := hs1.old _ rfl
 have h2 : Sl kTableR w.heap (okL [(0, some w.heap.size, none)]) A2 p0.Tables := hs2.old _ rfl
 have h3 : Sl kEntry w.heap (okL [(0, some w.heap.size, none)]) A3 p0.Job.Table.List_ := hs3.old _ rfl
 have x0 : Ext w w := Upd.refl _ w
 unfold hermitageref9_job.f at H
 refine calls_start Try.func72 rfl 93 rfl [.agg #[.slice A1 p0.Devices.length c_1, .slice A2 p0.Tables.length c_2, .int .i64 p0.Job.Dev, .int .i64 p0.Job.At, .int .i64 p0.Job.Table.Dev, .int .i64 p0.Job.Table.Size, .slice A3 p0.Job.Table.List_.length c_3, .int .i64 p0.Next]] rfl ?_
 refine CW.seq ?_
 refine CW.lex [.X, .W] rfl ?_
 refine RW.box (cs := [.slice A1 p0.Devices.length c_1, .slice A2 p0.Tables.length c_2, .int .i64 p0.Job.Dev, .int .i64 p0.Job.At, .int .i64 p0.Job.Table.Dev, .int .i64 p0.Job.Table.Size, .slice A3 p0.Job.Table.List_.length c_3, .int .i64 p0.Next]) (.inl rfl) ⟨rfl, rfl, rfl, rfl⟩ rfl rfl rfl ?_
 intro b1 w1 x1 l1 h4
 have sx1 := x1.size
 have ltb1 := h4.lt
 refine RW.pure tabOk 1 rfl ?_
 refine RW.done ?_
 refine NW.next ?_
 refine CW.seq ?_
 refine CW.lex [.W, .L, .X, .M] rfl ?_
 refine RW.pure tabOk 1 rfl ?_
 refine RW.load tabOk [.int .i64 p0.Job.Dev, .int .i64 p0.Job.At, .int .i64 p0.Job.Table.Dev, .int .i64 p0.Job.Table.Size, .slice A3 p0.Job.Table.List_.length c_3] ((h4.at 2).take 5 rfl) ⟨rfl, rfl, rfl, rfl⟩ rfl rfl rfl rfl ?_
 refine RW.alloc tabOk (.inl rfl) ⟨rfl, rfl, rfl, rfl⟩ rfl rfl ?_
 intro b2 w2 x2 l2 h5
 have sx2 := x2.size
 have ltb2 := h5.lt
 refine RW.storeBox tabOk h5 [.int .i64 p0.Job.Dev, .int .i64 p0.Job.At, .int .i64 p0.Job.Table.Dev, .int .i64 p0.Job.Table.Size, .slice A3 p0.Job.Table.List_.length c_3] ⟨rfl, rfl, rfl⟩ rfl rfl rfl rfl rfl rfl rfl rfl ?_
 intro w3 x3 h6
 have h7 : Box w3.heap b2 59 [.int .i64 p0.Job.Dev, .int .i64 p0.Job.At, .int .i64 p0.Job.Table.Dev, .int .i64 p0.Job.Table.Size, .slice A3 p0.Job.Table.List_.length c_3] := h6
 have sx3 := x3.size
 refine RW.done ?_
 refine NW.next ?_
 refine CW.seq ?_
 refine CW.seq ?_
 refine CW.lex [.W, .L, .W] rfl ?_
 refine RW.pure tabOk 1 rfl ?_
 refine RW.load tabOk [.int .i64 p0.Job.Dev] ((h7.at 0).take 1 rfl) ⟨rfl, rfl, rfl, rfl⟩ rfl rfl rfl rfl ?_
 refine RW.pure tabOk 1 rfl ?_
 refine RW.done ?_
 refine NW.next ?_
 by_cases c1 : p0.Job.Dev = 0
 ·
  rw [if_pos c1] at H
  refine CW.cond_t rfl (beq_t c1) ?_
  refine CW.seq ?_
  refine CW.lex [.W, .L, .W, .W, .W, .L, .W, .X, .W, .W] rfl ?_
  refine RW.pure tabOk 1 rfl ?_
  refine RW.load tabOk [.int .i64 p0.Job.At] ((h7.at 1).take 1 rfl) ⟨rfl, rfl, rfl, rfl⟩ rfl rfl rfl rfl ?_
  refine RW.pure tabOk 2 rfl ?_
  by_cases c2 : p0.Job.At = 0
  ·
   rw [if_pos c2] at H
   refine RW.bool 14 (b' := true) (beq_t c2) rfl ?_
   refine RW.pure tabOk 1 rfl ?_
   refine RW.load tabOk [.int .i64 p0.Job.Table.Dev, .int .i64 p0.Job.Table.Size, .slice A3 p0.Job.Table.List_.length c_3] (h7.at 2) ⟨rfl, rfl, rfl, rfl⟩ rfl rfl rfl rfl ?_
   refine RW.pure tabOk 1 rfl ?_
   have h8 := ((h3.ext x1).ext x2).turnB x3 h5 ⟨.inr (by omega), trivial⟩
   obtain ⟨y1, h9, H⟩ := bind_some H
   refine RW.callF (.inl rfl) ent58 ⟨rfl, rfl, rfl, rfl⟩ rfl rfl (hermitageref0_EqTable.calls k p0.Job.Table A3 c_3 (⟨0, 0, ([] : List Entry)⟩ : Table) none 0 _ _ h8.all hl3 Sl.nil (Nat.le_refl 0) h9) ?_
   rintro _ w4 ⟨rfl, x4⟩
   refine ⟨_, rfl, x4, ?_⟩
   have sx4 := x4.size
   refine RW.pure tabOk 2 rfl ?_
   refine RW.done ?_
   refine NW.next ?_
   refine CW.ret ?_
   refine NW.ret_then ?_
   obtain rfl := Option.some.inj H
   have h10 := Ext.trans (Ext.turnB (Ext.trans (Ext.trans x0 x1) x2) x3 (by omega)) x4
   exact NW.ret1 rfl (by rfl) ⟨rfl, h10⟩
  ·
   rw [if_neg c2] at H
   refine RW.bool 14 (b' := false) (beq_f c2) rfl ?_
   refine RW.pure tabOk 6 rfl ?_
   refine RW.done ?_
   refine NW.next ?_
   refine CW.ret ?_
   refine NW.ret_then ?_
   obtain rfl := Option.some.inj H
   have h11 := Ext.turnB (Ext.trans (Ext.trans x0 x1) x2) x3 (by omega)
   exact NW.ret1 rfl (by rfl) ⟨rfl, h11⟩
 ·
  rw [if_neg c1] at H
  refine CW.cond_f rfl (beq_f c1) ?_
  refine CW.skip ?_
  refine NW.next ?_
  refine CW.seq ?_
  refine CW.lex [.W, .L, .W, .L, .X, .W] rfl ?_
  refine RW.pure tabOk 1 rfl ?_
  have h12 := (h4.ext x2).turnB x3 (by omega)
  refine RW.load tabOk [.slice A1 p0.Devices.length c_1] ((h12.at 0).take 1 rfl) ⟨rfl, rfl, rfl, rfl⟩ rfl rfl rfl rfl ?_
  refine RW.pure tabOk 1 rfl ?_
  refine RW.load tabOk [.int .i64 p0.Job.Dev] ((h7.at 0).take 1 rfl) ⟨rfl, rfl, rfl, rfl⟩ rfl rfl rfl rfl ?_
  have h13 := ((h1.ext x1).ext x2).turnB x3 h5 ⟨.inr (by omega), trivial⟩
  obtain ⟨y2, h14, H⟩ := bind_some H
  refine RW.callF (.inl rfl) ent35 ⟨rfl, rfl, rfl, rfl⟩ rfl rfl (hermitageref7_At.calls k A1 c_1 p0.Devices p0.Job.Dev _ _ h13.all hl1 h14) ?_
  rintro _ w5 ⟨rfl, x5⟩
  refine ⟨_, rfl, x5, ?_⟩
  have sx5 := x5.size
  refine RW.pure tabOk 1 rfl ?_
  refine RW.done ?_
  refine NW.next ?_
  refine CW.seq ?_
  refine CW.seqJ (fun a w6 => ∃ (bt73_0 : Bool), Sat 93 [(1, .pointer (some ⟨b1, 0, none⟩)), (3, .pointer (some ⟨b2, 0, none⟩)), (73, .bool bt73_0)] a ∧ w5.heap.size ≤ w6.heap.size ∧ Sl kDeviceR w6.heap (okL [(0, some w.heap.size, none)]) A1 p0.Devices ∧ Sl kTableR w6.heap (okL [(0, some w.heap.size, none)]) A2 p0.Tables ∧ Sl kEntry w6.heap (okL [(0, some w.heap.size, none)]) A3 p0.Job.Table.List_ ∧ Ext w w6 ∧ Box w6.heap b1 61 [.slice A1 p0.Devices.length c_1, .slice A2 p0.Tables.length c_2, .int .i64 p0.Job.Dev, .int .i64 p0.Job.At, .int .i64 p0.Job.Table.Dev, .int .i64 p0.Job.Table.Size, .slice A3 p0.Job.Table.List_.length c_3, .int .i64 p0.Next] ∧ Box w6.heap b2 59 [.int .i64 p0.Job.Dev, .int .i64 p0.Job.At, .int .i64 p0.Job.Table.Dev, .int .i64 p0.Job.Table.Size, .slice A3 p0.Job.Table.List_.length c_3] ∧ hermitageref9_job.j0 p0 k bt73_0 = some r) ?_ ?_
  ·
   refine CW.ord [0, 1, 3, 7, 15, 7, 39, 7, 231, 487, 999, 2023, 4095, 8191, 16383, 32767, 65535, 131071, 262143, 524287, 1048575, 2097151, 4194303, 8388607, 16777215, 4194303, 37748735, 134217727, 268435455, 536870911, 1073741823, 2147483647, 4294967295, 1073741823, 9663676415, 1073741823, 61203283967, 129922760703, 267361714175, 549755813887, 1099511627775, 2199023255551, 4398046511103, 8796093022207, 17592186044415, 4398046511103, 39582418599935, 140737488355327, 281474976710655] (ofL [(0, .W), (1, .W), (2, .W), (3, .W), (5, .W), (7, .W), (4, .L), (6, .L), (8, .W), (9, .W), (10, .L), (11, .W), (12, .X), (13, .W), (14, .W), (15, .W), (16, .W), (17, .L), (18, .X), (19, .W), (20, .W), (21, .W), (22, .W), (23, .W), (25, .W), (24, .L), (26, .L), (27, .W), (28, .W), (29, .W), (30, .W), (31, .W), (33, .W), (35, .W), (32, .L), (34, .L), (36, .W), (37, .W), (38, .L), (39, .W), (40, .W), (41, .W), (42, .W), (45, .W), (43, .L), (46, .L), (44, .X), (47, .W), (48, .W)] .nil) mixed (by kernel_rfl) ?_
   intro w7 x6
   have sx6 := x6.size
   refine RW.pure tabOk 3 rfl ?_
   by_cases c3 : y2 < 0
   ·
    rw [if_pos c3] at H
    refine RW.bool 27 (b' := true) (decide_eq_true c3) rfl ?_
    refine RW.pure tabOk 46 rfl ?_
    refine RW.done ?_
    have h15 := (h13.ext x5).ext x6
    have h16 := ((((h2.ext x1).ext x2).turnB x3 h5 ⟨.inr (by omega), trivial⟩).ext x5).ext x6
    have h17 := ((((h3.ext x1).ext x2).turnB x3 h5 ⟨.inr (by omega), trivial⟩).ext x5).ext x6
    have h18 := Ext.trans (Ext.trans (Ext.turnB (Ext.trans (Ext.trans x0 x1) x2) x3 (by omega)) x5) x6
    have h19 := (h12.ext x5).ext x6
    have h20 := (h7.ext x5).ext x6
    exact NW.J fun a ha => ⟨true, ha.sub ⟨rfl, rfl, rfl, trivial⟩, by omega, h15, h16, h17, h18, h19, h20, H⟩
   ·
    rw [if_neg c3] at H
    refine RW.bool 27 (b' := false) (decide_eq_false c3) rfl ?_
    refine RW.pure tabOk 3 rfl ?_
    have h21 := (h7.ext x5).ext x6
    refine RW.load tabOk [.int .i64 p0.Job.At] ((h21.at 1).take 1 rfl) ⟨rfl, rfl, rfl, rfl⟩ rfl rfl rfl rfl ?_
    have h22 := (h12.ext x5).ext x6
    refine RW.load tabOk [.slice A1 p0.Devices.length c_1] ((h22.at 0).take 1 rfl) ⟨rfl, rfl, rfl, rfl⟩ rfl rfl rfl rfl ?_
    obtain ⟨g1, H⟩ := guard_some H
    have h23 := (h13.ext x5).ext x6
    obtain ⟨ad1, A4, c_4, A5, c_5, e1, a1, l3, h24, l4, h25⟩ := kDeviceR_at h23 g1.1 g1.2
    refine RW.index tabOk g1.1 g1.2 e1 ⟨rfl, rfl, rfl, rfl⟩ rfl rfl rfl rfl rfl rfl ?_
    refine RW.pure tabOk 1 rfl ?_
    refine RW.load tabOk [.int .i64 ((rd p0.Devices y2).Size)] ((a1.fld 1).take 1 rfl) ⟨rfl, rfl, rfl, rfl⟩ rfl rfl rfl rfl ?_
    refine RW.pure tabOk 1 rfl ?_
    obtain ⟨y3, h26, H⟩ := bind_some H
    refine RW.callF (.inl rfl) ent50 ⟨rfl, rfl, rfl, rfl⟩ rfl rfl (hermitageref0_Num.calls p0.Job.At (w64 (((rd p0.Devices y2).Size) - 1)) _ _ h26) ?_
    rintro _ w8 ⟨rfl, x7⟩
    refine ⟨_, rfl, x7, ?_⟩
    have sx7 := x7.size
    refine RW.pure tabOk 3 rfl ?_
    by_cases c4 : y3 = true
    ·
     rw [if_pos c4] at H
     refine RW.bool 40 (b' := false) (not_f (c4)) rfl ?_
     refine RW.pure tabOk 1 rfl ?_
     have h27 := h21.ext x7
     refine RW.load tabOk [.int .i64 p0.Job.Table.Dev, .int .i64 p0.Job.Table.Size, .slice A3 p0.Job.Table.List_.length c_3] (h27.at 2) ⟨rfl, rfl, rfl, rfl⟩ rfl rfl rfl rfl ?_
     have h28 := (((((h3.ext x1).ext x2).turnB x3 h5 ⟨.inr (by omega), trivial⟩).ext x5).ext x6).ext x7
     obtain ⟨y4, h29, H⟩ := bind_some H
     refine RW.callF (.inl rfl) ent19 ⟨rfl, rfl, rfl, rfl⟩ rfl rfl (hermitageref7_Table.calls k p0.Job.Table A3 c_3 _ _ h28.all hl3 h29) ?_
     rintro _ w9 ⟨rfl, x8⟩
     refine ⟨_, rfl, x8, ?_⟩
     have sx8 := x8.size
     refine RW.pure tabOk 3 rfl ?_
     by_cases c5 : y4 = true
     ·
      rw [if_pos c5] at H
      refine RW.bool 46 (b' := false) (not_f (c5)) rfl ?_
      refine RW.pure tabOk 3 rfl ?_
      have h30 := h27.ext x8
      refine RW.load tabOk [.int .i64 p0.Job.Table.Dev] ((h30.at 2).take 1 rfl) ⟨rfl, rfl, rfl, rfl⟩ rfl rfl rfl rfl ?_
      refine RW.load tabOk [.int .i64 p0.Job.Dev] ((h30.at 0).take 1 rfl) ⟨rfl, rfl, rfl, rfl⟩ rfl rfl rfl rfl ?_
      refine RW.pure tabOk 3 rfl ?_
      by_cases c6 : p0.Job.Table.Dev = p0.Job.Dev
      ·
       rw [if_pos c6] at H
       refine RW.bool 54 (b' := false) (bne_f c6) rfl ?_
       refine RW.pure tabOk 4 rfl ?_
       refine RW.load tabOk [.int .i64 p0.Job.Table.Size] ((h30.at 3).take 1 rfl) ⟨rfl, rfl, rfl, rfl⟩ rfl rfl rfl rfl ?_
       have h31 := (h22.ext x7).ext x8
       refine RW.load tabOk [.slice A1 p0.Devices.length c_1] ((h31.at 0).take 1 rfl) ⟨rfl, rfl, rfl, rfl⟩ rfl rfl rfl rfl ?_
       obtain ⟨g2, H⟩ := guard_some H
       have h32 := (h23.ext x7).ext x8
       obtain ⟨ad2, A6, c_6, A7, c_7, e2, a2, l5, h33, l6, h34⟩ := kDeviceR_at h32 g2.1 g2.2
       refine RW.index tabOk g2.1 g2.2 e2 ⟨rfl, rfl, rfl, rfl⟩ rfl rfl rfl rfl rfl rfl ?_
       refine RW.pure tabOk 1 rfl ?_
       refine RW.load tabOk [.int .i64 ((rd p0.Devices y2).Size)] ((a2.fld 1).take 1 rfl) ⟨rfl, rfl, rfl, rfl⟩ rfl rfl rfl rfl ?_
       refine RW.pure tabOk 3 rfl ?_
       by_cases c7 : p0.Job.Table.Size = (rd p0.Devices y2).Size
       ·
        rw [if_pos c7] at H
        refine RW.bool 66 (b' := false) (bne_f c7) rfl ?_
        refine RW.pure tabOk 2 rfl ?_
        refine RW.load tabOk [.int .i64 p0.Job.Table.Dev, .int .i64 p0.Job.Table.Size, .slice A3 p0.Job.Table.List_.length c_3] (h30.at 2) ⟨rfl, rfl, rfl, rfl⟩ rfl rfl rfl rfl ?_
        refine RW.load tabOk [.int .i64 p0.Job.At] ((h30.at 1).take 1 rfl) ⟨rfl, rfl, rfl, rfl⟩ rfl rfl rfl rfl ?_
        have h35 := h28.ext x8
        obtain ⟨y5, h36, H⟩ := bind_some H
        refine RW.callF (.inl rfl) ent52 ⟨rfl, rfl, rfl, rfl⟩ rfl rfl (hermitageref7_End.calls p0.Job.Table A3 c_3 _ _ h35.all hl3 h36) ?_
        rintro _ w10 ⟨rfl, x9⟩
        refine ⟨_, rfl, x9, ?_⟩
        have sx9 := x9.size
        refine RW.pure tabOk 2 rfl ?_
        refine RW.done ?_
        have h37 := h32.ext x9
        have h38 := (((((((h2.ext x1).ext x2).turnB x3 h5 ⟨.inr (by omega), trivial⟩).ext x5).ext x6).ext x7).ext x8).ext x9
        have h39 := h35.ext x9
        have h40 := Ext.trans (Ext.trans (Ext.trans (Ext.trans (Ext.trans (Ext.turnB (Ext.trans (Ext.trans x0 x1) x2) x3 (by omega)) x5) x6) x7) x8) x9
        have h41 := h31.ext x9
        have h42 := h30.ext x9
        exact NW.J fun a ha => ⟨(decide (p0.Job.At < y5)), ha.sub ⟨rfl, rfl, rfl, trivial⟩, by omega, h37, h38, h39, h40, h41, h42, H⟩
       ·
        rw [if_neg c7] at H
        refine RW.bool 66 (b' := true) (bne_t c7) rfl ?_
        refine RW.pure tabOk 7 rfl ?_
        refine RW.done ?_
        have h43 := ((((((h2.ext x1).ext x2).turnB x3 h5 ⟨.inr (by omega), trivial⟩).ext x5).ext x6).ext x7).ext x8
        have h44 := h28.ext x8
        have h45 := Ext.trans (Ext.trans (Ext.trans (Ext.trans (Ext.turnB (Ext.trans (Ext.trans x0 x1) x2) x3 (by omega)) x5) x6) x7) x8
        exact NW.J fun a ha => ⟨true, ha.sub ⟨rfl, rfl, rfl, trivial⟩, by omega, h32, h43, h44, h45, h31, h30, H⟩
      ·
       rw [if_neg c6] at H
       refine RW.bool 54 (b' := true) (bne_t c6) rfl ?_
       refine RW.pure tabOk 19 rfl ?_
       refine RW.done ?_
       have h46 := (h23.ext x7).ext x8
       have h47 := ((((((h2.ext x1).ext x2).turnB x3 h5 ⟨.inr (by omega), trivial⟩).ext x5).ext x6).ext x7).ext x8
       have h48 := h28.ext x8
       have h49 := Ext.trans (Ext.trans (Ext.trans (Ext.trans (Ext.turnB (Ext.trans (Ext.trans x0 x1) x2) x3 (by omega)) x5) x6) x7) x8
       have h50 := (h22.ext x7).ext x8
       exact NW.J fun a ha => ⟨true, ha.sub ⟨rfl, rfl, rfl, trivial⟩, by omega, h46, h47, h48, h49, h50, h30, H⟩
     ·
      rw [if_neg c5] at H
      refine RW.bool 46 (b' := true) (not_t (bool_f c5)) rfl ?_
      refine RW.pure tabOk 27 rfl ?_
      refine RW.done ?_
      have h51 := (h23.ext x7).ext x8
      have h52 := ((((((h2.ext x1).ext x2).turnB x3 h5 ⟨.inr (by omega), trivial⟩).ext x5).ext x6).ext x7).ext x8
      have h53 := h28.ext x8
      have h54 := Ext.trans (Ext.trans (Ext.trans (Ext.trans (Ext.turnB (Ext.trans (Ext.trans x0 x1) x2) x3 (by omega)) x5) x6) x7) x8
      have h55 := (h22.ext x7).ext x8
      have h56 := h27.ext x8
      exact NW.J fun a ha => ⟨true, ha.sub ⟨rfl, rfl, rfl, trivial⟩, by omega, h51, h52, h53, h54, h55, h56, H⟩
    ·
     rw [if_neg c4] at H
     refine RW.bool 40 (b' := true) (not_t (bool_f c4)) rfl ?_
     refine RW.pure tabOk 33 rfl ?_
     refine RW.done ?_
     have h57 := h23.ext x7
     have h58 := (((((h2.ext x1).ext x2).turnB x3 h5 ⟨.inr (by omega), trivial⟩).ext x5).ext x6).ext x7
     have h59 := (((((h3.ext x1).ext x2).turnB x3 h5 ⟨.inr (by omega), trivial⟩).ext x5).ext x6).ext x7
     have h60 := Ext.trans (Ext.trans (Ext.trans (Ext.turnB (Ext.trans (Ext.trans x0 x1) x2) x3 (by omega)) x5) x6) x7
     have h61 := h22.ext x7
     have h62 := h21.ext x7
     exact NW.J fun a ha => ⟨true, ha.sub ⟨rfl, rfl, rfl, trivial⟩, by omega, h57, h58, h59, h60, h61, h62, H⟩
  intro a w6 hJ hp
  obtain ⟨bt73_0, hS, hle, gF1_0, gF2_0, gF3_0, x0_0, gb1_0, gb2_0, H⟩ := hJ
  unfold hermitageref9_job.j0 at H
  refine CW.go hp hS ?_
  by_cases c8 : bt73_0 = true
  ·
   rw [if_pos c8] at H
   refine CW.cond_t rfl (c8) ?_
   refine CW.seq ?_
   refine CW.lex [.W] rfl ?_
   refine RW.pure tabOk 1 rfl ?_
   refine RW.done ?_
   refine NW.next ?_
   refine CW.ret ?_
   refine NW.ret_then ?_
   obtain rfl := Option.some.inj H
   exact NW.ret1 rfl (by rfl) ⟨rfl, x0_0⟩
  ·
   rw [if_neg c8] at H
   refine CW.cond_f rfl (bool_f c8) ?_
   refine CW.skip ?_
   refine NW.next ?_
   refine CW.seq ?_
   refine CW.seq ?_
   refine CW.lex [.W] rfl ?_
   refine RW.pure tabOk 1 rfl ?_
   refine RW.done ?_
   refine NW.next ?_
   refine CW.block ?_
   refine CW.loop (fun n1 a w11 => ∃ (it5_1 : Int), Sat 93 [(1, .pointer (some ⟨b1, 0, none⟩)), (3, .pointer (some ⟨b2, 0, none⟩)), (5, .int .i64 it5_1)] a ∧ w6.heap.size ≤ w11.heap.size ∧ Sl kDeviceR w11.heap (okL [(0, some w.heap.size, none)]) A1 p0.Devices ∧ Sl kTableR w11.heap (okL [(0, some w.heap.size, none)]) A2 p0.Tables ∧ Sl kEntry w11.heap (okL [(0, some w.heap.size, none)]) A3 p0.Job.Table.List_ ∧ Ext w w11 ∧ Box w11.heap b1 61 [.slice A1 p0.Devices.length c_1, .slice A2 p0.Tables.length c_2, .int .i64 p0.Job.Dev, .int .i64 p0.Job.At, .int .i64 p0.Job.Table.Dev, .int .i64 p0.Job.Table.Size, .slice A3 p0.Job.Table.List_.length c_3, .int .i64 p0.Next] ∧ Box w11.heap b2 59 [.int .i64 p0.Job.Dev, .int .i64 p0.Job.At, .int .i64 p0.Job.Table.Dev, .int .i64 p0.Job.Table.Size, .slice A3 p0.Job.Table.List_.length c_3] ∧ hermitageref9_job.l0 p0 k n1 it5_1 = some r) k ?_ ?_
   · exact fun a ha => ⟨0, ha.sub ⟨rfl, rfl, rfl, trivial⟩, by omega, gF1_0, gF2_0, gF3_0, x0_0, gb1_0, gb2_0, H⟩
   intro n1 a w11 hI hp
   obtain ⟨it5_1, hS, hle, gF1_1, gF2_1, gF3_1, x0_1, gb1_1, gb2_1, H⟩ := hI
   cases n1 with
   | zero => cases H
   | succ n1 =>
    rw [hermitageref9_job.l0] at H
    refine CW.go hp hS ?_
    refine CW.seq ?_
    refine CW.seq ?_
    refine CW.lex [.W, .W, .W, .L, .W, .W] rfl ?_
    refine RW.pure tabOk 3 rfl ?_
    refine RW.load tabOk [.slice A3 p0.Job.Table.List_.length c_3] (gb2_1.at 4) ⟨rfl, rfl, rfl, rfl⟩ rfl rfl rfl rfl ?_
    refine RW.pure tabOk 2 rfl ?_
    refine RW.done ?_
    refine NW.next ?_
    by_cases c9 : it5_1 < (p0.Job.Table.List_.length : Int)
    ·
     rw [if_pos c9] at H
     refine CW.cond_t rfl (decide_eq_true c9) ?_
     refine CW.skip ?_
     refine NW.next ?_
     refine CW.seq ?_
     refine CW.block ?_
     refine CW.seq ?_
     refine CW.ord [0, 1, 0, 4, 12, 0, 60, 124, 252, 511, 1023] (ofL [(0, .W), (2, .W), (3, .W), (5, .W), (1, .L), (4, .L), (6, .W), (7, .W), (8, .L), (9, .X), (10, .W)] .nil) mixed (by kernel_rfl) ?_
     intro w12 x10
     have sx10 := x10.size
     refine RW.pure tabOk 4 rfl ?_
     have h63 := gb1_1.ext x10
     refine RW.load tabOk [.slice A1 p0.Devices.length c_1] ((h63.at 0).take 1 rfl) ⟨rfl, rfl, rfl, rfl⟩ rfl rfl rfl rfl ?_
     have h64 := gb2_1.ext x10
     refine RW.load tabOk [.slice A3 p0.Job.Table.List_.length c_3] (h64.at 4) ⟨rfl, rfl, rfl, rfl⟩ rfl rfl rfl rfl ?_
     obtain ⟨g3, H⟩ := guard_some H
     have h65 := gF3_1.ext x10
     obtain ⟨ad3, e3, a3⟩ := kEntry_at h65 g3.1 g3.2
     refine RW.index tabOk g3.1 g3.2 e3 ⟨rfl, rfl, rfl, rfl⟩ rfl rfl rfl rfl rfl rfl ?_
     refine RW.pure tabOk 1 rfl ?_
     refine RW.load tabOk [.int .i64 ((rd p0.Job.Table.List_ it5_1).Dev)] ((a3.fld 2).take 1 rfl) ⟨rfl, rfl, rfl, rfl⟩ rfl rfl rfl rfl ?_
     have h66 := gF1_1.ext x10
     obtain ⟨y6, h67, H⟩ := bind_some H
     refine RW.callF (.inl rfl) ent35 ⟨rfl, rfl, rfl, rfl⟩ rfl rfl (hermitageref7_At.calls k A1 c_1 p0.Devices ((rd p0.Job.Table.List_ it5_1).Dev) _ _ h66.all hl1 h67) ?_
     rintro _ w13 ⟨rfl, x11⟩
     refine ⟨_, rfl, x11, ?_⟩
     have sx11 := x11.size
     refine RW.pure tabOk 1 rfl ?_
     refine RW.done ?_
     refine NW.next ?_
     by_cases c10 : y6 < 0
     ·
      rw [if_pos c10] at H
      refine CW.cond_t rfl (decide_eq_true c10) ?_
      refine CW.seq ?_
      refine CW.lex [.W] rfl ?_
      refine RW.pure tabOk 1 rfl ?_
      refine RW.done ?_
      refine NW.next ?_
      refine CW.ret ?_
      refine NW.ret_block (NW.ret_then (NW.ret_then (NW.ret_block (NW.ret_then ?_))))
      obtain rfl := Option.some.inj H
      have h68 := Ext.trans (Ext.trans x0_1 x10) x11
      exact NW.ret1 rfl (by rfl) ⟨rfl, h68⟩
     ·
      rw [if_neg c10] at H
      refine CW.cond_f rfl (decide_eq_false c10) ?_
      refine CW.skip ?_
      refine NW.norm_block (NW.next ?_)
      refine CW.lex [.W, .W, .W] rfl ?_
      refine RW.pure tabOk 3 rfl ?_
      refine RW.done ?_
      have h69 := h66.ext x11
      have h70 := (gF2_1.ext x10).ext x11
      have h71 := h65.ext x11
      have h72 := Ext.trans (Ext.trans x0_1 x10) x11
      have h73 := h63.ext x11
      have h74 := h64.ext x11
      exact NW.J fun a ha => ⟨n1, Nat.lt_succ_self n1, (w64 (it5_1 + 1)), ha.sub ⟨rfl, rfl, rfl, trivial⟩, by omega, h69, h70, h71, h72, h73, h74, H⟩
    ·
     rw [if_neg c9] at H
     refine CW.cond_f rfl (decide_eq_false c9) ?_
     refine CW.exit ?_
     refine NW.exit_then (NW.exit_then (NW.exit_hit ?_))
     refine NW.next ?_
     refine CW.seq ?_
     refine CW.lex [.W] rfl ?_
     refine RW.pure tabOk 1 rfl ?_
     refine RW.done ?_
     refine NW.next ?_
     refine CW.ret ?_
     obtain rfl := Option.some.inj H
     exact NW.ret1 rfl (by rfl) ⟨rfl, x0_1⟩

set_option maxHeartbeats 4000000 in
set_option maxRecDepth 100000 in
theorem hermitageref9_Pool.calls (k : Nat) (p0 : Pool) (A1 : Option Addr) (c_1 : Nat) (A2 : Option Addr) (c_2 : Nat) (A3 : Option Addr) (c_3 : Nat) (r : Bool) (w : World) (hs1 : Sl kDeviceR w.heap okAll A1 p0.Devices) (hl1 : p0.Devices.length ≤ c_1) (hs2 : Sl kTableR w.heap okAll A2 p0.Tables) (hl2 : p0.Tables.length ≤ c_2) (hs3 : Sl kEntry w.heap okAll A3 p0.Job.Table.List_) (hl3 : p0.Job.Table.List_.length ≤ c_3) (H : hermitageref9_Pool.f k p0 = some r) :
    Calls Try.prog 29 #[.agg #[.slice A1 p0.Devices.length c_1, .slice A2 p0.Tables.length c_2, .int .i64 p0.Job.Dev, .int .i64 p0.Job.At, .int .i64 p0.Job.Table.Dev, .int .i64 p0.Job.Table.Size, .slice A3 p0.Job.Table.List_.length c_3, .int .i64 p0.Next]] w fun e w' => e = .returned (.bool r) ∧ Ext w w' := by
 have h1 : Sl kDeviceR w.heap (okL [(0, some w.heap.size, none)]) A1 p0.Devices := hs1.old _ rfl
 have h2 : Sl kTableR w.heap (okL [(0, some w.heap.size, none)]) A2 p0.Tables := hs2.old _ rfl
 have h3 : Sl kEntry w.heap (okL [(0, some w.heap.size, none)]) A3 p0.Job.Table.List_ := hs3.old _ rfl
 have x0 : Ext w w := Upd.refl _ w
 unfold hermitageref9_Pool.f at H
 refine calls_start Try.func29 rfl 162 rfl [.agg #[.slice A1 p0.Devices.length c_1, .slice A2 p0.Tables.length c_2, .int .i64 p0.Job.Dev, .int .i64 p0.Job.At, .int .i64 p0.Job.Table.Dev, .int .i64 p0.Job.Table.Size, .slice A3 p0.Job.Table.List_.length c_3, .int .i64 p0.Next]] rfl ?_
 refine CW.seq ?_
 refine CW.lex [.X, .W] rfl ?_
 refine RW.box (cs := [.slice A1 p0.Devices.length c_1, .slice A2 p0.Tables.length c_2, .int .i64 p0.Job.Dev, .int .i64 p0.Job.At, .int .i64 p0.Job.Table.Dev, .int .i64 p0.Job.Table.Size, .slice A3 p0.Job.Table.List_.length c_3, .int .i64 p0.Next]) (.inl rfl) ⟨rfl, rfl, rfl, rfl⟩ rfl rfl rfl ?_
 intro b1 w1 x1 l1 h4
 have sx1 := x1.size
 have ltb1 := h4.lt
 refine RW.pure tabOk 1 rfl ?_
 refine RW.done ?_
 refine NW.next ?_
 refine CW.seq ?_
 refine CW.seqJ (fun a w2 => ∃ (bt37_0 : Bool), Sat 162 [(1, .pointer (some ⟨b1, 0, none⟩)), (37, .bool bt37_0)] a ∧ w1.heap.size ≤ w2.heap.size ∧ Sl kDeviceR w2.heap (okL [(0, some w.heap.size, none)]) A1 p0.Devices ∧ Sl kTableR w2.heap (okL [(0, some w.heap.size, none)]) A2 p0.Tables ∧ Sl kEntry w2.heap (okL [(0, some w.heap.size, none)]) A3 p0.Job.Table.List_ ∧ Ext w w2 ∧ Box w2.heap b1 61 [.slice A1 p0.Devices.length c_1, .slice A2 p0.Tables.length c_2, .int .i64 p0.Job.Dev, .int .i64 p0.Job.At, .int .i64 p0.Job.Table.Dev, .int .i64 p0.Job.Table.Size, .slice A3 p0.Job.Table.List_.length c_3, .int .i64 p0.Next] ∧ hermitageref9_Pool.j0 p0 k bt37_0 = some r) ?_ ?_
 ·
  refine CW.lex [.W, .L, .X, .W, .W, .W, .L, .W, .W, .W, .W, .W, .W, .L, .W, .W, .W, .L, .W, .W, .W, .W, .W, .W, .L, .X, .W, .W] rfl ?_
  refine RW.pure tabOk 1 rfl ?_
  refine RW.load tabOk [.slice A1 p0.Devices.length c_1] ((h4.at 0).take 1 rfl) ⟨rfl, rfl, rfl, rfl⟩ rfl rfl rfl rfl ?_
  have h5 := h1.ext x1
  obtain ⟨y1, h6, H⟩ := bind_some H
  refine RW.callF (.inl rfl) ent69 ⟨rfl, rfl, rfl, rfl⟩ rfl rfl (hermitageref7_Devices.calls k A1 c_1 p0.Devices _ _ h5.all hl1 h6) ?_
  rintro _ w3 ⟨rfl, x2⟩
  refine ⟨_, rfl, x2, ?_⟩
  have sx2 := x2.size
  refine RW.pure tabOk 2 rfl ?_
  by_cases c1 : y1 = true
  ·
   rw [if_pos c1] at H
   refine RW.bool 14 (b' := false) (not_f (c1)) rfl ?_
   refine RW.pure tabOk 1 rfl ?_
   have h7 := h4.ext x2
   refine RW.load tabOk [.slice A2 p0.Tables.length c_2] ((h7.at 1).take 1 rfl) ⟨rfl, rfl, rfl, rfl⟩ rfl rfl rfl rfl ?_
   refine RW.pure tabOk 4 rfl ?_
   by_cases c2 : 12 < (p0.Tables.length : Int)
   ·
    rw [if_pos c2] at H
    refine RW.bool 20 (b' := true) (decide_eq_true c2) rfl ?_
    refine RW.pure tabOk 17 rfl ?_
    refine RW.done ?_
    have h8 := h5.ext x2
    have h9 := (h2.ext x1).ext x2
    have h10 := (h3.ext x1).ext x2
    have h11 := Ext.trans (Ext.trans x0 x1) x2
    exact NW.J fun a ha => ⟨true, ha.sub ⟨rfl, rfl, trivial⟩, by omega, h8, h9, h10, h11, h7, H⟩
   ·
    rw [if_neg c2] at H
    refine RW.bool 20 (b' := false) (decide_eq_false c2) rfl ?_
    refine RW.pure tabOk 2 rfl ?_
    refine RW.load tabOk [.int .i64 p0.Job.Dev] ((h7.at 2).take 1 rfl) ⟨rfl, rfl, rfl, rfl⟩ rfl rfl rfl rfl ?_
    refine RW.pure tabOk 2 rfl ?_
    by_cases c3 : p0.Job.Dev = 0
    ·
     rw [if_pos c3] at H
     refine RW.bool 25 (b' := false) (bne_f c3) rfl ?_
     refine RW.pure tabOk 8 rfl ?_
     refine RW.load tabOk [.int .i64 p0.Next] (h7.at 7) ⟨rfl, rfl, rfl, rfl⟩ rfl rfl rfl rfl ?_
     obtain ⟨y2, h12, H⟩ := bind_some H
     refine RW.callF (.inl rfl) ent37 ⟨rfl, rfl, rfl, rfl⟩ rfl rfl (hermitageref0_Between.calls p0.Next 1 41 _ _ h12) ?_
     rintro _ w4 ⟨rfl, x3⟩
     refine ⟨_, rfl, x3, ?_⟩
     have sx3 := x3.size
     refine RW.pure tabOk 2 rfl ?_
     refine RW.done ?_
     have h13 := (h5.ext x2).ext x3
     have h14 := ((h2.ext x1).ext x2).ext x3
     have h15 := ((h3.ext x1).ext x2).ext x3
     have h16 := Ext.trans (Ext.trans (Ext.trans x0 x1) x2) x3
     have h17 := h7.ext x3
     exact NW.J fun a ha => ⟨(!y2), ha.sub ⟨rfl, rfl, trivial⟩, by omega, h13, h14, h15, h16, h17, H⟩
    ·
     rw [if_neg c3] at H
     refine RW.bool 25 (b' := true) (bne_t c3) rfl ?_
     refine RW.pure tabOk 1 rfl ?_
     refine RW.load tabOk [.slice A2 p0.Tables.length c_2] ((h7.at 1).take 1 rfl) ⟨rfl, rfl, rfl, rfl⟩ rfl rfl rfl rfl ?_
     refine RW.pure tabOk 5 rfl ?_
     by_cases c4 : 12 ≤ (p0.Tables.length : Int)
     ·
      rw [if_pos c4] at H
      refine RW.bool 32 (b' := true) (decide_eq_true c4) rfl ?_
      refine RW.pure tabOk 5 rfl ?_
      refine RW.done ?_
      have h18 := h5.ext x2
      have h19 := (h2.ext x1).ext x2
      have h20 := (h3.ext x1).ext x2
      have h21 := Ext.trans (Ext.trans x0 x1) x2
      exact NW.J fun a ha => ⟨true, ha.sub ⟨rfl, rfl, trivial⟩, by omega, h18, h19, h20, h21, h7, H⟩
     ·
      rw [if_neg c4] at H
      refine RW.bool 32 (b' := false) (decide_eq_false c4) rfl ?_
      refine RW.pure tabOk 1 rfl ?_
      refine RW.load tabOk [.int .i64 p0.Next] (h7.at 7) ⟨rfl, rfl, rfl, rfl⟩ rfl rfl rfl rfl ?_
      obtain ⟨y3, h22, H⟩ := bind_some H
      refine RW.callF (.inl rfl) ent37 ⟨rfl, rfl, rfl, rfl⟩ rfl rfl (hermitageref0_Between.calls p0.Next 1 41 _ _ h22) ?_
      rintro _ w5 ⟨rfl, x4⟩
      refine ⟨_, rfl, x4, ?_⟩
      have sx4 := x4.size
      refine RW.pure tabOk 2 rfl ?_
      refine RW.done ?_
      have h23 := (h5.ext x2).ext x4
      have h24 := ((h2.ext x1).ext x2).ext x4
      have h25 := ((h3.ext x1).ext x2).ext x4
      have h26 := Ext.trans (Ext.trans (Ext.trans x0 x1) x2) x4
      have h27 := h7.ext x4
      exact NW.J fun a ha => ⟨(!y3), ha.sub ⟨rfl, rfl, trivial⟩, by omega, h23, h24, h25, h26, h27, H⟩
  ·
   rw [if_neg c1] at H
   refine RW.bool 14 (b' := true) (not_t (bool_f c1)) rfl ?_
   refine RW.pure tabOk 23 rfl ?_
   refine RW.done ?_
   have h28 := h5.ext x2
   have h29 := (h2.ext x1).ext x2
   have h30 := (h3.ext x1).ext x2
   have h31 := Ext.trans (Ext.trans x0 x1) x2
   have h32 := h4.ext x2
   exact NW.J fun a ha => ⟨true, ha.sub ⟨rfl, rfl, trivial⟩, by omega, h28, h29, h30, h31, h32, H⟩
 intro a w2 hJ hp
 obtain ⟨bt37_0, hS, hle, gF1_0, gF2_0, gF3_0, x0_0, gb1_0, H⟩ := hJ
 unfold hermitageref9_Pool.j0 at H
 refine CW.go hp hS ?_
 by_cases c5 : bt37_0 = true
 ·
  rw [if_pos c5] at H
  refine CW.cond_t rfl (c5) ?_
  refine CW.seq ?_
  refine CW.lex [.W] rfl ?_
  refine RW.pure tabOk 1 rfl ?_
  refine RW.done ?_
  refine NW.next ?_
  refine CW.ret ?_
  refine NW.ret_then ?_
  obtain rfl := Option.some.inj H
  exact NW.ret1 rfl (by rfl) ⟨rfl, x0_0⟩
 ·
  rw [if_neg c5] at H
  refine CW.cond_f rfl (bool_f c5) ?_
  refine CW.skip ?_
  refine NW.next ?_
  refine CW.seq ?_
  refine CW.lex [.W] rfl ?_
  refine RW.pure tabOk 1 rfl ?_
  refine RW.done ?_
  refine NW.next ?_
  refine CW.seq ?_
  refine CW.seq ?_
  refine CW.lex [.W] rfl ?_
  refine RW.pure tabOk 1 rfl ?_
  refine RW.done ?_
  refine NW.next ?_
  refine CW.block ?_
  refine CW.loop (fun n1 a w6 => ∃ (it3_1 : Int) (it4_1 : Int), Sat 162 [(1, .pointer (some ⟨b1, 0, none⟩)), (3, .int .i64 it3_1), (4, .int .i64 it4_1)] a ∧ w2.heap.size ≤ w6.heap.size ∧ Sl kDeviceR w6.heap (okL [(0, some w.heap.size, none)]) A1 p0.Devices ∧ Sl kTableR w6.heap (okL [(0, some w.heap.size, none)]) A2 p0.Tables ∧ Sl kEntry w6.heap (okL [(0, some w.heap.size, none)]) A3 p0.Job.Table.List_ ∧ Ext w w6 ∧ Box w6.heap b1 61 [.slice A1 p0.Devices.length c_1, .slice A2 p0.Tables.length c_2, .int .i64 p0.Job.Dev, .int .i64 p0.Job.At, .int .i64 p0.Job.Table.Dev, .int .i64 p0.Job.Table.Size, .slice A3 p0.Job.Table.List_.length c_3, .int .i64 p0.Next] ∧ hermitageref9_Pool.l0 p0 k n1 it3_1 it4_1 = some r) k ?_ ?_
  · exact fun a ha => ⟨0, 0, ha.sub ⟨rfl, rfl, rfl, trivial⟩, by omega, gF1_0, gF2_0, gF3_0, x0_0, gb1_0, H⟩
  intro n1 a w6 hI hp
  obtain ⟨it3_1, it4_1, hS, hle, gF1_1, gF2_1, gF3_1, x0_1, gb1_1, H⟩ := hI
  cases n1 with
  | zero => cases H
  | succ n1 =>
   rw [hermitageref9_Pool.l0] at H
   refine CW.go hp hS ?_
   refine CW.seq ?_
   refine CW.seq ?_
   refine CW.lex [.W, .W, .L, .W, .W] rfl ?_
   refine RW.pure tabOk 2 rfl ?_
   refine RW.load tabOk [.slice A1 p0.Devices.length c_1] ((gb1_1.at 0).take 1 rfl) ⟨rfl, rfl, rfl, rfl⟩ rfl rfl rfl rfl ?_
   refine RW.pure tabOk 2 rfl ?_
   refine RW.done ?_
   refine NW.next ?_
   by_cases c6 : it4_1 < (p0.Devices.length : Int)
   ·
    rw [if_pos c6] at H
    refine CW.cond_t rfl (decide_eq_true c6) ?_
    refine CW.skip ?_
    refine NW.next ?_
    refine CW.seqJ (fun a w7 => ∃ (it3_2 : Int), Sat 162 [(1, .pointer (some ⟨b1, 0, none⟩)), (3, .int .i64 it3_2), (4, .int .i64 it4_1)] a ∧ w6.heap.size ≤ w7.heap.size ∧ Sl kDeviceR w7.heap (okL [(0, some w.heap.size, none)]) A1 p0.Devices ∧ Sl kTableR w7.heap (okL [(0, some w.heap.size, none)]) A2 p0.Tables ∧ Sl kEntry w7.heap (okL [(0, some w.heap.size, none)]) A3 p0.Job.Table.List_ ∧ Ext w w7 ∧ Box w7.heap b1 61 [.slice A1 p0.Devices.length c_1, .slice A2 p0.Tables.length c_2, .int .i64 p0.Job.Dev, .int .i64 p0.Job.At, .int .i64 p0.Job.Table.Dev, .int .i64 p0.Job.Table.Size, .slice A3 p0.Job.Table.List_.length c_3, .int .i64 p0.Next] ∧ hermitageref9_Pool.j1 it4_1 (hermitageref9_Pool.l0 p0 k n1) it3_2 = some r) ?_ ?_
    ·
     refine CW.block ?_
     refine CW.seq ?_
     refine CW.seq ?_
     refine CW.ord [0, 1, 0, 7, 15, 31, 0, 64, 255] (ofL [(0, .W), (2, .W), (6, .W), (1, .L), (3, .W), (4, .W), (5, .L), (7, .L), (8, .W)] .nil) mixed (by kernel_rfl) ?_
     intro w8 x5
     have sx5 := x5.size
     refine RW.pure tabOk 3 rfl ?_
     have h33 := gb1_1.ext x5
     refine RW.load tabOk [.slice A1 p0.Devices.length c_1] ((h33.at 0).take 1 rfl) ⟨rfl, rfl, rfl, rfl⟩ rfl rfl rfl rfl ?_
     obtain ⟨g1, H⟩ := guard_some H
     have h34 := gF1_1.ext x5
     obtain ⟨ad1, A4, c_4, A5, c_5, e1, a1, l2, h35, l3, h36⟩ := kDeviceR_at h34 g1.1 g1.2
     refine RW.index tabOk g1.1 g1.2 e1 ⟨rfl, rfl, rfl, rfl⟩ rfl rfl rfl rfl rfl rfl ?_
     refine RW.pure tabOk 1 rfl ?_
     refine RW.load tabOk [.int .i64 ((rd p0.Devices it4_1).ID)] ((a1.fld 0).take 1 rfl) ⟨rfl, rfl, rfl, rfl⟩ rfl rfl rfl rfl ?_
     refine RW.load tabOk [.int .i64 p0.Next] (h33.at 7) ⟨rfl, rfl, rfl, rfl⟩ rfl rfl rfl rfl ?_
     refine RW.pure tabOk 1 rfl ?_
     refine RW.done ?_
     refine NW.next ?_
     by_cases c7 : p0.Next ≤ ((rd p0.Devices it4_1).ID)
     ·
      rw [if_pos c7] at H
      refine CW.cond_t rfl (decide_eq_true c7) ?_
      refine CW.seq ?_
      refine CW.lex [.W] rfl ?_
      refine RW.pure tabOk 1 rfl ?_
      refine RW.done ?_
      refine NW.next ?_
      refine CW.ret ?_
      refine NW.ret_then (NW.ret_block (NW.ret_then (NW.ret_then (NW.ret_block (NW.ret_then ?_)))))
      obtain rfl := Option.some.inj H
      have h37 := Ext.trans x0_1 x5
      exact NW.ret1 rfl (by rfl) ⟨rfl, h37⟩
     ·
      rw [if_neg c7] at H
      refine CW.cond_f rfl (decide_eq_false c7) ?_
      refine CW.skip ?_
      refine NW.next ?_
      refine CW.seq ?_
      refine CW.ord [0, 1, 0, 7, 15, 31, 0, 64, 192, 511] (ofL [(0, .W), (2, .W), (6, .W), (7, .W), (1, .L), (3, .W), (4, .W), (5, .L), (8, .L), (9, .W)] .nil) mixed (by kernel_rfl) ?_
      intro w9 x6
      have sx6 := x6.size
      refine RW.pure tabOk 4 rfl ?_
      have h38 := h33.ext x6
      refine RW.load tabOk [.slice A1 p0.Devices.length c_1] ((h38.at 0).take 1 rfl) ⟨rfl, rfl, rfl, rfl⟩ rfl rfl rfl rfl ?_
      obtain ⟨g2, H⟩ := guard_some H
      have h39 := h34.ext x6
      obtain ⟨ad2, A6, c_6, A7, c_7, e2, a2, l4, h40, l5, h41⟩ := kDeviceR_at h39 g2.1 g2.2
      refine RW.index tabOk g2.1 g2.2 e2 ⟨rfl, rfl, rfl, rfl⟩ rfl rfl rfl rfl rfl rfl ?_
      refine RW.pure tabOk 1 rfl ?_
      refine RW.load tabOk [.int .i64 ((rd p0.Devices it4_1).ID)] ((a2.fld 0).take 1 rfl) ⟨rfl, rfl, rfl, rfl⟩ rfl rfl rfl rfl ?_
      refine RW.load tabOk [.int .i64 p0.Job.Dev] ((h38.at 2).take 1 rfl) ⟨rfl, rfl, rfl, rfl⟩ rfl rfl rfl rfl ?_
      refine RW.pure tabOk 1 rfl ?_
      refine RW.done ?_
      refine NW.next ?_
      by_cases c8 : (rd p0.Devices it4_1).ID = p0.Job.Dev
      ·
       rw [if_pos c8] at H
       refine CW.cond_f rfl (bne_f c8) ?_
       refine CW.skip ?_
       refine NW.norm_block ?_
       have h42 := (gF2_1.ext x5).ext x6
       have h43 := (gF3_1.ext x5).ext x6
       have h44 := Ext.trans (Ext.trans x0_1 x5) x6
       exact NW.J fun a ha => ⟨it3_1, ha.sub ⟨rfl, rfl, rfl, trivial⟩, by omega, h39, h42, h43, h44, h38, H⟩
      ·
       rw [if_neg c8] at H
       refine CW.cond_t rfl (bne_t c8) ?_
       refine CW.lex [.W, .W, .W] rfl ?_
       refine RW.pure tabOk 3 rfl ?_
       refine RW.done ?_
       refine NW.norm_block ?_
       have h45 := (gF2_1.ext x5).ext x6
       have h46 := (gF3_1.ext x5).ext x6
       have h47 := Ext.trans (Ext.trans x0_1 x5) x6
       exact NW.J fun a ha => ⟨(w64 (it3_1 + 1)), ha.sub ⟨rfl, rfl, rfl, trivial⟩, by omega, h39, h45, h46, h47, h38, H⟩
    intro a w7 hJ hp
    obtain ⟨it3_2, hS, hle, gF1_2, gF2_2, gF3_2, x0_2, gb1_2, H⟩ := hJ
    unfold hermitageref9_Pool.j1 at H
    refine CW.go hp hS ?_
    refine CW.lex [.W, .W, .W] rfl ?_
    refine RW.pure tabOk 3 rfl ?_
    refine RW.done ?_
    exact NW.J fun a ha => ⟨n1, Nat.lt_succ_self n1, it3_2, (w64 (it4_1 + 1)), ha.sub ⟨rfl, rfl, rfl, trivial⟩, by omega, gF1_2, gF2_2, gF3_2, x0_2, gb1_2, H⟩
   ·
    rw [if_neg c6] at H
    refine CW.cond_f rfl (decide_eq_false c6) ?_
    refine CW.exit ?_
    refine NW.exit_then (NW.exit_then (NW.exit_hit ?_))
    refine NW.next ?_
    refine CW.seq ?_
    refine CW.seq ?_
    refine CW.lex [.W] rfl ?_
    refine RW.pure tabOk 1 rfl ?_
    refine RW.done ?_
    refine NW.next ?_
    refine CW.block ?_
    refine CW.loop (fun n2 a w10 => ∃ (it5_3 : Int), Sat 162 [(1, .pointer (some ⟨b1, 0, none⟩)), (3, .int .i64 it3_1), (5, .int .i64 it5_3)] a ∧ w6.heap.size ≤ w10.heap.size ∧ Sl kDeviceR w10.heap (okL [(0, some w.heap.size, none)]) A1 p0.Devices ∧ Sl kTableR w10.heap (okL [(0, some w.heap.size, none)]) A2 p0.Tables ∧ Sl kEntry w10.heap (okL [(0, some w.heap.size, none)]) A3 p0.Job.Table.List_ ∧ Ext w w10 ∧ Box w10.heap b1 61 [.slice A1 p0.Devices.length c_1, .slice A2 p0.Tables.length c_2, .int .i64 p0.Job.Dev, .int .i64 p0.Job.At, .int .i64 p0.Job.Table.Dev, .int .i64 p0.Job.Table.Size, .slice A3 p0.Job.Table.List_.length c_3, .int .i64 p0.Next] ∧ hermitageref9_Pool.l1 p0 k it3_1 n2 it5_3 = some r) k ?_ ?_
    · exact fun a ha => ⟨0, ha.sub ⟨rfl, rfl, rfl, trivial⟩, by omega, gF1_1, gF2_1, gF3_1, x0_1, gb1_1, H⟩
    intro n2 a w10 hI hp
    obtain ⟨it5_3, hS, hle, gF1_3, gF2_3, gF3_3, x0_3, gb1_3, H⟩ := hI
    cases n2 with
    | zero => cases H
    | succ n2 =>
     rw [hermitageref9_Pool.l1] at H
     refine CW.go hp hS ?_
     refine CW.seq ?_
     refine CW.seq ?_
     refine CW.lex [.W, .W, .L, .W, .W] rfl ?_
     refine RW.pure tabOk 2 rfl ?_
     refine RW.load tabOk [.slice A2 p0.Tables.length c_2] ((gb1_3.at 1).take 1 rfl) ⟨rfl, rfl, rfl, rfl⟩ rfl rfl rfl rfl ?_
     refine RW.pure tabOk 2 rfl ?_
     refine RW.done ?_
     refine NW.next ?_
     by_cases c9 : it5_3 < (p0.Tables.length : Int)
     ·
      rw [if_pos c9] at H
      refine CW.cond_t rfl (decide_eq_true c9) ?_
      refine CW.skip ?_
      refine NW.next ?_
      refine CW.seq ?_
      refine CW.block ?_
      refine CW.seq ?_
      refine CW.lex [.W, .L, .W, .W, .L, .X, .M] rfl ?_
      refine RW.pure tabOk 1 rfl ?_
      refine RW.load tabOk [.slice A2 p0.Tables.length c_2] ((gb1_3.at 1).take 1 rfl) ⟨rfl, rfl, rfl, rfl⟩ rfl rfl rfl rfl ?_
      refine RW.pure tabOk 1 rfl ?_
      obtain ⟨g3, H⟩ := guard_some H
      obtain ⟨ad3, A8, c_8, e3, a3, l6, h48⟩ := kTableR_at gF2_3 g3.1 g3.2
      refine RW.index tabOk g3.1 g3.2 e3 ⟨rfl, rfl, rfl, rfl⟩ rfl rfl rfl rfl rfl rfl ?_
      refine RW.load tabOk [.int .i64 ((rd p0.Tables it5_3).Dev), .int .i64 ((rd p0.Tables it5_3).Size), .slice A8 ((rd p0.Tables it5_3).List_).length c_8] a3 ⟨rfl, rfl, rfl, rfl⟩ rfl rfl rfl rfl ?_
      refine RW.alloc tabOk (.inl rfl) ⟨rfl, rfl, rfl, rfl⟩ rfl rfl ?_
      intro b2 w11 x7 l7 h49
      have sx7 := x7.size
      have ltb2 := h49.lt
      refine RW.storeBox tabOk h49 [.int .i64 ((rd p0.Tables it5_3).Dev), .int .i64 ((rd p0.Tables it5_3).Size), .slice A8 ((rd p0.Tables it5_3).List_).length c_8] ⟨rfl, rfl, rfl⟩ rfl rfl rfl rfl rfl rfl rfl rfl ?_
      intro w12 x8 h50
      have h51 : Box w12.heap b2 24 [.int .i64 ((rd p0.Tables it5_3).Dev), .int .i64 ((rd p0.Tables it5_3).Size), .slice A8 ((rd p0.Tables it5_3).List_).length c_8] := h50
      have sx8 := x8.size
      refine RW.done ?_
      refine NW.next ?_
      refine CW.seqJ (fun a w13 => ∃ (bt111_4 : Bool), Sat 162 [(1, .pointer (some ⟨b1, 0, none⟩)), (3, .int .i64 it3_1), (5, .int .i64 it5_3), (111, .bool bt111_4)] a ∧ w12.heap.size ≤ w13.heap.size ∧ Sl kDeviceR w13.heap (okL [(0, some w.heap.size, none)]) A1 p0.Devices ∧ Sl kTableR w13.heap (okL [(0, some w.heap.size, none)]) A2 p0.Tables ∧ Sl kEntry w13.heap (okL [(0, some w.heap.size, none)]) A3 p0.Job.Table.List_ ∧ Ext w w13 ∧ Box w13.heap b1 61 [.slice A1 p0.Devices.length c_1, .slice A2 p0.Tables.length c_2, .int .i64 p0.Job.Dev, .int .i64 p0.Job.At, .int .i64 p0.Job.Table.Dev, .int .i64 p0.Job.Table.Size, .slice A3 p0.Job.Table.List_.length c_3, .int .i64 p0.Next] ∧ hermitageref9_Pool.j2 it5_3 (hermitageref9_Pool.l1 p0 k it3_1 n2) bt111_4 = some r) ?_ ?_
      ·
       refine CW.ord [0, 1, 3, 7, 15, 31, 15, 79, 255, 511, 1023, 2047, 4095, 8191, 16383, 32767, 16383, 81919, 262143, 524287, 1048575, 16383, 2113535, 8388607, 16777215, 33554431, 67108863, 134217727, 268435455, 134217727, 671088639, 2147483647, 4294967295, 8589934591] (ofL [(0, .L), (1, .X), (2, .W), (3, .W), (4, .W), (6, .W), (5, .L), (7, .L), (8, .W), (9, .W), (10, .W), (11, .W), (12, .W), (13, .W), (14, .W), (16, .W), (17, .W), (21, .W), (15, .L), (18, .W), (19, .W), (20, .L), (22, .L), (23, .W), (24, .W), (25, .W), (26, .W), (27, .W), (29, .W), (28, .L), (30, .L), (31, .X), (32, .W), (33, .W)] .nil) mixed (by kernel_rfl) ?_
       intro w14 x9
       have sx9 := x9.size
       have h52 := h51.ext x9
       refine RW.load tabOk [.int .i64 ((rd p0.Tables it5_3).Dev), .int .i64 ((rd p0.Tables it5_3).Size), .slice A8 ((rd p0.Tables it5_3).List_).length c_8] (h52.at 0) ⟨rfl, rfl, rfl, rfl⟩ rfl rfl rfl rfl ?_
       have h53 := ((h48.ext x7).turnB x8 h49 ⟨.inr (by omega), trivial⟩).ext x9
       obtain ⟨y4, h54, H⟩ := bind_some H
       refine RW.callF (.inl rfl) ent19 ⟨rfl, rfl, rfl, rfl⟩ rfl rfl (hermitageref7_Table.calls k (rd p0.Tables it5_3) A8 c_8 _ _ h53.all l6 h54) ?_
       rintro _ w15 ⟨rfl, x10⟩
       refine ⟨_, rfl, x10, ?_⟩
       have sx10 := x10.size
       refine RW.pure tabOk 2 rfl ?_
       by_cases c10 : y4 = true
       ·
        rw [if_pos c10] at H
        refine RW.bool 81 (b' := false) (not_f (c10)) rfl ?_
        refine RW.pure tabOk 2 rfl ?_
        have h55 := h52.ext x10
        refine RW.load tabOk [.int .i64 ((rd p0.Tables it5_3).Dev)] ((h55.at 0).take 1 rfl) ⟨rfl, rfl, rfl, rfl⟩ rfl rfl rfl rfl ?_
        have h56 := (((gb1_3.ext x7).turnB x8 (by omega)).ext x9).ext x10
        refine RW.load tabOk [.int .i64 p0.Next] (h56.at 7) ⟨rfl, rfl, rfl, rfl⟩ rfl rfl rfl rfl ?_
        refine RW.pure tabOk 3 rfl ?_
        by_cases c11 : p0.Next ≤ ((rd p0.Tables it5_3).Dev)
        ·
         rw [if_pos c11] at H
         refine RW.bool 88 (b' := true) (decide_eq_true c11) rfl ?_
         refine RW.pure tabOk 23 rfl ?_
         refine RW.done ?_
         have h57 := (((gF1_3.ext x7).turnB x8 h49 ⟨.inr (by omega), trivial⟩).ext x9).ext x10
         have h58 := (((gF2_3.ext x7).turnB x8 h49 ⟨.inr (by omega), trivial⟩).ext x9).ext x10
         have h59 := (((gF3_3.ext x7).turnB x8 h49 ⟨.inr (by omega), trivial⟩).ext x9).ext x10
         have h60 := Ext.trans (Ext.trans (Ext.turnB (Ext.trans x0_3 x7) x8 (by omega)) x9) x10
         exact NW.J fun a ha => ⟨true, ha.sub ⟨rfl, rfl, rfl, rfl, trivial⟩, by omega, h57, h58, h59, h60, h56, H⟩
        ·
         rw [if_neg c11] at H
         refine RW.bool 88 (b' := false) (decide_eq_false c11) rfl ?_
         refine RW.pure tabOk 3 rfl ?_
         by_cases c12 : 0 < it5_3
         ·
          rw [if_pos c12] at H
          refine RW.bool 91 (b' := true) (decide_eq_true c12) rfl ?_
          refine RW.pure tabOk 4 rfl ?_
          refine RW.load tabOk [.slice A2 p0.Tables.length c_2] ((h56.at 1).take 1 rfl) ⟨rfl, rfl, rfl, rfl⟩ rfl rfl rfl rfl ?_
          obtain ⟨g4, H⟩ := guard_some H
          have h61 := (((gF2_3.ext x7).turnB x8 h49 ⟨.inr (by omega), trivial⟩).ext x9).ext x10
          obtain ⟨ad4, A9, c_9, e4, a4, l8, h62⟩ := kTableR_at h61 g4.1 g4.2
          refine RW.index tabOk g4.1 g4.2 e4 ⟨rfl, rfl, rfl, rfl⟩ rfl rfl rfl rfl rfl rfl ?_
          refine RW.pure tabOk 1 rfl ?_
          refine RW.load tabOk [.int .i64 ((rd p0.Tables (w64 (it5_3 - 1))).Dev)] ((a4.fld 0).take 1 rfl) ⟨rfl, rfl, rfl, rfl⟩ rfl rfl rfl rfl ?_
          refine RW.load tabOk [.int .i64 ((rd p0.Tables it5_3).Dev)] ((h55.at 0).take 1 rfl) ⟨rfl, rfl, rfl, rfl⟩ rfl rfl rfl rfl ?_
          refine RW.pure tabOk 4 rfl ?_
          by_cases c13 : ((rd p0.Tables it5_3).Dev) ≤ ((rd p0.Tables (w64 (it5_3 - 1))).Dev)
          ·
           rw [if_pos c13] at H
           refine RW.bool 104 (b' := true) (decide_eq_true c13) rfl ?_
           refine RW.pure tabOk 7 rfl ?_
           refine RW.done ?_
           have h63 := (((gF1_3.ext x7).turnB x8 h49 ⟨.inr (by omega), trivial⟩).ext x9).ext x10
           have h64 := (((gF3_3.ext x7).turnB x8 h49 ⟨.inr (by omega), trivial⟩).ext x9).ext x10
           have h65 := Ext.trans (Ext.trans (Ext.turnB (Ext.trans x0_3 x7) x8 (by omega)) x9) x10
           exact NW.J fun a ha => ⟨true, ha.sub ⟨rfl, rfl, rfl, rfl, trivial⟩, by omega, h63, h61, h64, h65, h56, H⟩
          ·
           rw [if_neg c13] at H
           refine RW.bool 104 (b' := false) (decide_eq_false c13) rfl ?_
           refine RW.pure tabOk 2 rfl ?_
           refine RW.load tabOk [.slice A1 p0.Devices.length c_1] ((h56.at 0).take 1 rfl) ⟨rfl, rfl, rfl, rfl⟩ rfl rfl rfl rfl ?_
           refine RW.load tabOk [.int .i64 ((rd p0.Tables it5_3).Dev)] ((h55.at 0).take 1 rfl) ⟨rfl, rfl, rfl, rfl⟩ rfl rfl rfl rfl ?_
           have h66 := (((gF1_3.ext x7).turnB x8 h49 ⟨.inr (by omega), trivial⟩).ext x9).ext x10
           obtain ⟨y5, h67, H⟩ := bind_some H
           refine RW.callF (.inl rfl) ent35 ⟨rfl, rfl, rfl, rfl⟩ rfl rfl (hermitageref7_At.calls k A1 c_1 p0.Devices ((rd p0.Tables it5_3).Dev) _ _ h66.all hl1 h67) ?_
           rintro _ w16 ⟨rfl, x11⟩
           refine ⟨_, rfl, x11, ?_⟩
           have sx11 := x11.size
           refine RW.pure tabOk 2 rfl ?_
           refine RW.done ?_
           have h68 := h66.ext x11
           have h69 := h61.ext x11
           have h70 := ((((gF3_3.ext x7).turnB x8 h49 ⟨.inr (by omega), trivial⟩).ext x9).ext x10).ext x11
           have h71 := Ext.trans (Ext.trans (Ext.trans (Ext.turnB (Ext.trans x0_3 x7) x8 (by omega)) x9) x10) x11
           have h72 := h56.ext x11
           exact NW.J fun a ha => ⟨(decide (0 ≤ y5)), ha.sub ⟨rfl, rfl, rfl, rfl, trivial⟩, by omega, h68, h69, h70, h71, h72, H⟩
         ·
          rw [if_neg c12] at H
          refine RW.bool 91 (b' := false) (decide_eq_false c12) rfl ?_
          refine RW.pure tabOk 15 rfl ?_
          refine RW.load tabOk [.slice A1 p0.Devices.length c_1] ((h56.at 0).take 1 rfl) ⟨rfl, rfl, rfl, rfl⟩ rfl rfl rfl rfl ?_
          refine RW.load tabOk [.int .i64 ((rd p0.Tables it5_3).Dev)] ((h55.at 0).take 1 rfl) ⟨rfl, rfl, rfl, rfl⟩ rfl rfl rfl rfl ?_
          have h73 := (((gF1_3.ext x7).turnB x8 h49 ⟨.inr (by omega), trivial⟩).ext x9).ext x10
          obtain ⟨y6, h74, H⟩ := bind_some H
          refine RW.callF (.inl rfl) ent35 ⟨rfl, rfl, rfl, rfl⟩ rfl rfl (hermitageref7_At.calls k A1 c_1 p0.Devices ((rd p0.Tables it5_3).Dev) _ _ h73.all hl1 h74) ?_
          rintro _ w17 ⟨rfl, x12⟩
          refine ⟨_, rfl, x12, ?_⟩
          have sx12 := x12.size
          refine RW.pure tabOk 2 rfl ?_
          refine RW.done ?_
          have h75 := h73.ext x12
          have h76 := ((((gF2_3.ext x7).turnB x8 h49 ⟨.inr (by omega), trivial⟩).ext x9).ext x10).ext x12
          have h77 := ((((gF3_3.ext x7).turnB x8 h49 ⟨.inr (by omega), trivial⟩).ext x9).ext x10).ext x12
          have h78 := Ext.trans (Ext.trans (Ext.trans (Ext.turnB (Ext.trans x0_3 x7) x8 (by omega)) x9) x10) x12
          have h79 := h56.ext x12
          exact NW.J fun a ha => ⟨(decide (0 ≤ y6)), ha.sub ⟨rfl, rfl, rfl, rfl, trivial⟩, by omega, h75, h76, h77, h78, h79, H⟩
       ·
        rw [if_neg c10] at H
        refine RW.bool 81 (b' := true) (not_t (bool_f c10)) rfl ?_
        refine RW.pure tabOk 30 rfl ?_
        refine RW.done ?_
        have h80 := (((gF1_3.ext x7).turnB x8 h49 ⟨.inr (by omega), trivial⟩).ext x9).ext x10
        have h81 := (((gF2_3.ext x7).turnB x8 h49 ⟨.inr (by omega), trivial⟩).ext x9).ext x10
        have h82 := (((gF3_3.ext x7).turnB x8 h49 ⟨.inr (by omega), trivial⟩).ext x9).ext x10
        have h83 := Ext.trans (Ext.trans (Ext.turnB (Ext.trans x0_3 x7) x8 (by omega)) x9) x10
        have h84 := (((gb1_3.ext x7).turnB x8 (by omega)).ext x9).ext x10
        exact NW.J fun a ha => ⟨true, ha.sub ⟨rfl, rfl, rfl, rfl, trivial⟩, by omega, h80, h81, h82, h83, h84, H⟩
      intro a w13 hJ hp
      obtain ⟨bt111_4, hS, hle, gF1_4, gF2_4, gF3_4, x0_4, gb1_4, H⟩ := hJ
      unfold hermitageref9_Pool.j2 at H
      refine CW.go hp hS ?_
      by_cases c14 : bt111_4 = true
      ·
       rw [if_pos c14] at H
       refine CW.cond_t rfl (c14) ?_
       refine CW.seq ?_
       refine CW.lex [.W] rfl ?_
       refine RW.pure tabOk 1 rfl ?_
       refine RW.done ?_
       refine NW.next ?_
       refine CW.ret ?_
       refine NW.ret_block (NW.ret_then (NW.ret_then (NW.ret_block (NW.ret_then ?_))))
       obtain rfl := Option.some.inj H
       exact NW.ret1 rfl (by rfl) ⟨rfl, x0_4⟩
      ·
       rw [if_neg c14] at H
       refine CW.cond_f rfl (bool_f c14) ?_
       refine CW.skip ?_
       refine NW.norm_block (NW.next ?_)
       refine CW.lex [.W, .W, .W] rfl ?_
       refine RW.pure tabOk 3 rfl ?_
       refine RW.done ?_
       exact NW.J fun a ha => ⟨n2, Nat.lt_succ_self n2, (w64 (it5_3 + 1)), ha.sub ⟨rfl, rfl, rfl, trivial⟩, by omega, gF1_4, gF2_4, gF3_4, x0_4, gb1_4, H⟩
     ·
      rw [if_neg c9] at H
      refine CW.cond_f rfl (decide_eq_false c9) ?_
      refine CW.exit ?_
      refine NW.exit_then (NW.exit_then (NW.exit_hit ?_))
      refine NW.next ?_
      refine CW.seq ?_
      refine CW.seq ?_
      refine CW.lex [.W] rfl ?_
      refine RW.pure tabOk 1 rfl ?_
      refine RW.done ?_
      refine NW.next ?_
      refine CW.block ?_
      refine CW.loop (fun n3 a w18 => ∃ (it7_5 : Int), Sat 162 [(1, .pointer (some ⟨b1, 0, none⟩)), (3, .int .i64 it3_1), (7, .int .i64 it7_5)] a ∧ w10.heap.size ≤ w18.heap.size ∧ Sl kDeviceR w18.heap (okL [(0, some w.heap.size, none)]) A1 p0.Devices ∧ Sl kTableR w18.heap (okL [(0, some w.heap.size, none)]) A2 p0.Tables ∧ Sl kEntry w18.heap (okL [(0, some w.heap.size, none)]) A3 p0.Job.Table.List_ ∧ Ext w w18 ∧ Box w18.heap b1 61 [.slice A1 p0.Devices.length c_1, .slice A2 p0.Tables.length c_2, .int .i64 p0.Job.Dev, .int .i64 p0.Job.At, .int .i64 p0.Job.Table.Dev, .int .i64 p0.Job.Table.Size, .slice A3 p0.Job.Table.List_.length c_3, .int .i64 p0.Next] ∧ hermitageref9_Pool.l2 p0 k it3_1 n3 it7_5 = some r) k ?_ ?_
      · exact fun a ha => ⟨0, ha.sub ⟨rfl, rfl, rfl, trivial⟩, by omega, gF1_3, gF2_3, gF3_3, x0_3, gb1_3, H⟩
      intro n3 a w18 hI hp
      obtain ⟨it7_5, hS, hle, gF1_5, gF2_5, gF3_5, x0_5, gb1_5, H⟩ := hI
      cases n3 with
      | zero => cases H
      | succ n3 =>
       rw [hermitageref9_Pool.l2] at H
       refine CW.go hp hS ?_
       refine CW.seq ?_
       refine CW.seq ?_
       refine CW.lex [.W, .W, .L, .W, .W] rfl ?_
       refine RW.pure tabOk 2 rfl ?_
       refine RW.load tabOk [.slice A2 p0.Tables.length c_2] ((gb1_5.at 1).take 1 rfl) ⟨rfl, rfl, rfl, rfl⟩ rfl rfl rfl rfl ?_
       refine RW.pure tabOk 2 rfl ?_
       refine RW.done ?_
       refine NW.next ?_
       by_cases c15 : it7_5 < (p0.Tables.length : Int)
       ·
        rw [if_pos c15] at H
        refine CW.cond_t rfl (decide_eq_true c15) ?_
        refine CW.skip ?_
        refine NW.next ?_
        refine CW.seq ?_
        refine CW.block ?_
        refine CW.seq ?_
        refine CW.lex [.W] rfl ?_
        refine RW.pure tabOk 1 rfl ?_
        refine RW.done ?_
        refine NW.next ?_
        refine CW.block ?_
        refine CW.loop (fun n4 a w19 => ∃ (it8_6 : Int), Sat 162 [(1, .pointer (some ⟨b1, 0, none⟩)), (3, .int .i64 it3_1), (7, .int .i64 it7_5), (8, .int .i64 it8_6)] a ∧ w18.heap.size ≤ w19.heap.size ∧ Sl kDeviceR w19.heap (okL [(0, some w.heap.size, none)]) A1 p0.Devices ∧ Sl kTableR w19.heap (okL [(0, some w.heap.size, none)]) A2 p0.Tables ∧ Sl kEntry w19.heap (okL [(0, some w.heap.size, none)]) A3 p0.Job.Table.List_ ∧ Ext w w19 ∧ Box w19.heap b1 61 [.slice A1 p0.Devices.length c_1, .slice A2 p0.Tables.length c_2, .int .i64 p0.Job.Dev, .int .i64 p0.Job.At, .int .i64 p0.Job.Table.Dev, .int .i64 p0.Job.Table.Size, .slice A3 p0.Job.Table.List_.length c_3, .int .i64 p0.Next] ∧ hermitageref9_Pool.l3 p0 k it7_5 (hermitageref9_Pool.l2 p0 k it3_1 n3) n4 it8_6 = some r) k ?_ ?_
        · exact fun a ha => ⟨0, ha.sub ⟨rfl, rfl, rfl, rfl, trivial⟩, by omega, gF1_5, gF2_5, gF3_5, x0_5, gb1_5, H⟩
        intro n4 a w19 hI hp
        obtain ⟨it8_6, hS, hle, gF1_6, gF2_6, gF3_6, x0_6, gb1_6, H⟩ := hI
        cases n4 with
        | zero => cases H
        | succ n4 =>
         rw [hermitageref9_Pool.l3] at H
         refine CW.go hp hS ?_
         refine CW.seq ?_
         refine CW.seq ?_
         refine CW.lex [.W, .W, .L, .W, .W, .W, .L, .W, .W] rfl ?_
         refine RW.pure tabOk 2 rfl ?_
         refine RW.load tabOk [.slice A2 p0.Tables.length c_2] ((gb1_6.at 1).take 1 rfl) ⟨rfl, rfl, rfl, rfl⟩ rfl rfl rfl rfl ?_
         refine RW.pure tabOk 1 rfl ?_
         obtain ⟨g5, H⟩ := guard_some H
         obtain ⟨ad5, A10, c_10, e5, a5, l9, h85⟩ := kTableR_at gF2_6 g5.1 g5.2
         refine RW.index tabOk g5.1 g5.2 e5 ⟨rfl, rfl, rfl, rfl⟩ rfl rfl rfl rfl rfl rfl ?_
         refine RW.pure tabOk 1 rfl ?_
         refine RW.load tabOk [.slice A10 ((rd p0.Tables it7_5).List_).length c_10] (a5.fld 2) ⟨rfl, rfl, rfl, rfl⟩ rfl rfl rfl rfl ?_
         refine RW.pure tabOk 2 rfl ?_
         refine RW.done ?_
         refine NW.next ?_
         by_cases c16 : it8_6 < (((rd p0.Tables it7_5).List_).length : Int)
         ·
          rw [if_pos c16] at H
          refine CW.cond_t rfl (decide_eq_true c16) ?_
          refine CW.skip ?_
          refine NW.next ?_
          refine CW.seq ?_
          refine CW.block ?_
          refine CW.seq ?_
          refine CW.lex [.W, .L, .W, .W, .W, .L, .W, .W, .W, .L, .W] rfl ?_
          refine RW.pure tabOk 1 rfl ?_
          refine RW.load tabOk [.slice A2 p0.Tables.length c_2] ((gb1_6.at 1).take 1 rfl) ⟨rfl, rfl, rfl, rfl⟩ rfl rfl rfl rfl ?_
          refine RW.pure tabOk 1 rfl ?_
          obtain ⟨g6, H⟩ := guard_some H
          obtain ⟨ad6, A11, c_11, e6, a6, l10, h86⟩ := kTableR_at gF2_6 g6.1 g6.2
          refine RW.index tabOk g6.1 g6.2 e6 ⟨rfl, rfl, rfl, rfl⟩ rfl rfl rfl rfl rfl rfl ?_
          refine RW.pure tabOk 1 rfl ?_
          refine RW.load tabOk [.slice A11 ((rd p0.Tables it7_5).List_).length c_11] (a6.fld 2) ⟨rfl, rfl, rfl, rfl⟩ rfl rfl rfl rfl ?_
          refine RW.pure tabOk 1 rfl ?_
          obtain ⟨g7, H⟩ := guard_some H
          obtain ⟨ad7, e7, a7⟩ := kEntry_at h86 g7.1 g7.2
          refine RW.index tabOk g7.1 g7.2 e7 ⟨rfl, rfl, rfl, rfl⟩ rfl rfl rfl rfl rfl rfl ?_
          refine RW.pure tabOk 1 rfl ?_
          refine RW.load tabOk [.int .i64 ((rd ((rd p0.Tables it7_5).List_) it8_6).Dev)] ((a7.fld 2).take 1 rfl) ⟨rfl, rfl, rfl, rfl⟩ rfl rfl rfl rfl ?_
          refine RW.pure tabOk 1 rfl ?_
          refine RW.done ?_
          refine NW.next ?_
          refine CW.seqJ (fun a w20 => ∃ (bt150_7 : Bool), Sat 162 [(1, .pointer (some ⟨b1, 0, none⟩)), (3, .int .i64 it3_1), (7, .int .i64 it7_5), (8, .int .i64 it8_6), (150, .bool bt150_7)] a ∧ w19.heap.size ≤ w20.heap.size ∧ Sl kDeviceR w20.heap (okL [(0, some w.heap.size, none)]) A1 p0.Devices ∧ Sl kTableR w20.heap (okL [(0, some w.heap.size, none)]) A2 p0.Tables ∧ Sl kEntry w20.heap (okL [(0, some w.heap.size, none)]) A3 p0.Job.Table.List_ ∧ Ext w w20 ∧ Box w20.heap b1 61 [.slice A1 p0.Devices.length c_1, .slice A2 p0.Tables.length c_2, .int .i64 p0.Job.Dev, .int .i64 p0.Job.At, .int .i64 p0.Job.Table.Dev, .int .i64 p0.Job.Table.Size, .slice A3 p0.Job.Table.List_.length c_3, .int .i64 p0.Next] ∧ hermitageref9_Pool.j3 it8_6 (hermitageref9_Pool.l3 p0 k it7_5 (hermitageref9_Pool.l2 p0 k it3_1 n3) n4) bt150_7 = some r) ?_ ?_
          ·
           refine CW.lex [.W, .L, .W, .X, .W, .W, .L, .W, .X, .W, .W] rfl ?_
           refine RW.pure tabOk 1 rfl ?_
           refine RW.load tabOk [.slice A1 p0.Devices.length c_1] ((gb1_6.at 0).take 1 rfl) ⟨rfl, rfl, rfl, rfl⟩ rfl rfl rfl rfl ?_
           refine RW.pure tabOk 1 rfl ?_
           obtain ⟨y7, h87, H⟩ := bind_some H
           refine RW.callF (.inl rfl) ent35 ⟨rfl, rfl, rfl, rfl⟩ rfl rfl (hermitageref7_At.calls k A1 c_1 p0.Devices ((rd ((rd p0.Tables it7_5).List_) it8_6).Dev) _ _ gF1_6.all hl1 h87) ?_
           rintro _ w21 ⟨rfl, x13⟩
           refine ⟨_, rfl, x13, ?_⟩
           have sx13 := x13.size
           refine RW.pure tabOk 2 rfl ?_
           by_cases c17 : y7 < 0
           ·
            rw [if_pos c17] at H
            refine RW.bool 145 (b' := true) (decide_eq_true c17) rfl ?_
            have h88 := gb1_6.ext x13
            refine RW.load tabOk [.slice A1 p0.Devices.length c_1, .slice A2 p0.Tables.length c_2, .int .i64 p0.Job.Dev, .int .i64 p0.Job.At, .int .i64 p0.Job.Table.Dev, .int .i64 p0.Job.Table.Size, .slice A3 p0.Job.Table.List_.length c_3, .int .i64 p0.Next] (h88.at 0) ⟨rfl, rfl, rfl, rfl⟩ rfl rfl rfl rfl ?_
            refine RW.pure tabOk 1 rfl ?_
            have h89 := gF1_6.ext x13
            have h90 := gF2_6.ext x13
            have h91 := gF3_6.ext x13
            obtain ⟨y8, h92, H⟩ := bind_some H
            refine RW.callF (.inl rfl) ent70 ⟨rfl, rfl, rfl, rfl⟩ rfl rfl (hermitageref9_Table.calls k p0 A1 c_1 A2 c_2 A3 c_3 ((rd ((rd p0.Tables it7_5).List_) it8_6).Dev) _ _ h89.all hl1 h90.all hl2 h91.all hl3 h92) ?_
            rintro _ w22 ⟨rfl, x14⟩
            refine ⟨_, rfl, x14, ?_⟩
            have sx14 := x14.size
            refine RW.pure tabOk 2 rfl ?_
            refine RW.done ?_
            have h93 := h89.ext x14
            have h94 := h90.ext x14
            have h95 := h91.ext x14
            have h96 := Ext.trans (Ext.trans x0_6 x13) x14
            have h97 := h88.ext x14
            exact NW.J fun a ha => ⟨(decide (y8 < 0)), ha.sub ⟨rfl, rfl, rfl, rfl, rfl, trivial⟩, by omega, h93, h94, h95, h96, h97, H⟩
           ·
            rw [if_neg c17] at H
            refine RW.bool 145 (b' := false) (decide_eq_false c17) rfl ?_
            refine RW.pure tabOk 5 rfl ?_
            refine RW.done ?_
            have h98 := gF1_6.ext x13
            have h99 := gF2_6.ext x13
            have h100 := gF3_6.ext x13
            have h101 := Ext.trans x0_6 x13
            have h102 := gb1_6.ext x13
            exact NW.J fun a ha => ⟨false, ha.sub ⟨rfl, rfl, rfl, rfl, rfl, trivial⟩, by omega, h98, h99, h100, h101, h102, H⟩
          intro a w20 hJ hp
          obtain ⟨bt150_7, hS, hle, gF1_7, gF2_7, gF3_7, x0_7, gb1_7, H⟩ := hJ
          unfold hermitageref9_Pool.j3 at H
          refine CW.go hp hS ?_
          by_cases c18 : bt150_7 = true
          ·
           rw [if_pos c18] at H
           refine CW.cond_t rfl (c18) ?_
           refine CW.seq ?_
           refine CW.lex [.W] rfl ?_
           refine RW.pure tabOk 1 rfl ?_
           refine RW.done ?_
           refine NW.next ?_
           refine CW.ret ?_
           refine NW.ret_block (NW.ret_then (NW.ret_then (NW.ret_block (NW.ret_block (NW.ret_then (NW.ret_then (NW.ret_block (NW.ret_then ?_))))))))
           obtain rfl := Option.some.inj H
           exact NW.ret1 rfl (by rfl) ⟨rfl, x0_7⟩
          ·
           rw [if_neg c18] at H
           refine CW.cond_f rfl (bool_f c18) ?_
           refine CW.skip ?_
           refine NW.norm_block (NW.next ?_)
           refine CW.lex [.W, .W, .W] rfl ?_
           refine RW.pure tabOk 3 rfl ?_
           refine RW.done ?_
           exact NW.J fun a ha => ⟨n4, Nat.lt_succ_self n4, (w64 (it8_6 + 1)), ha.sub ⟨rfl, rfl, rfl, rfl, trivial⟩, by omega, gF1_7, gF2_7, gF3_7, x0_7, gb1_7, H⟩
         ·
          rw [if_neg c16] at H
          refine CW.cond_f rfl (decide_eq_false c16) ?_
          refine CW.exit ?_
          refine NW.exit_then (NW.exit_then (NW.exit_hit ?_))
          refine NW.norm_block (NW.next ?_)
          refine CW.lex [.W, .W, .W] rfl ?_
          refine RW.pure tabOk 3 rfl ?_
          refine RW.done ?_
          exact NW.J fun a ha => ⟨n3, Nat.lt_succ_self n3, (w64 (it7_5 + 1)), ha.sub ⟨rfl, rfl, rfl, trivial⟩, by omega, gF1_6, gF2_6, gF3_6, x0_6, gb1_6, H⟩
       ·
        rw [if_neg c15] at H
        refine CW.cond_f rfl (decide_eq_false c15) ?_
        refine CW.exit ?_
        refine NW.exit_then (NW.exit_then (NW.exit_hit ?_))
        refine NW.next ?_
        refine CW.seq ?_
        refine CW.lex [.W, .W, .W, .L, .X, .W, .W, .W, .L, .X, .W, .W] rfl ?_
        refine RW.pure tabOk 3 rfl ?_
        by_cases c19 : 0 < it3_1
        ·
         rw [if_pos c19] at H
         refine RW.bool 153 (b' := true) (decide_eq_true c19) rfl ?_
         refine RW.load tabOk [.slice A1 p0.Devices.length c_1, .slice A2 p0.Tables.length c_2, .int .i64 p0.Job.Dev, .int .i64 p0.Job.At, .int .i64 p0.Job.Table.Dev, .int .i64 p0.Job.Table.Size, .slice A3 p0.Job.Table.List_.length c_3, .int .i64 p0.Next] (gb1_5.at 0) ⟨rfl, rfl, rfl, rfl⟩ rfl rfl rfl rfl ?_
         obtain ⟨y9, h103, H⟩ := bind_some H
         refine RW.callF (.inl rfl) ent71 ⟨rfl, rfl, rfl, rfl⟩ rfl rfl (hermitageref9_round.calls k p0 A1 c_1 A2 c_2 A3 c_3 _ _ gF1_5.all hl1 gF2_5.all hl2 gF3_5.all hl3 h103) ?_
         rintro _ w23 ⟨rfl, x15⟩
         refine ⟨_, rfl, x15, ?_⟩
         have sx15 := x15.size
         refine RW.pure tabOk 3 rfl ?_
         by_cases c20 : y9 = true
         ·
          rw [if_pos c20] at H
          refine RW.bool 158 (b' := false) (not_f (c20)) rfl ?_
          refine RW.pure tabOk 4 rfl ?_
          refine RW.done ?_
          refine NW.next ?_
          refine CW.ret ?_
          obtain rfl := Option.some.inj H
          have h104 := Ext.trans x0_5 x15
          exact NW.ret1 rfl (by rfl) ⟨rfl, h104⟩
         ·
          rw [if_neg c20] at H
          refine RW.bool 158 (b' := true) (not_t (bool_f c20)) rfl ?_
          have h105 := gb1_5.ext x15
          refine RW.load tabOk [.slice A1 p0.Devices.length c_1, .slice A2 p0.Tables.length c_2, .int .i64 p0.Job.Dev, .int .i64 p0.Job.At, .int .i64 p0.Job.Table.Dev, .int .i64 p0.Job.Table.Size, .slice A3 p0.Job.Table.List_.length c_3, .int .i64 p0.Next] (h105.at 0) ⟨rfl, rfl, rfl, rfl⟩ rfl rfl rfl rfl ?_
          have h106 := gF1_5.ext x15
          have h107 := gF2_5.ext x15
          have h108 := gF3_5.ext x15
          obtain ⟨y10, h109, H⟩ := bind_some H
          refine RW.callF (.inl rfl) ent72 ⟨rfl, rfl, rfl, rfl⟩ rfl rfl (hermitageref9_job.calls k p0 A1 c_1 A2 c_2 A3 c_3 _ _ h106.all hl1 h107.all hl2 h108.all hl3 h109) ?_
          rintro _ w24 ⟨rfl, x16⟩
          refine ⟨_, rfl, x16, ?_⟩
          have sx16 := x16.size
          refine RW.pure tabOk 2 rfl ?_
          refine RW.done ?_
          refine NW.next ?_
          refine CW.ret ?_
          obtain rfl := Option.some.inj H
          have h110 := Ext.trans (Ext.trans x0_5 x15) x16
          exact NW.ret1 rfl (by rfl) ⟨rfl, h110⟩
        ·
         rw [if_neg c19] at H
         refine RW.bool 153 (b' := false) (decide_eq_false c19) rfl ?_
         refine RW.pure tabOk 9 rfl ?_
         refine RW.done ?_
         refine NW.next ?_
         refine CW.ret ?_
         obtain rfl := Option.some.inj H
         exact NW.ret1 rfl (by rfl) ⟨rfl, x0_5⟩

set_option maxHeartbeats 4000000 in
set_option maxRecDepth 100000 in
theorem room_Busy.calls (k : Nat) (p0 : Device) (A1 : Option Addr) (c_1 : Nat) (A2 : Option Addr) (c_2 : Nat) (r : Int) (w : World) (hs1 : Sl kSeg w.heap okAll A1 p0.Free) (hl1 : p0.Free.length ≤ c_1) (hs2 : Sl kSeg w.heap okAll A2 p0.Late) (hl2 : p0.Late.length ≤ c_2) (H : room_Busy.f k p0 = some r) :
    Calls Try.prog 75 #[.agg #[.int .i64 p0.ID, .int .i64 p0.Size, .slice A1 p0.Free.length c_1, .slice A2 p0.Late.length c_2]] w fun e w' => e = .returned (.int .u64 r) ∧ Ext w w' := by
 have h1 : Sl kSeg w.heap (okL [(0, some w.heap.size, none)]) A1 p0.Free := hs1.old _ rfl
 have h2 : Sl kSeg w.heap (okL [(0, some w.heap.size, none)]) A2 p0.Late := hs2.old _ rfl
 have x0 : Ext w w := Upd.refl _ w
 unfold room_Busy.f at H
 refine calls_start Try.func75 rfl 14 rfl [.agg #[.int .i64 p0.ID, .int .i64 p0.Size, .slice A1 p0.Free.length c_1, .slice A2 p0.Late.length c_2]] rfl ?_
 refine CW.seq ?_
 refine CW.lex [.X, .W] rfl ?_
 refine RW.box (cs := [.int .i64 p0.ID, .int .i64 p0.Size, .slice A1 p0.Free.length c_1, .slice A2 p0.Late.length c_2]) (.inl rfl) ⟨rfl, rfl, rfl, rfl⟩ rfl rfl rfl ?_
 intro b1 w1 x1 l1 h3
 have sx1 := x1.size
 have ltb1 := h3.lt
 refine RW.pure tabOk 1 rfl ?_
 refine RW.done ?_
 refine NW.next ?_
 refine CW.seq ?_
 refine CW.ord [0, 1, 3, 0, 8, 31, 0, 64, 255, 511, 1023, 2047] (ofL [(0, .W), (3, .W), (6, .W), (1, .L), (4, .L), (7, .L), (2, .X), (5, .X), (8, .X), (9, .W), (10, .W), (11, .W)] .nil) mixed (by kernel_rfl) ?_
 intro w2 x2
 have sx2 := x2.size
 refine RW.pure tabOk 3 rfl ?_
 have h4 := h3.ext x2
 refine RW.load tabOk [.int .i64 p0.Size] ((h4.at 1).take 1 rfl) ⟨rfl, rfl, rfl, rfl⟩ rfl rfl rfl rfl ?_
 refine RW.load tabOk [.slice A1 p0.Free.length c_1] ((h4.at 2).take 1 rfl) ⟨rfl, rfl, rfl, rfl⟩ rfl rfl rfl rfl ?_
 refine RW.load tabOk [.slice A2 p0.Late.length c_2] (h4.at 3) ⟨rfl, rfl, rfl, rfl⟩ rfl rfl rfl rfl ?_
 obtain ⟨y1, h5, H⟩ := bind_some H
 refine RW.callF (.inl rfl) ent76 ⟨rfl, rfl, rfl, rfl⟩ rfl rfl (seg_To.calls p0.Size _ _ h5) ?_
 rintro _ w3 ⟨rfl, x3⟩
 refine ⟨_, rfl, x3, ?_⟩
 have sx3 := x3.size
 have h6 := ((h1.ext x1).ext x2).ext x3
 obtain ⟨y2, h7, H⟩ := bind_some H
 refine RW.callF (.inl rfl) ent99 ⟨rfl, rfl, rfl, rfl⟩ rfl rfl (seg_Make.calls k A1 c_1 p0.Free _ _ h6.all hl1 h7) ?_
 rintro _ w4 ⟨rfl, x4⟩
 refine ⟨_, rfl, x4, ?_⟩
 have sx4 := x4.size
 have h8 := (((h2.ext x1).ext x2).ext x3).ext x4
 obtain ⟨y3, h9, H⟩ := bind_some H
 refine RW.callF (.inl rfl) ent99 ⟨rfl, rfl, rfl, rfl⟩ rfl rfl (seg_Make.calls k A2 c_2 p0.Late _ _ h8.all hl2 h9) ?_
 rintro _ w5 ⟨rfl, x5⟩
 refine ⟨_, rfl, x5, ?_⟩
 have sx5 := x5.size
 refine RW.pure tabOk 3 rfl ?_
 refine RW.done ?_
 refine NW.next ?_
 refine CW.ret ?_
 obtain rfl := Option.some.inj H
 have h10 := Ext.trans (Ext.trans (Ext.trans (Ext.trans (Ext.trans x0 x1) x2) x3) x4) x5
 exact NW.ret1 rfl (by rfl) ⟨rfl, h10⟩

set_option maxHeartbeats 4000000 in
set_option maxRecDepth 100000 in
theorem math_bits_OnesCount64.calls (p0 : Int) (r : Int) (w : World) (H : math_bits_OnesCount64.f p0 = some r) :
    Calls Try.prog 100 #[.int .u64 p0] w fun e w' => e = .returned (.int .i64 r) ∧ Ext w w' := by
 have x0 : Ext w w := Upd.refl _ w
 unfold math_bits_OnesCount64.f at H
 refine calls_start Try.func100 rfl 35 rfl [.int .u64 p0] rfl ?_
 refine CW.seq ?_
 refine CW.lex [.W] rfl ?_
 refine RW.pure tabOk 1 rfl ?_
 refine RW.done ?_
 refine NW.next ?_
 refine CW.seq ?_
 refine CW.lex [.W, .W, .W, .W, .W, .W, .W] rfl ?_
 refine RW.pure tabOk 1 rfl ?_
 refine RW.shift (by omega) ⟨rfl, rfl, rfl, rfl⟩ rfl rfl rfl rfl ?_
 refine RW.pure tabOk 5 rfl ?_
 refine RW.done ?_
 refine NW.next ?_
 refine CW.seq ?_
 refine CW.lex [.W, .W, .W, .W, .W, .W, .W] rfl ?_
 refine RW.pure tabOk 1 rfl ?_
 refine RW.shift (by omega) ⟨rfl, rfl, rfl, rfl⟩ rfl rfl rfl rfl ?_
 refine RW.pure tabOk 5 rfl ?_
 refine RW.done ?_
 refine NW.next ?_
 refine CW.seq ?_
 refine CW.lex [.W, .W, .W, .W, .W, .W] rfl ?_
 refine RW.pure tabOk 1 rfl ?_
 refine RW.shift (by omega) ⟨rfl, rfl, rfl, rfl⟩ rfl rfl rfl rfl ?_
 refine RW.pure tabOk 4 rfl ?_
 refine RW.done ?_
 refine NW.next ?_
 refine CW.seq ?_
 refine CW.lex [.W, .W, .W, .W, .W] rfl ?_
 refine RW.pure tabOk 2 rfl ?_
 refine RW.shift (by omega) ⟨rfl, rfl, rfl, rfl⟩ rfl rfl rfl rfl ?_
 refine RW.pure tabOk 2 rfl ?_
 refine RW.done ?_
 refine NW.next ?_
 refine CW.seq ?_
 refine CW.lex [.W, .W, .W, .W, .W] rfl ?_
 refine RW.pure tabOk 2 rfl ?_
 refine RW.shift (by omega) ⟨rfl, rfl, rfl, rfl⟩ rfl rfl rfl rfl ?_
 refine RW.pure tabOk 2 rfl ?_
 refine RW.done ?_
 refine NW.next ?_
 refine CW.seq ?_
 refine CW.lex [.W, .W, .W, .W, .W] rfl ?_
 refine RW.pure tabOk 2 rfl ?_
 refine RW.shift (by omega) ⟨rfl, rfl, rfl, rfl⟩ rfl rfl rfl rfl ?_
 refine RW.pure tabOk 2 rfl ?_
 refine RW.done ?_
 refine NW.next ?_
 refine CW.seq ?_
 refine CW.lex [.W, .W, .W, .W] rfl ?_
 refine RW.pure tabOk 4 rfl ?_
 refine RW.done ?_
 refine NW.next ?_
 refine CW.ret ?_
 obtain rfl := Option.some.inj H
 exact NW.ret1 rfl (by rfl) ⟨rfl, x0⟩

set_option maxHeartbeats 4000000 in
set_option maxRecDepth 100000 in
theorem seg_Set_Count.calls (p0 : Int) (r : Int) (w : World) (H : seg_Set_Count.f p0 = some r) :
    Calls Try.prog 77 #[.int .u64 p0] w fun e w' => e = .returned (.int .i64 r) ∧ Ext w w' := by
 have x0 : Ext w w := Upd.refl _ w
 unfold seg_Set_Count.f at H
 refine calls_start Try.func77 rfl 5 rfl [.int .u64 p0] rfl ?_
 refine CW.seq ?_
 refine CW.lex [.W] rfl ?_
 refine RW.pure tabOk 1 rfl ?_
 refine RW.done ?_
 refine NW.next ?_
 refine CW.seq ?_
 refine CW.lex [.W, .X, .W] rfl ?_
 refine RW.pure tabOk 1 rfl ?_
 obtain ⟨y1, h1, H⟩ := bind_some H
 refine RW.callF (.inl rfl) ent100 ⟨rfl, rfl, rfl, rfl⟩ rfl rfl (math_bits_OnesCount64.calls p0 _ _ h1) ?_
 rintro _ w1 ⟨rfl, x1⟩
 refine ⟨_, rfl, x1, ?_⟩
 have sx1 := x1.size
 refine RW.pure tabOk 1 rfl ?_
 refine RW.done ?_
 refine NW.next ?_
 refine CW.ret ?_
 obtain rfl := Option.some.inj H
 have h2 := Ext.trans x0 x1
 exact NW.ret1 rfl (by rfl) ⟨rfl, h2⟩

set_option maxHeartbeats 4000000 in
set_option maxRecDepth 100000 in
theorem move_Loose.calls (k : Nat) (A1 : Option Addr) (c_1 : Nat) (p0 : List Device) (p1 : Int) (r : Int) (w : World) (hs1 : Sl kDeviceR w.heap okAll A1 p0) (hl1 : p0.length ≤ c_1) (H : move_Loose.f k p0 p1 = some r) :
    Calls Try.prog 73 #[.slice A1 p0.length c_1, .int .i64 p1] w fun e w' => e = .returned (.int .i64 r) ∧ Ext w w' := by
 have h1 : Sl kDeviceR w.heap (okL [(0, some w.heap.size, none)]) A1 p0 := hs1.old _ rfl
 have x0 : Ext w w := Upd.refl _ w
 unfold move_Loose.f at H
 refine calls_start Try.func73 rfl 28 rfl [.slice A1 p0.length c_1, .int .i64 p1] rfl ?_
 refine CW.seq ?_
 refine CW.lex [.W] rfl ?_
 refine RW.pure tabOk 1 rfl ?_
 refine RW.done ?_
 refine NW.next ?_
 refine CW.seq ?_
 refine CW.lex [.W] rfl ?_
 refine RW.pure tabOk 1 rfl ?_
 refine RW.done ?_
 refine NW.next ?_
 refine CW.seq ?_
 refine CW.seq ?_
 refine CW.lex [.W, .W, .W] rfl ?_
 refine RW.pure tabOk 3 rfl ?_
 refine RW.done ?_
 refine NW.next ?_
 refine CW.block ?_
 refine CW.loop (fun n1 a w1 => ∃ (it5_0 : Int) (it10_0 : Int), Sat 28 [(1, .int .i64 p1), (5, .int .i64 it5_0), (8, .slice A1 p0.length c_1), (9, .int .i64 (p0.length : Int)), (10, .int .i64 it10_0)] a ∧ w.heap.size ≤ w1.heap.size ∧ Sl kDeviceR w1.heap (okL [(0, some w.heap.size, none)]) A1 p0 ∧ Ext w w1 ∧ move_Loose.l0 p0 p1 k n1 it5_0 it10_0 = some r) k ?_ ?_
 · exact fun a ha => ⟨0, 0, ha.sub ⟨rfl, rfl, rfl, rfl, rfl, trivial⟩, by omega, h1, x0, H⟩
 intro n1 a w1 hI hp
 obtain ⟨it5_0, it10_0, hS, hle, gF1_0, x0_0, H⟩ := hI
 cases n1 with
 | zero => cases H
 | succ n1 =>
  rw [move_Loose.l0] at H
  refine CW.go hp hS ?_
  refine CW.seq ?_
  refine CW.lex [.W] rfl ?_
  refine RW.pure tabOk 1 rfl ?_
  refine RW.done ?_
  refine NW.next ?_
  refine CW.seq ?_
  by_cases c1 : it10_0 < (p0.length : Int)
  ·
   rw [if_pos c1] at H
   refine CW.cond_t rfl (decide_eq_true c1) ?_
   refine CW.skip ?_
   refine NW.next ?_
   refine CW.seqJ (fun a w2 => ∃ (it5_1 : Int), Sat 28 [(1, .int .i64 p1), (5, .int .i64 it5_1), (8, .slice A1 p0.length c_1), (9, .int .i64 (p0.length : Int)), (10, .int .i64 it10_0)] a ∧ w1.heap.size ≤ w2.heap.size ∧ Sl kDeviceR w2.heap (okL [(0, some w.heap.size, none)]) A1 p0 ∧ Ext w w2 ∧ move_Loose.j0 it10_0 (move_Loose.l0 p0 p1 k n1) it5_1 = some r) ?_ ?_
   ·
    refine CW.block ?_
    refine CW.seq ?_
    refine CW.lex [.W, .L, .X, .M] rfl ?_
    obtain ⟨g1, H⟩ := guard_some H
    obtain ⟨ad1, A2, c_2, A3, c_3, e1, a1, l1, h2, l2, h3⟩ := kDeviceR_at gF1_0 g1.1 g1.2
    refine RW.index tabOk g1.1 g1.2 e1 ⟨rfl, rfl, rfl, rfl⟩ rfl rfl rfl rfl rfl rfl ?_
    refine RW.load tabOk [.int .i64 ((rd p0 it10_0).ID), .int .i64 ((rd p0 it10_0).Size), .slice A2 ((rd p0 it10_0).Free).length c_2, .slice A3 ((rd p0 it10_0).Late).length c_3] a1 ⟨rfl, rfl, rfl, rfl⟩ rfl rfl rfl rfl ?_
    refine RW.alloc tabOk (.inl rfl) ⟨rfl, rfl, rfl, rfl⟩ rfl rfl ?_
    intro b1 w3 x1 l3 h4
    have sx1 := x1.size
    have ltb1 := h4.lt
    refine RW.storeBox tabOk h4 [.int .i64 ((rd p0 it10_0).ID), .int .i64 ((rd p0 it10_0).Size), .slice A2 ((rd p0 it10_0).Free).length c_2, .slice A3 ((rd p0 it10_0).Late).length c_3] ⟨rfl, rfl, rfl⟩ rfl rfl rfl rfl rfl rfl rfl rfl ?_
    intro w4 x2 h5
    have h6 : Box w4.heap b1 67 [.int .i64 ((rd p0 it10_0).ID), .int .i64 ((rd p0 it10_0).Size), .slice A2 ((rd p0 it10_0).Free).length c_2, .slice A3 ((rd p0 it10_0).Late).length c_3] := h5
    have sx2 := x2.size
    refine RW.done ?_
    refine NW.next ?_
    refine CW.seq ?_
    refine CW.lex [.W, .L, .W, .W] rfl ?_
    refine RW.pure tabOk 1 rfl ?_
    refine RW.load tabOk [.int .i64 ((rd p0 it10_0).ID)] ((h6.at 0).take 1 rfl) ⟨rfl, rfl, rfl, rfl⟩ rfl rfl rfl rfl ?_
    refine RW.pure tabOk 2 rfl ?_
    refine RW.done ?_
    refine NW.next ?_
    by_cases c2 : (rd p0 it10_0).ID = p1
    ·
     rw [if_pos c2] at H
     refine CW.cond_f rfl (bne_f c2) ?_
     refine CW.skip ?_
     refine NW.norm_block ?_
     have h7 := (gF1_0.ext x1).turnB x2 h4 ⟨.inr (by omega), trivial⟩
     have h8 := Ext.turnB (Ext.trans x0_0 x1) x2 (by omega)
     exact NW.J fun a ha => ⟨it5_0, ha.sub ⟨rfl, rfl, rfl, rfl, rfl, trivial⟩, by omega, h7, h8, H⟩
    ·
     rw [if_neg c2] at H
     refine CW.cond_t rfl (bne_t c2) ?_
     refine CW.ord [0, 0, 2, 0, 8, 24, 62, 127, 255] (ofL [(0, .W), (1, .W), (2, .L), (3, .L), (4, .X), (5, .X), (6, .W), (7, .W), (8, .W)] .nil) mixed (by kernel_rfl) ?_
     intro w5 x3
     have sx3 := x3.size
     refine RW.pure tabOk 2 rfl ?_
     have h9 := h6.ext x3
     refine RW.load tabOk [.int .i64 ((rd p0 it10_0).Size)] ((h9.at 1).take 1 rfl) ⟨rfl, rfl, rfl, rfl⟩ rfl rfl rfl rfl ?_
     refine RW.load tabOk [.int .i64 ((rd p0 it10_0).ID), .int .i64 ((rd p0 it10_0).Size), .slice A2 ((rd p0 it10_0).Free).length c_2, .slice A3 ((rd p0 it10_0).Late).length c_3] (h9.at 0) ⟨rfl, rfl, rfl, rfl⟩ rfl rfl rfl rfl ?_
     have h10 := ((h2.ext x1).turnB x2 h4 ⟨.inr (by omega), trivial⟩).ext x3
     have h11 := ((h3.ext x1).turnB x2 h4 ⟨.inr (by omega), trivial⟩).ext x3
     obtain ⟨y1, h12, H⟩ := bind_some H
     refine RW.callF (.inl rfl) ent75 ⟨rfl, rfl, rfl, rfl⟩ rfl rfl (room_Busy.calls k (rd p0 it10_0) A2 c_2 A3 c_3 _ _ h10.all l1 h11.all l2 h12) ?_
     rintro _ w6 ⟨rfl, x4⟩
     refine ⟨_, rfl, x4, ?_⟩
     have sx4 := x4.size
     obtain ⟨y2, h13, H⟩ := bind_some H
     refine RW.callF (.inl rfl) ent77 ⟨rfl, rfl, rfl, rfl⟩ rfl rfl (seg_Set_Count.calls y1 _ _ h13) ?_
     rintro _ w7 ⟨rfl, x5⟩
     refine ⟨_, rfl, x5, ?_⟩
     have sx5 := x5.size
     refine RW.pure tabOk 3 rfl ?_
     refine RW.done ?_
     refine NW.norm_block ?_
     have h14 := ((((gF1_0.ext x1).turnB x2 h4 ⟨.inr (by omega), trivial⟩).ext x3).ext x4).ext x5
     have h15 := Ext.trans (Ext.trans (Ext.trans (Ext.turnB (Ext.trans x0_0 x1) x2 (by omega)) x3) x4) x5
     exact NW.J fun a ha => ⟨(w64 (it5_0 + (w64 (((rd p0 it10_0).Size) - y2)))), ha.sub ⟨rfl, rfl, rfl, rfl, rfl, trivial⟩, by omega, h14, h15, H⟩
   intro a w2 hJ hp
   obtain ⟨it5_1, hS, hle, gF1_1, x0_1, H⟩ := hJ
   unfold move_Loose.j0 at H
   refine CW.go hp hS ?_
   refine CW.lex [.W, .W] rfl ?_
   refine RW.pure tabOk 2 rfl ?_
   refine RW.done ?_
   exact NW.J fun a ha => ⟨n1, Nat.lt_succ_self n1, it5_1, (w64 (it10_0 + 1)), ha.sub ⟨rfl, rfl, rfl, rfl, rfl, trivial⟩, by omega, gF1_1, x0_1, H⟩
  ·
   rw [if_neg c1] at H
   refine CW.cond_f rfl (decide_eq_false c1) ?_
   refine CW.exit ?_
   refine NW.exit_then (NW.exit_then (NW.exit_hit ?_))
   refine NW.next ?_
   refine CW.seq ?_
   refine CW.lex [.W, .W] rfl ?_
   refine RW.pure tabOk 2 rfl ?_
   refine RW.done ?_
   refine NW.next ?_
   refine CW.ret ?_
   obtain rfl := Option.some.inj H
   exact NW.ret1 rfl (by rfl) ⟨rfl, x0_0⟩

set_option maxHeartbeats 4000000 in
set_option maxRecDepth 100000 in
theorem fore_Spare.calls (k : Nat) (p0 : Pool) (A1 : Option Addr) (c_1 : Nat) (A2 : Option Addr) (c_2 : Nat) (A3 : Option Addr) (c_3 : Nat) (r : Int × Int) (w : World) (hs1 : Sl kDeviceR w.heap okAll A1 p0.Devices) (hl1 : p0.Devices.length ≤ c_1) (hs2 : Sl kTableR w.heap okAll A2 p0.Tables) (hl2 : p0.Tables.length ≤ c_2) (hs3 : Sl kEntry w.heap okAll A3 p0.Job.Table.List_) (hl3 : p0.Job.Table.List_.length ≤ c_3) (H : fore_Spare.f k p0 = some r) :
    Calls Try.prog 30 #[.agg #[.slice A1 p0.Devices.length c_1, .slice A2 p0.Tables.length c_2, .int .i64 p0.Job.Dev, .int .i64 p0.Job.At, .int .i64 p0.Job.Table.Dev, .int .i64 p0.Job.Table.Size, .slice A3 p0.Job.Table.List_.length c_3, .int .i64 p0.Next]] w fun e w' => e = .returned (.tuple #[.int .i64 r.1, .int .i64 r.2]) ∧ Ext w w' := by
 have h1 : Sl kDeviceR w.heap (okL [(0, some w.heap.size, none)]) A1 p0.Devices := hs1.old _ rfl
 have h2 : Sl kTableR w.heap (okL [(0, some w.heap.size, none)]) A2 p0.Tables := hs2.old _ rfl
 have h3 : Sl kEntry w.heap (okL [(0, some w.heap.size, none)]) A3 p0.Job.Table.List_ := hs3.old _ rfl
 have x0 : Ext w w := Upd.refl _ w
 unfold fore_Spare.f at H
 refine calls_start Try.func30 rfl 41 rfl [.agg #[.slice A1 p0.Devices.length c_1, .slice A2 p0.Tables.length c_2, .int .i64 p0.Job.Dev, .int .i64 p0.Job.At, .int .i64 p0.Job.Table.Dev, .int .i64 p0.Job.Table.Size, .slice A3 p0.Job.Table.List_.length c_3, .int .i64 p0.Next]] rfl ?_
 refine CW.seq ?_
 refine CW.lex [.X, .W, .W] rfl ?_
 refine RW.box (cs := [.slice A1 p0.Devices.length c_1, .slice A2 p0.Tables.length c_2, .int .i64 p0.Job.Dev, .int .i64 p0.Job.At, .int .i64 p0.Job.Table.Dev, .int .i64 p0.Job.Table.Size, .slice A3 p0.Job.Table.List_.length c_3, .int .i64 p0.Next]) (.inl rfl) ⟨rfl, rfl, rfl, rfl⟩ rfl rfl rfl ?_
 intro b1 w1 x1 l1 h4
 have sx1 := x1.size
 have ltb1 := h4.lt
 refine RW.pure tabOk 2 rfl ?_
 refine RW.done ?_
 refine NW.next ?_
 refine CW.seq ?_
 refine CW.seq ?_
 refine CW.lex [.L, .X, .W] rfl ?_
 refine RW.load tabOk [.slice A1 p0.Devices.length c_1, .slice A2 p0.Tables.length c_2, .int .i64 p0.Job.Dev, .int .i64 p0.Job.At, .int .i64 p0.Job.Table.Dev, .int .i64 p0.Job.Table.Size, .slice A3 p0.Job.Table.List_.length c_3, .int .i64 p0.Next] (h4.at 0) ⟨rfl, rfl, rfl, rfl⟩ rfl rfl rfl rfl ?_
 have h5 := h1.ext x1
 have h6 := h2.ext x1
 have h7 := h3.ext x1
 obtain ⟨y1, h8, H⟩ := bind_some H
 refine RW.callF (.inl rfl) ent63 ⟨rfl, rfl, rfl, rfl⟩ rfl rfl (chain_May.calls k p0 A1 c_1 A2 c_2 A3 c_3 _ _ h5.all hl1 h6.all hl2 h7.all hl3 h8) ?_
 rintro _ w2 ⟨rfl, x2⟩
 refine ⟨_, rfl, x2, ?_⟩
 have sx2 := x2.size
 refine RW.pure tabOk 1 rfl ?_
 refine RW.done ?_
 refine NW.next ?_
 by_cases c1 : y1 = true
 ·
  rw [if_pos c1] at H
  refine CW.cond_f rfl (not_f (c1)) ?_
  refine CW.skip ?_
  refine NW.next ?_
  refine CW.seq ?_
  refine CW.lex [.W, .L, .W, .W, .L, .X, .W] rfl ?_
  refine RW.pure tabOk 1 rfl ?_
  have h9 := h4.ext x2
  refine RW.load tabOk [.slice A1 p0.Devices.length c_1] ((h9.at 0).take 1 rfl) ⟨rfl, rfl, rfl, rfl⟩ rfl rfl rfl rfl ?_
  refine RW.pure tabOk 2 rfl ?_
  refine RW.load tabOk [.int .i64 p0.Job.Dev] ((h9.at 2).take 1 rfl) ⟨rfl, rfl, rfl, rfl⟩ rfl rfl rfl rfl ?_
  have h10 := h5.ext x2
  obtain ⟨y2, h11, H⟩ := bind_some H
  refine RW.callF (.inl rfl) ent73 ⟨rfl, rfl, rfl, rfl⟩ rfl rfl (move_Loose.calls k A1 c_1 p0.Devices p0.Job.Dev _ _ h10.all hl1 h11) ?_
  rintro _ w3 ⟨rfl, x3⟩
  refine ⟨_, rfl, x3, ?_⟩
  have sx3 := x3.size
  refine RW.pure tabOk 1 rfl ?_
  refine RW.done ?_
  refine NW.next ?_
  refine CW.seqJ (fun a w4 => ∃ (it4_0 : Int), Sat 41 [(4, .int .i64 it4_0)] a ∧ w3.heap.size ≤ w4.heap.size ∧ Ext w w4 ∧ fore_Spare.j0 it4_0 = some r) ?_ ?_
  ·
   refine CW.seq ?_
   refine CW.lex [.W, .L, .W, .W, .L, .X, .W, .W, .W, .W, .W] rfl ?_
   refine RW.pure tabOk 1 rfl ?_
   have h12 := h9.ext x3
   refine RW.load tabOk [.slice A1 p0.Devices.length c_1] ((h12.at 0).take 1 rfl) ⟨rfl, rfl, rfl, rfl⟩ rfl rfl rfl rfl ?_
   refine RW.pure tabOk 2 rfl ?_
   refine RW.load tabOk [.int .i64 p0.Job.Dev] ((h12.at 2).take 1 rfl) ⟨rfl, rfl, rfl, rfl⟩ rfl rfl rfl rfl ?_
   have h13 := h10.ext x3
   obtain ⟨y3, h14, H⟩ := bind_some H
   refine RW.callF (.inl rfl) ent74 ⟨rfl, rfl, rfl, rfl⟩ rfl rfl (room_Find.calls k A1 c_1 p0.Devices p0.Job.Dev _ _ h13.all hl1 h14) ?_
   rintro _ w5 ⟨rfl, x4⟩
   refine ⟨_, rfl, x4, ?_⟩
   have sx4 := x4.size
   refine RW.pure tabOk 5 rfl ?_
   refine RW.done ?_
   refine NW.next ?_
   refine CW.seq ?_
   refine CW.lex [.W] rfl ?_
   refine RW.pure tabOk 1 rfl ?_
   refine RW.done ?_
   refine NW.next ?_
   by_cases c2 : y3.2 = true
   ·
    rw [if_pos c2] at H
    refine CW.cond_t rfl (c2) ?_
    refine CW.ord [0, 0, 2, 0, 14, 30, 62, 0, 128, 384, 1022, 2046, 4094, 8191, 16383] (ofL [(0, .W), (1, .W), (3, .W), (7, .W), (8, .W), (2, .L), (4, .W), (5, .L), (9, .L), (6, .X), (10, .X), (11, .W), (12, .X), (13, .W), (14, .W)] .nil) mixed (by kernel_rfl) ?_
    intro w6 x5
    have sx5 := x5.size
    refine RW.pure tabOk 5 rfl ?_
    have h15 := (h12.ext x4).ext x5
    refine RW.load tabOk [.slice A1 p0.Devices.length c_1] ((h15.at 0).take 1 rfl) ⟨rfl, rfl, rfl, rfl⟩ rfl rfl rfl rfl ?_
    obtain ⟨g1, H⟩ := guard_some H
    have h16 := (h13.ext x4).ext x5
    obtain ⟨ad1, A4, c_4, A5, c_5, e1, a1, l2, h17, l3, h18⟩ := kDeviceR_at h16 g1.1 g1.2
    refine RW.index tabOk g1.1 g1.2 e1 ⟨rfl, rfl, rfl, rfl⟩ rfl rfl rfl rfl rfl rfl ?_
    refine RW.load tabOk [.int .i64 ((rd p0.Devices y3.1).ID), .int .i64 ((rd p0.Devices y3.1).Size), .slice A4 ((rd p0.Devices y3.1).Free).length c_4, .slice A5 ((rd p0.Devices y3.1).Late).length c_5] a1 ⟨rfl, rfl, rfl, rfl⟩ rfl rfl rfl rfl ?_
    refine RW.load tabOk [.int .i64 p0.Job.At] ((h15.at 3).take 1 rfl) ⟨rfl, rfl, rfl, rfl⟩ rfl rfl rfl rfl ?_
    obtain ⟨y4, h19, H⟩ := bind_some H
    refine RW.callF (.inl rfl) ent75 ⟨rfl, rfl, rfl, rfl⟩ rfl rfl (room_Busy.calls k (rd p0.Devices y3.1) A4 c_4 A5 c_5 _ _ h17.all l2 h18.all l3 h19) ?_
    rintro _ w7 ⟨rfl, x6⟩
    refine ⟨_, rfl, x6, ?_⟩
    have sx6 := x6.size
    obtain ⟨y5, h20, H⟩ := bind_some H
    refine RW.callF (.inl rfl) ent76 ⟨rfl, rfl, rfl, rfl⟩ rfl rfl (seg_To.calls p0.Job.At _ _ h20) ?_
    rintro _ w8 ⟨rfl, x7⟩
    refine ⟨_, rfl, x7, ?_⟩
    have sx7 := x7.size
    refine RW.pure tabOk 1 rfl ?_
    obtain ⟨y6, h21, H⟩ := bind_some H
    refine RW.callF (.inl rfl) ent77 ⟨rfl, rfl, rfl, rfl⟩ rfl rfl (seg_Set_Count.calls (uandn y4 y5) _ _ h21) ?_
    rintro _ w9 ⟨rfl, x8⟩
    refine ⟨_, rfl, x8, ?_⟩
    have sx8 := x8.size
    refine RW.pure tabOk 2 rfl ?_
    refine RW.done ?_
    have h22 := Ext.trans (Ext.trans (Ext.trans (Ext.trans (Ext.trans (Ext.trans (Ext.trans (Ext.trans x0 x1) x2) x3) x4) x5) x6) x7) x8
    exact NW.J fun a ha => ⟨(w64 (y2 - y6)), ha.sub ⟨rfl, trivial⟩, by omega, h22, H⟩
   ·
    rw [if_neg c2] at H
    refine CW.cond_f rfl (bool_f c2) ?_
    refine CW.skip ?_
    have h23 := Ext.trans (Ext.trans (Ext.trans (Ext.trans x0 x1) x2) x3) x4
    exact NW.J fun a ha => ⟨y2, ha.sub ⟨rfl, trivial⟩, by omega, h23, H⟩
  intro a w4 hJ hp
  obtain ⟨it4_0, hS, hle, x0_0, H⟩ := hJ
  unfold fore_Spare.j0 at H
  refine CW.go hp hS ?_
  refine CW.seq ?_
  refine CW.lex [.W, .W, .W] rfl ?_
  refine RW.pure tabOk 3 rfl ?_
  refine RW.done ?_
  refine NW.next ?_
  refine CW.ret ?_
  obtain rfl := Option.some.inj H
  exact NW.ret2 rfl (by rfl) (by rfl) ⟨rfl, x0_0⟩
 ·
  rw [if_neg c1] at H
  refine CW.cond_t rfl (not_t (bool_f c1)) ?_
  refine CW.seq ?_
  refine CW.lex [.W, .W] rfl ?_
  refine RW.pure tabOk 2 rfl ?_
  refine RW.done ?_
  refine NW.next ?_
  refine CW.ret ?_
  refine NW.ret_then ?_
  obtain rfl := Option.some.inj H
  have h24 := Ext.trans (Ext.trans x0 x1) x2
  exact NW.ret2 rfl (by rfl) (by rfl) ⟨rfl, h24⟩

set_option maxHeartbeats 4000000 in
set_option maxRecDepth 100000 in
theorem hermitageref1_Has.calls (k : Nat) (A1 : Option Addr) (c_1 : Nat) (p0 : List Seg) (p1 : Int) (r : Bool) (w : World) (hs1 : Sl kSeg w.heap okAll A1 p0) (hl1 : p0.length ≤ c_1) (H : hermitageref1_Has.f k p0 p1 = some r) :
    Calls Try.prog 79 #[.slice A1 p0.length c_1, .int .i64 p1] w fun e w' => e = .returned (.bool r) ∧ Ext w w' := by
 have h1 : Sl kSeg w.heap (okL [(0, some w.heap.size, none)]) A1 p0 := hs1.old _ rfl
 have x0 : Ext w w := Upd.refl _ w
 unfold hermitageref1_Has.f at H
 refine calls_start Try.func79 rfl 15 rfl [.slice A1 p0.length c_1, .int .i64 p1] rfl ?_
 refine CW.seq ?_
 refine CW.lex [.W] rfl ?_
 refine RW.pure tabOk 1 rfl ?_
 refine RW.done ?_
 refine NW.next ?_
 refine CW.seq ?_
 refine CW.lex [.W, .X, .X, .M] rfl ?_
 refine RW.pure tabOk 1 rfl ?_
 obtain ⟨y1, h2, H⟩ := bind_some H
 refine RW.callF (.inl rfl) ent102 ⟨rfl, rfl, rfl, rfl⟩ rfl rfl (hermitageref1_Set.calls k A1 c_1 p0 _ _ h1.all hl1 h2) ?_
 rintro _ w1 ⟨rfl, x1⟩
 refine ⟨_, rfl, x1, ?_⟩
 have sx1 := x1.size
 refine RW.alloc tabOk (.inl rfl) ⟨rfl, rfl, rfl, rfl⟩ rfl rfl ?_
 intro b1 w2 x2 l1 h3
 have sx2 := x2.size
 have ltb1 := h3.lt
 refine RW.storeBox tabOk h3 (arrB 64 y1) ⟨rfl, rfl, rfl⟩ rfl rfl rfl rfl rfl arrF_len (arrF_all fun _ => rfl) (arrF_fitAll arrF_len) ?_
 intro w3 x3 h4
 have h5 : Box w3.heap b1 140 (arrB 64 y1) := by rw [lay_arrFull] at h4; exact h4
 have sx3 := x3.size
 refine RW.done ?_
 refine NW.next ?_
 refine CW.seq ?_
 refine CW.lex [.W, .X, .W, .W, .W, .L, .W, .W] rfl ?_
 refine RW.pure tabOk 1 rfl ?_
 obtain ⟨y2, h6, H⟩ := bind_some H
 refine RW.callF (.inl rfl) ent50 ⟨rfl, rfl, rfl, rfl⟩ rfl rfl (hermitageref0_Num.calls p1 63 _ _ h6) ?_
 rintro _ w4 ⟨rfl, x4⟩
 refine ⟨_, rfl, x4, ?_⟩
 have sx4 := x4.size
 refine RW.pure tabOk 1 rfl ?_
 by_cases c1 : y2 = true
 ·
  rw [if_pos c1] at H
  refine RW.bool 10 (b' := true) (c1) rfl ?_
  refine RW.pure tabOk 1 rfl ?_
  obtain ⟨g1, H⟩ := guard_some H
  refine RW.indexBox tabOk g1.1 g1.2 ⟨rfl, rfl, rfl, rfl⟩ rfl rfl rfl rfl rfl rfl rfl ?_
  have h7 := h5.ext x4
  refine RW.load tabOk [.bool (y1 p1.toNat)] (h7.elF (by have := g1; omega)) ⟨rfl, rfl, rfl, rfl⟩ rfl rfl rfl rfl ?_
  refine RW.pure tabOk 2 rfl ?_
  refine RW.done ?_
  refine NW.next ?_
  refine CW.ret ?_
  obtain rfl := Option.some.inj H
  have h8 := Ext.trans (Ext.turnB (Ext.trans (Ext.trans x0 x1) x2) x3 (by omega)) x4
  exact NW.ret1 rfl (by rfl) ⟨rfl, h8⟩
 ·
  rw [if_neg c1] at H
  refine RW.bool 10 (b' := false) (bool_f c1) rfl ?_
  refine RW.pure tabOk 5 rfl ?_
  refine RW.done ?_
  refine NW.next ?_
  refine CW.ret ?_
  obtain rfl := Option.some.inj H
  have h9 := Ext.trans (Ext.turnB (Ext.trans (Ext.trans x0 x1) x2) x3 (by omega)) x4
  exact NW.ret1 rfl (by rfl) ⟨rfl, h9⟩

set_option maxHeartbeats 4000000 in
set_option maxRecDepth 100000 in
theorem hermitageref9_Rest.calls (k : Nat) (p0 : Pool) (A1 : Option Addr) (c_1 : Nat) (A2 : Option Addr) (c_2 : Nat) (A3 : Option Addr) (c_3 : Nat) (r : Int × Int) (w : World) (hs1 : Sl kDeviceR w.heap okAll A1 p0.Devices) (hl1 : p0.Devices.length ≤ c_1) (hs2 : Sl kTableR w.heap okAll A2 p0.Tables) (hl2 : p0.Tables.length ≤ c_2) (hs3 : Sl kEntry w.heap okAll A3 p0.Job.Table.List_) (hl3 : p0.Job.Table.List_.length ≤ c_3) (H : hermitageref9_Rest.f k p0 = some r) :
    Calls Try.prog 38 #[.agg #[.slice A1 p0.Devices.length c_1, .slice A2 p0.Tables.length c_2, .int .i64 p0.Job.Dev, .int .i64 p0.Job.At, .int .i64 p0.Job.Table.Dev, .int .i64 p0.Job.Table.Size, .slice A3 p0.Job.Table.List_.length c_3, .int .i64 p0.Next]] w fun e w' => e = .returned (.tuple #[.int .i64 r.1, .int .i64 r.2]) ∧ Ext w w' := by
 have h1 : Sl kDeviceR w.heap (okL [(0, some w.heap.size, none)]) A1 p0.Devices := hs1.old _ rfl
 have h2 : Sl kTableR w.heap (okL [(0, some w.heap.size, none)]) A2 p0.Tables := hs2.old _ rfl
 have h3 : Sl kEntry w.heap (okL [(0, some w.heap.size, none)]) A3 p0.Job.Table.List_ := hs3.old _ rfl
 have x0 : Ext w w := Upd.refl _ w
 unfold hermitageref9_Rest.f at H
 refine calls_start Try.func38 rfl 61 rfl [.agg #[.slice A1 p0.Devices.length c_1, .slice A2 p0.Tables.length c_2, .int .i64 p0.Job.Dev, .int .i64 p0.Job.At, .int .i64 p0.Job.Table.Dev, .int .i64 p0.Job.Table.Size, .slice A3 p0.Job.Table.List_.length c_3, .int .i64 p0.Next]] rfl ?_
 refine CW.seq ?_
 refine CW.lex [.X, .W, .W] rfl ?_
 refine RW.box (cs := [.slice A1 p0.Devices.length c_1, .slice A2 p0.Tables.length c_2, .int .i64 p0.Job.Dev, .int .i64 p0.Job.At, .int .i64 p0.Job.Table.Dev, .int .i64 p0.Job.Table.Size, .slice A3 p0.Job.Table.List_.length c_3, .int .i64 p0.Next]) (.inl rfl) ⟨rfl, rfl, rfl, rfl⟩ rfl rfl rfl ?_
 intro b1 w1 x1 l1 h4
 have sx1 := x1.size
 have ltb1 := h4.lt
 refine RW.pure tabOk 2 rfl ?_
 refine RW.done ?_
 refine NW.next ?_
 refine CW.seq ?_
 refine CW.lex [.W, .L, .W, .W, .L, .X, .W] rfl ?_
 refine RW.pure tabOk 1 rfl ?_
 refine RW.load tabOk [.slice A1 p0.Devices.length c_1] ((h4.at 0).take 1 rfl) ⟨rfl, rfl, rfl, rfl⟩ rfl rfl rfl rfl ?_
 refine RW.pure tabOk 2 rfl ?_
 refine RW.load tabOk [.int .i64 p0.Job.Dev] ((h4.at 2).take 1 rfl) ⟨rfl, rfl, rfl, rfl⟩ rfl rfl rfl rfl ?_
 have h5 := h1.ext x1
 obtain ⟨y1, h6, H⟩ := bind_some H
 refine RW.callF (.inl rfl) ent35 ⟨rfl, rfl, rfl, rfl⟩ rfl rfl (hermitageref7_At.calls k A1 c_1 p0.Devices p0.Job.Dev _ _ h5.all hl1 h6) ?_
 rintro _ w2 ⟨rfl, x2⟩
 refine ⟨_, rfl, x2, ?_⟩
 have sx2 := x2.size
 refine RW.pure tabOk 1 rfl ?_
 refine RW.done ?_
 refine NW.next ?_
 refine CW.seq ?_
 refine CW.seq ?_
 refine CW.lex [.W, .W] rfl ?_
 refine RW.pure tabOk 2 rfl ?_
 refine RW.done ?_
 refine NW.next ?_
 by_cases c1 : y1 < 0
 ·
  rw [if_pos c1] at H
  refine CW.cond_t rfl (decide_eq_true c1) ?_
  refine CW.seq ?_
  refine CW.lex [.W, .W] rfl ?_
  refine RW.pure tabOk 2 rfl ?_
  refine RW.done ?_
  refine NW.next ?_
  refine CW.ret ?_
  refine NW.ret_then ?_
  obtain rfl := Option.some.inj H
  have h7 := Ext.trans (Ext.trans x0 x1) x2
  exact NW.ret2 rfl (by rfl) (by rfl) ⟨rfl, h7⟩
 ·
  rw [if_neg c1] at H
  refine CW.cond_f rfl (decide_eq_false c1) ?_
  refine CW.skip ?_
  refine NW.next ?_
  refine CW.seq ?_
  refine CW.lex [.W] rfl ?_
  refine RW.pure tabOk 1 rfl ?_
  refine RW.done ?_
  refine NW.next ?_
  refine CW.seq ?_
  refine CW.seq ?_
  refine CW.lex [.W, .W, .L, .W] rfl ?_
  refine RW.pure tabOk 2 rfl ?_
  have h8 := h4.ext x2
  refine RW.load tabOk [.int .i64 p0.Job.At] ((h8.at 3).take 1 rfl) ⟨rfl, rfl, rfl, rfl⟩ rfl rfl rfl rfl ?_
  refine RW.pure tabOk 1 rfl ?_
  refine RW.done ?_
  refine NW.next ?_
  refine CW.block ?_
  refine CW.loop (fun n1 a w3 => ∃ (it5_0 : Int) (it6_0 : Int), Sat 61 [(1, .pointer (some ⟨b1, 0, none⟩)), (4, .int .i64 y1), (5, .int .i64 it5_0), (6, .int .i64 it6_0)] a ∧ w2.heap.size ≤ w3.heap.size ∧ Sl kDeviceR w3.heap (okL [(0, some w.heap.size, none)]) A1 p0.Devices ∧ Sl kTableR w3.heap (okL [(0, some w.heap.size, none)]) A2 p0.Tables ∧ Sl kEntry w3.heap (okL [(0, some w.heap.size, none)]) A3 p0.Job.Table.List_ ∧ Ext w w3 ∧ Box w3.heap b1 61 [.slice A1 p0.Devices.length c_1, .slice A2 p0.Tables.length c_2, .int .i64 p0.Job.Dev, .int .i64 p0.Job.At, .int .i64 p0.Job.Table.Dev, .int .i64 p0.Job.Table.Size, .slice A3 p0.Job.Table.List_.length c_3, .int .i64 p0.Next] ∧ hermitageref9_Rest.l0 p0 k y1 n1 it5_0 it6_0 = some r) k ?_ ?_
  have h9 := h5.ext x2
  have h10 := (h2.ext x1).ext x2
  have h11 := (h3.ext x1).ext x2
  have h12 := Ext.trans (Ext.trans x0 x1) x2
  · exact fun a ha => ⟨0, p0.Job.At, ha.sub ⟨rfl, rfl, rfl, rfl, trivial⟩, by omega, h9, h10, h11, h12, h8, H⟩
  intro n1 a w3 hI hp
  obtain ⟨it5_0, it6_0, hS, hle, gF1_0, gF2_0, gF3_0, x0_0, gb1_0, H⟩ := hI
  cases n1 with
  | zero => cases H
  | succ n1 =>
   rw [hermitageref9_Rest.l0] at H
   refine CW.go hp hS ?_
   refine CW.seq ?_
   refine CW.seq ?_
   refine CW.lex [.W, .W, .L, .W, .W, .W, .L, .W] rfl ?_
   refine RW.pure tabOk 2 rfl ?_
   refine RW.load tabOk [.slice A1 p0.Devices.length c_1] ((gb1_0.at 0).take 1 rfl) ⟨rfl, rfl, rfl, rfl⟩ rfl rfl rfl rfl ?_
   refine RW.pure tabOk 1 rfl ?_
   obtain ⟨g1, H⟩ := guard_some H
   obtain ⟨ad1, A4, c_4, A5, c_5, e1, a1, l2, h13, l3, h14⟩ := kDeviceR_at gF1_0 g1.1 g1.2
   refine RW.index tabOk g1.1 g1.2 e1 ⟨rfl, rfl, rfl, rfl⟩ rfl rfl rfl rfl rfl rfl ?_
   refine RW.pure tabOk 1 rfl ?_
   refine RW.load tabOk [.int .i64 ((rd p0.Devices y1).Size)] ((a1.fld 1).take 1 rfl) ⟨rfl, rfl, rfl, rfl⟩ rfl rfl rfl rfl ?_
   refine RW.pure tabOk 1 rfl ?_
   refine RW.done ?_
   refine NW.next ?_
   by_cases c2 : it6_0 < ((rd p0.Devices y1).Size)
   ·
    rw [if_pos c2] at H
    refine CW.cond_t rfl (decide_eq_true c2) ?_
    refine CW.skip ?_
    refine NW.next ?_
    refine CW.seqJ (fun a w4 => ∃ (it5_1 : Int), Sat 61 [(1, .pointer (some ⟨b1, 0, none⟩)), (4, .int .i64 y1), (5, .int .i64 it5_1), (6, .int .i64 it6_0)] a ∧ w3.heap.size ≤ w4.heap.size ∧ Sl kDeviceR w4.heap (okL [(0, some w.heap.size, none)]) A1 p0.Devices ∧ Sl kTableR w4.heap (okL [(0, some w.heap.size, none)]) A2 p0.Tables ∧ Sl kEntry w4.heap (okL [(0, some w.heap.size, none)]) A3 p0.Job.Table.List_ ∧ Ext w w4 ∧ Box w4.heap b1 61 [.slice A1 p0.Devices.length c_1, .slice A2 p0.Tables.length c_2, .int .i64 p0.Job.Dev, .int .i64 p0.Job.At, .int .i64 p0.Job.Table.Dev, .int .i64 p0.Job.Table.Size, .slice A3 p0.Job.Table.List_.length c_3, .int .i64 p0.Next] ∧ hermitageref9_Rest.j0 it6_0 (hermitageref9_Rest.l0 p0 k y1 n1) it5_1 = some r) ?_ ?_
    ·
     refine CW.block ?_
     refine CW.seqJ (fun a w5 => ∃ (bt47_2 : Bool), Sat 61 [(1, .pointer (some ⟨b1, 0, none⟩)), (4, .int .i64 y1), (5, .int .i64 it5_0), (6, .int .i64 it6_0), (47, .bool bt47_2)] a ∧ w3.heap.size ≤ w5.heap.size ∧ Sl kDeviceR w5.heap (okL [(0, some w.heap.size, none)]) A1 p0.Devices ∧ Sl kTableR w5.heap (okL [(0, some w.heap.size, none)]) A2 p0.Tables ∧ Sl kEntry w5.heap (okL [(0, some w.heap.size, none)]) A3 p0.Job.Table.List_ ∧ Ext w w5 ∧ Box w5.heap b1 61 [.slice A1 p0.Devices.length c_1, .slice A2 p0.Tables.length c_2, .int .i64 p0.Job.Dev, .int .i64 p0.Job.At, .int .i64 p0.Job.Table.Dev, .int .i64 p0.Job.Table.Size, .slice A3 p0.Job.Table.List_.length c_3, .int .i64 p0.Next] ∧ hermitageref9_Rest.j1 it5_0 it6_0 (hermitageref9_Rest.l0 p0 k y1 n1) bt47_2 = some r) ?_ ?_
     ·
      refine CW.lex [.W, .L, .W, .W, .W, .L, .W, .X, .W, .W, .W, .L, .W, .W, .W, .L, .W, .X, .W, .W] rfl ?_
      refine RW.pure tabOk 1 rfl ?_
      refine RW.load tabOk [.slice A1 p0.Devices.length c_1] ((gb1_0.at 0).take 1 rfl) ⟨rfl, rfl, rfl, rfl⟩ rfl rfl rfl rfl ?_
      refine RW.pure tabOk 1 rfl ?_
      obtain ⟨g2, H⟩ := guard_some H
      obtain ⟨ad2, A6, c_6, A7, c_7, e2, a2, l4, h15, l5, h16⟩ := kDeviceR_at gF1_0 g2.1 g2.2
      refine RW.index tabOk g2.1 g2.2 e2 ⟨rfl, rfl, rfl, rfl⟩ rfl rfl rfl rfl rfl rfl ?_
      refine RW.pure tabOk 1 rfl ?_
      refine RW.load tabOk [.slice A6 ((rd p0.Devices y1).Free).length c_6] ((a2.fld 2).take 1 rfl) ⟨rfl, rfl, rfl, rfl⟩ rfl rfl rfl rfl ?_
      refine RW.pure tabOk 1 rfl ?_
      obtain ⟨y2, h17, H⟩ := bind_some H
      refine RW.callF (.inl rfl) ent79 ⟨rfl, rfl, rfl, rfl⟩ rfl rfl (hermitageref1_Has.calls k A6 c_6 ((rd p0.Devices y1).Free) it6_0 _ _ h15.all l4 h17) ?_
      rintro _ w6 ⟨rfl, x3⟩
      refine ⟨_, rfl, x3, ?_⟩
      have sx3 := x3.size
      refine RW.pure tabOk 2 rfl ?_
      by_cases c3 : y2 = true
      ·
       rw [if_pos c3] at H
       refine RW.bool 37 (b' := false) (not_f (c3)) rfl ?_
       refine RW.pure tabOk 10 rfl ?_
       refine RW.done ?_
       have h18 := gF1_0.ext x3
       have h19 := gF2_0.ext x3
       have h20 := gF3_0.ext x3
       have h21 := Ext.trans x0_0 x3
       have h22 := gb1_0.ext x3
       exact NW.J fun a ha => ⟨false, ha.sub ⟨rfl, rfl, rfl, rfl, rfl, trivial⟩, by omega, h18, h19, h20, h21, h22, H⟩
      ·
       rw [if_neg c3] at H
       refine RW.bool 37 (b' := true) (not_t (bool_f c3)) rfl ?_
       refine RW.pure tabOk 1 rfl ?_
       have h23 := gb1_0.ext x3
       refine RW.load tabOk [.slice A1 p0.Devices.length c_1] ((h23.at 0).take 1 rfl) ⟨rfl, rfl, rfl, rfl⟩ rfl rfl rfl rfl ?_
       refine RW.pure tabOk 1 rfl ?_
       obtain ⟨g3, H⟩ := guard_some H
       have h24 := gF1_0.ext x3
       obtain ⟨ad3, A8, c_8, A9, c_9, e3, a3, l6, h25, l7, h26⟩ := kDeviceR_at h24 g3.1 g3.2
       refine RW.index tabOk g3.1 g3.2 e3 ⟨rfl, rfl, rfl, rfl⟩ rfl rfl rfl rfl rfl rfl ?_
       refine RW.pure tabOk 1 rfl ?_
       refine RW.load tabOk [.slice A9 ((rd p0.Devices y1).Late).length c_9] (a3.fld 3) ⟨rfl, rfl, rfl, rfl⟩ rfl rfl rfl rfl ?_
       refine RW.pure tabOk 1 rfl ?_
       obtain ⟨y3, h27, H⟩ := bind_some H
       refine RW.callF (.inl rfl) ent79 ⟨rfl, rfl, rfl, rfl⟩ rfl rfl (hermitageref1_Has.calls k A9 c_9 ((rd p0.Devices y1).Late) it6_0 _ _ h26.all l7 h27) ?_
       rintro _ w7 ⟨rfl, x4⟩
       refine ⟨_, rfl, x4, ?_⟩
       have sx4 := x4.size
       refine RW.pure tabOk 2 rfl ?_
       refine RW.done ?_
       have h28 := h24.ext x4
       have h29 := (gF2_0.ext x3).ext x4
       have h30 := (gF3_0.ext x3).ext x4
       have h31 := Ext.trans (Ext.trans x0_0 x3) x4
       have h32 := h23.ext x4
       exact NW.J fun a ha => ⟨(!y3), ha.sub ⟨rfl, rfl, rfl, rfl, rfl, trivial⟩, by omega, h28, h29, h30, h31, h32, H⟩
     intro a w5 hJ hp
     obtain ⟨bt47_2, hS, hle, gF1_2, gF2_2, gF3_2, x0_2, gb1_2, H⟩ := hJ
     unfold hermitageref9_Rest.j1 at H
     refine CW.go hp hS ?_
     by_cases c4 : bt47_2 = true
     ·
      rw [if_pos c4] at H
      refine CW.cond_t rfl (c4) ?_
      refine CW.lex [.W, .W, .W] rfl ?_
      refine RW.pure tabOk 3 rfl ?_
      refine RW.done ?_
      refine NW.norm_block ?_
      exact NW.J fun a ha => ⟨(w64 (it5_0 + 1)), ha.sub ⟨rfl, rfl, rfl, rfl, trivial⟩, by omega, gF1_2, gF2_2, gF3_2, x0_2, gb1_2, H⟩
     ·
      rw [if_neg c4] at H
      refine CW.cond_f rfl (bool_f c4) ?_
      refine CW.skip ?_
      refine NW.norm_block ?_
      exact NW.J fun a ha => ⟨it5_0, ha.sub ⟨rfl, rfl, rfl, rfl, trivial⟩, by omega, gF1_2, gF2_2, gF3_2, x0_2, gb1_2, H⟩
    intro a w4 hJ hp
    obtain ⟨it5_1, hS, hle, gF1_1, gF2_1, gF3_1, x0_1, gb1_1, H⟩ := hJ
    unfold hermitageref9_Rest.j0 at H
    refine CW.go hp hS ?_
    refine CW.lex [.W, .W, .W] rfl ?_
    refine RW.pure tabOk 3 rfl ?_
    refine RW.done ?_
    exact NW.J fun a ha => ⟨n1, Nat.lt_succ_self n1, it5_1, (w64 (it6_0 + 1)), ha.sub ⟨rfl, rfl, rfl, rfl, trivial⟩, by omega, gF1_1, gF2_1, gF3_1, x0_1, gb1_1, H⟩
   ·
    rw [if_neg c2] at H
    refine CW.cond_f rfl (decide_eq_false c2) ?_
    refine CW.exit ?_
    refine NW.exit_then (NW.exit_then (NW.exit_hit ?_))
    refine NW.next ?_
    refine CW.seq ?_
    refine CW.ord [0, 1, 0, 7, 15, 31, 0, 64, 192, 511, 0, 1023, 4095] (ofL [(0, .W), (2, .W), (6, .W), (7, .W), (10, .W), (1, .L), (3, .W), (4, .W), (5, .L), (8, .L), (9, .W), (11, .W), (12, .W)] .nil) mixed (by kernel_rfl) ?_
    intro w8 x5
    have sx5 := x5.size
    refine RW.pure tabOk 5 rfl ?_
    have h33 := gb1_0.ext x5
    refine RW.load tabOk [.slice A1 p0.Devices.length c_1] ((h33.at 0).take 1 rfl) ⟨rfl, rfl, rfl, rfl⟩ rfl rfl rfl rfl ?_
    obtain ⟨g4, H⟩ := guard_some H
    have h34 := gF1_0.ext x5
    obtain ⟨ad4, A10, c_10, A11, c_11, e4, a4, l8, h35, l9, h36⟩ := kDeviceR_at h34 g4.1 g4.2
    refine RW.index tabOk g4.1 g4.2 e4 ⟨rfl, rfl, rfl, rfl⟩ rfl rfl rfl rfl rfl rfl ?_
    refine RW.pure tabOk 1 rfl ?_
    refine RW.load tabOk [.int .i64 ((rd p0.Devices y1).Size)] ((a4.fld 1).take 1 rfl) ⟨rfl, rfl, rfl, rfl⟩ rfl rfl rfl rfl ?_
    refine RW.load tabOk [.int .i64 p0.Job.At] ((h33.at 3).take 1 rfl) ⟨rfl, rfl, rfl, rfl⟩ rfl rfl rfl rfl ?_
    refine RW.pure tabOk 3 rfl ?_
    refine RW.done ?_
    refine NW.next ?_
    refine CW.ret ?_
    obtain rfl := Option.some.inj H
    have h37 := Ext.trans x0_0 x5
    exact NW.ret2 rfl (by rfl) (by rfl) ⟨rfl, h37⟩

set_option maxHeartbeats 4000000 in
set_option maxRecDepth 100000 in
theorem hermitageref1_List.calls (k : Nat) (A1 : Option Addr) (c_1 : Nat) (p0 : List Seg) (r : (List Int)) (w : World) (hs1 : Sl kSeg w.heap okAll A1 p0) (hl1 : p0.length ≤ c_1) (H : hermitageref1_List.f k p0 = some r) :
    Calls Try.prog 121 #[.slice A1 p0.length c_1] w fun e w' => ∃ (B1 : Option Addr) (d1 : Nat), e = .returned (.slice B1 r.length d1) ∧ Ext w w' ∧ Ow (Kd.int .i64) 3 w'.heap (okL [(w.heap.size, none, some 3)]) (okL []) B1 d1 r := by
 have h1 : Sl kSeg w.heap (okL [(0, some w.heap.size, none)]) A1 p0 := hs1.old _ rfl
 have x0 : Ext w w := Upd.refl _ w
 unfold hermitageref1_List.f at H
 refine calls_start Try.func121 rfl 20 rfl [.slice A1 p0.length c_1] rfl ?_
 refine CW.seq ?_
 refine CW.lex [.W] rfl ?_
 refine RW.pure tabOk 1 rfl ?_
 refine RW.done ?_
 refine NW.next ?_
 refine CW.seq ?_
 refine CW.lex [.W] rfl ?_
 refine RW.pure tabOk 1 rfl ?_
 refine RW.done ?_
 refine NW.next ?_
 refine CW.seq ?_
 refine CW.lex [.W, .X, .X, .M] rfl ?_
 refine RW.pure tabOk 1 rfl ?_
 obtain ⟨y1, h2, H⟩ := bind_some H
 refine RW.callF (.inl rfl) ent102 ⟨rfl, rfl, rfl, rfl⟩ rfl rfl (hermitageref1_Set.calls k A1 c_1 p0 _ _ h1.all hl1 h2) ?_
 rintro _ w1 ⟨rfl, x1⟩
 refine ⟨_, rfl, x1, ?_⟩
 have sx1 := x1.size
 refine RW.alloc tabOk (.inl rfl) ⟨rfl, rfl, rfl, rfl⟩ rfl rfl ?_
 intro b1 w2 x2 l1 h3
 have sx2 := x2.size
 have ltb1 := h3.lt
 refine RW.storeBox tabOk h3 (arrB 64 y1) ⟨rfl, rfl, rfl⟩ rfl rfl rfl rfl rfl arrF_len (arrF_all fun _ => rfl) (arrF_fitAll arrF_len) ?_
 intro w3 x3 h4
 have h5 : Box w3.heap b1 140 (arrB 64 y1) := by rw [lay_arrFull] at h4; exact h4
 have sx3 := x3.size
 refine RW.done ?_
 refine NW.next ?_
 refine CW.seq ?_
 refine CW.seq ?_
 refine CW.lex [.W] rfl ?_
 refine RW.pure tabOk 1 rfl ?_
 refine RW.done ?_
 refine NW.next ?_
 refine CW.block ?_
 refine CW.loop (fun n1 a w4 => ∃ (lt3_0 : List Int) (At3_0 : Option Addr) (ct3_0 : Nat) (it5_0 : Int), Sat 20 [(3, .slice At3_0 lt3_0.length ct3_0), (4, .pointer (some ⟨b1, 0, none⟩)), (5, .int .i64 it5_0)] a ∧ w3.heap.size ≤ w4.heap.size ∧ Ow (Kd.int .i64) 3 w4.heap (okL [(w3.heap.size, none, some 3)]) (okL []) At3_0 ct3_0 lt3_0 ∧ Ext w w4 ∧ Box w4.heap b1 140 (arrB 64 y1) ∧ hermitageref1_List.l0 y1 n1 lt3_0 it5_0 = some r) k ?_ ?_
 have h6 := Ext.turnB (Ext.trans (Ext.trans x0 x1) x2) x3 (by omega)
 · exact fun a ha => ⟨([] : List Int), none, 0, 0, ha.sub ⟨rfl, rfl, rfl, trivial⟩, by omega, Ow.nil, h6, h5, H⟩
 intro n1 a w4 hI hp
 obtain ⟨lt3_0, At3_0, ct3_0, it5_0, hS, hle, ft3_0, x0_0, gb1_0, H⟩ := hI
 cases n1 with
 | zero => cases H
 | succ n1 =>
  rw [hermitageref1_List.l0] at H
  refine CW.go hp hS ?_
  have h7 : Ow (Kd.int .i64) 3 w4.heap (okL [(w3.heap.size, some w4.heap.size, some 3)]) (okL []) At3_0 ct3_0 lt3_0 := ft3_0.close
  refine CW.seq ?_
  refine CW.seq ?_
  refine CW.lex [.W, .W] rfl ?_
  refine RW.pure tabOk 2 rfl ?_
  refine RW.done ?_
  refine NW.next ?_
  by_cases c1 : it5_0 < 64
  ·
   rw [if_pos c1] at H
   refine CW.cond_t rfl (decide_eq_true c1) ?_
   refine CW.skip ?_
   refine NW.next ?_
   refine CW.seqJ (fun a w5 => ∃ (lt3_1 : List Int) (At3_1 : Option Addr) (ct3_1 : Nat), Sat 20 [(3, .slice At3_1 lt3_1.length ct3_1), (4, .pointer (some ⟨b1, 0, none⟩)), (5, .int .i64 it5_0)] a ∧ w4.heap.size ≤ w5.heap.size ∧ Ow (Kd.int .i64) 3 w5.heap (okL [(w3.heap.size, none, some 3)]) (okL []) At3_1 ct3_1 lt3_1 ∧ Ext w w5 ∧ Box w5.heap b1 140 (arrB 64 y1) ∧ hermitageref1_List.j0 it5_0 (hermitageref1_List.l0 y1 n1) lt3_1 = some r) ?_ ?_
   ·
    refine CW.block ?_
    refine CW.seq ?_
    refine CW.lex [.W, .W, .L] rfl ?_
    refine RW.pure tabOk 1 rfl ?_
    obtain ⟨g1, H⟩ := guard_some H
    refine RW.indexBox tabOk g1.1 g1.2 ⟨rfl, rfl, rfl, rfl⟩ rfl rfl rfl rfl rfl rfl rfl ?_
    refine RW.load tabOk [.bool (y1 it5_0.toNat)] (gb1_0.elF (by have := g1; omega)) ⟨rfl, rfl, rfl, rfl⟩ rfl rfl rfl rfl ?_
    refine RW.done ?_
    refine NW.next ?_
    by_cases c2 : (y1 it5_0.toNat) = true
    ·
     rw [if_pos c2] at H
     refine CW.cond_t rfl (c2) ?_
     refine CW.lex [.W, .W, .X, .M, .W] rfl ?_
     refine RW.pure tabOk 2 rfl ?_
     refine RW.buildSlice (cs := [.int .i64 it5_0]) tabOk (.inl rfl) ⟨rfl, rfl, rfl, rfl⟩ rfl rfl rfl rfl rfl rfl rfl ?_
     intro b2 w6 x4 l2 h8
     have sx4 := x4.size
     have ltb2 := h8.lt
     have h9 := h7.ext x4
     obtain ⟨g2, H⟩ := guard_some H
     refine RW.append1L (d := (Kd.int .i64)) (v := it5_0) (l := [(w3.heap.size, some w4.heap.size, some 3)]) (li := []) (ly := []) (xs := lt3_0) tabOk h9 h8 rfl trivial (by simp only [maxLen]; omega) g2 ⟨rfl, rfl, rfl, rfl⟩ rfl rfl rfl rfl rfl rfl rfl ?_
     intro A2 c_2 w7 x5 h10
     have sx5 := x5.size
     have h11 := h10.close.sub (l' := [(w3.heap.size, some w7.heap.size, some 3)]) (li' := []) ⟨(.inl ⟨by omega, by omega, rfl⟩), ⟨(.inl ⟨by omega, by omega, rfl⟩), trivial⟩⟩ trivial
     refine RW.pure tabOk 1 rfl ?_
     refine RW.done ?_
     refine NW.norm_block ?_
     have h12 := Ext.turn (Ext.trans x0_0 x4) x5 ⟨by omega, trivial⟩
     have h13 := (gb1_0.ext x4).turnL x5 (.inl (by decide))
     exact NW.J fun a ha => ⟨(lt3_0 ++ [it5_0]), A2, c_2, ha.sub ⟨rfl, rfl, rfl, trivial⟩, by omega, (h11.sub ⟨(.inl ⟨by omega, trivial, rfl⟩), trivial⟩ trivial), h12, h13, H⟩
    ·
     rw [if_neg c2] at H
     refine CW.cond_f rfl (bool_f c2) ?_
     refine CW.skip ?_
     refine NW.norm_block ?_
     exact NW.J fun a ha => ⟨lt3_0, At3_0, ct3_0, ha.sub ⟨rfl, rfl, rfl, trivial⟩, by omega, (h7.sub ⟨(.inl ⟨by omega, trivial, rfl⟩), trivial⟩ trivial), x0_0, gb1_0, H⟩
   intro a w5 hJ hp
   obtain ⟨lt3_1, At3_1, ct3_1, hS, hle, ft3_1, x0_1, gb1_1, H⟩ := hJ
   unfold hermitageref1_List.j0 at H
   refine CW.go hp hS ?_
   have h14 : Ow (Kd.int .i64) 3 w5.heap (okL [(w3.heap.size, some w5.heap.size, some 3)]) (okL []) At3_1 ct3_1 lt3_1 := ft3_1.close
   refine CW.lex [.W, .W, .W] rfl ?_
   refine RW.pure tabOk 3 rfl ?_
   refine RW.done ?_
   exact NW.J fun a ha => ⟨n1, Nat.lt_succ_self n1, lt3_1, At3_1, ct3_1, (w64 (it5_0 + 1)), ha.sub ⟨rfl, rfl, rfl, trivial⟩, by omega, (h14.sub ⟨(.inl ⟨by omega, trivial, rfl⟩), trivial⟩ trivial), x0_1, gb1_1, H⟩
  ·
   rw [if_neg c1] at H
   refine CW.cond_f rfl (decide_eq_false c1) ?_
   refine CW.exit ?_
   refine NW.exit_then (NW.exit_then (NW.exit_hit ?_))
   refine NW.next ?_
   refine CW.seq ?_
   refine CW.lex [.W, .W] rfl ?_
   refine RW.pure tabOk 2 rfl ?_
   refine RW.done ?_
   refine NW.next ?_
   refine CW.ret ?_
   obtain rfl := Option.some.inj H
   exact NW.ret1 rfl (by rfl) ⟨At3_0, ct3_0, rfl, x0_0, (h7.sub (l' := [(w.heap.size, none, some 3)]) (li' := []) ⟨(.inl ⟨by omega, trivial, rfl⟩), trivial⟩ trivial)⟩

set_option maxHeartbeats 4000000 in
set_option maxRecDepth 100000 in
theorem hermitageref1_Count.calls (k : Nat) (A1 : Option Addr) (c_1 : Nat) (p0 : List Seg) (r : Int) (w : World) (hs1 : Sl kSeg w.heap okAll A1 p0) (hl1 : p0.length ≤ c_1) (H : hermitageref1_Count.f k p0 = some r) :
    Calls Try.prog 101 #[.slice A1 p0.length c_1] w fun e w' => e = .returned (.int .i64 r) ∧ Ext w w' := by
 have h1 : Sl kSeg w.heap (okL [(0, some w.heap.size, none)]) A1 p0 := hs1.old _ rfl
 have x0 : Ext w w := Upd.refl _ w
 unfold hermitageref1_Count.f at H
 refine calls_start Try.func101 rfl 6 rfl [.slice A1 p0.length c_1] rfl ?_
 refine CW.seq ?_
 refine CW.lex [.W] rfl ?_
 refine RW.pure tabOk 1 rfl ?_
 refine RW.done ?_
 refine NW.next ?_
 refine CW.seq ?_
 refine CW.lex [.W, .X, .W, .W] rfl ?_
 refine RW.pure tabOk 1 rfl ?_
 obtain ⟨y1, h2, H⟩ := bind_some H
 refine RW.callF (.inl rfl) ent121 ⟨rfl, rfl, rfl, rfl⟩ rfl rfl (hermitageref1_List.calls k A1 c_1 p0 _ _ h1.all hl1 h2) ?_
 rintro _ w1 ⟨A2, c_2, rfl, x1, h3⟩
 refine ⟨_, rfl, x1, ?_⟩
 have sx1 := x1.size
 have h4 : Ow (Kd.int .i64) 3 w1.heap (okL [(w.heap.size, some w1.heap.size, some 3)]) (okL []) A2 c_2 y1 := h3.close
 refine RW.pure tabOk 2 rfl ?_
 refine RW.done ?_
 refine NW.next ?_
 refine CW.ret ?_
 obtain rfl := Option.some.inj H
 have h5 := Ext.trans x0 x1
 exact NW.ret1 rfl (by rfl) ⟨rfl, h5⟩

set_option maxHeartbeats 4000000 in
set_option maxRecDepth 100000 in
theorem hermitageref7_Used.calls (k : Nat) (p0 : Device) (A1 : Option Addr) (c_1 : Nat) (A2 : Option Addr) (c_2 : Nat) (r : Int) (w : World) (hs1 : Sl kSeg w.heap okAll A1 p0.Free) (hl1 : p0.Free.length ≤ c_1) (hs2 : Sl kSeg w.heap okAll A2 p0.Late) (hl2 : p0.Late.length ≤ c_2) (H : hermitageref7_Used.f k p0 = some r) :
    Calls Try.prog 78 #[.agg #[.int .i64 p0.ID, .int .i64 p0.Size, .slice A1 p0.Free.length c_1, .slice A2 p0.Late.length c_2]] w fun e w' => e = .returned (.int .i64 r) ∧ Ext w w' := by
 have h1 : Sl kSeg w.heap (okL [(0, some w.heap.size, none)]) A1 p0.Free := hs1.old _ rfl
 have h2 : Sl kSeg w.heap (okL [(0, some w.heap.size, none)]) A2 p0.Late := hs2.old _ rfl
 have x0 : Ext w w := Upd.refl _ w
 unfold hermitageref7_Used.f at H
 refine calls_start Try.func78 rfl 13 rfl [.agg #[.int .i64 p0.ID, .int .i64 p0.Size, .slice A1 p0.Free.length c_1, .slice A2 p0.Late.length c_2]] rfl ?_
 refine CW.seq ?_
 refine CW.lex [.X, .W] rfl ?_
 refine RW.box (cs := [.int .i64 p0.ID, .int .i64 p0.Size, .slice A1 p0.Free.length c_1, .slice A2 p0.Late.length c_2]) (.inl rfl) ⟨rfl, rfl, rfl, rfl⟩ rfl rfl rfl ?_
 intro b1 w1 x1 l1 h3
 have sx1 := x1.size
 have ltb1 := h3.lt
 refine RW.pure tabOk 1 rfl ?_
 refine RW.done ?_
 refine NW.next ?_
 refine CW.seq ?_
 refine CW.ord [0, 1, 0, 4, 12, 31, 0, 64, 220, 511, 1023] (ofL [(0, .W), (2, .W), (6, .W), (1, .L), (3, .L), (7, .L), (4, .X), (5, .W), (8, .X), (9, .W), (10, .W)] .nil) mixed (by kernel_rfl) ?_
 intro w2 x2
 have sx2 := x2.size
 refine RW.pure tabOk 3 rfl ?_
 have h4 := h3.ext x2
 refine RW.load tabOk [.int .i64 p0.Size] ((h4.at 1).take 1 rfl) ⟨rfl, rfl, rfl, rfl⟩ rfl rfl rfl rfl ?_
 refine RW.load tabOk [.slice A1 p0.Free.length c_1] ((h4.at 2).take 1 rfl) ⟨rfl, rfl, rfl, rfl⟩ rfl rfl rfl rfl ?_
 refine RW.load tabOk [.slice A2 p0.Late.length c_2] (h4.at 3) ⟨rfl, rfl, rfl, rfl⟩ rfl rfl rfl rfl ?_
 have h5 := (h1.ext x1).ext x2
 obtain ⟨y1, h6, H⟩ := bind_some H
 refine RW.callF (.inl rfl) ent101 ⟨rfl, rfl, rfl, rfl⟩ rfl rfl (hermitageref1_Count.calls k A1 c_1 p0.Free _ _ h5.all hl1 h6) ?_
 rintro _ w3 ⟨rfl, x3⟩
 refine ⟨_, rfl, x3, ?_⟩
 have sx3 := x3.size
 refine RW.pure tabOk 1 rfl ?_
 have h7 := ((h2.ext x1).ext x2).ext x3
 obtain ⟨y2, h8, H⟩ := bind_some H
 refine RW.callF (.inl rfl) ent101 ⟨rfl, rfl, rfl, rfl⟩ rfl rfl (hermitageref1_Count.calls k A2 c_2 p0.Late _ _ h7.all hl2 h8) ?_
 rintro _ w4 ⟨rfl, x4⟩
 refine ⟨_, rfl, x4, ?_⟩
 have sx4 := x4.size
 refine RW.pure tabOk 2 rfl ?_
 refine RW.done ?_
 refine NW.next ?_
 refine CW.ret ?_
 obtain rfl := Option.some.inj H
 have h9 := Ext.trans (Ext.trans (Ext.trans (Ext.trans x0 x1) x2) x3) x4
 exact NW.ret1 rfl (by rfl) ⟨rfl, h9⟩

set_option maxHeartbeats 4000000 in
set_option maxRecDepth 100000 in
theorem hermitageref9_Spare.calls (k : Nat) (p0 : Pool) (A1 : Option Addr) (c_1 : Nat) (A2 : Option Addr) (c_2 : Nat) (A3 : Option Addr) (c_3 : Nat) (r : Int) (w : World) (hs1 : Sl kDeviceR w.heap okAll A1 p0.Devices) (hl1 : p0.Devices.length ≤ c_1) (hs2 : Sl kTableR w.heap okAll A2 p0.Tables) (hl2 : p0.Tables.length ≤ c_2) (hs3 : Sl kEntry w.heap okAll A3 p0.Job.Table.List_) (hl3 : p0.Job.Table.List_.length ≤ c_3) (H : hermitageref9_Spare.f k p0 = some r) :
    Calls Try.prog 31 #[.agg #[.slice A1 p0.Devices.length c_1, .slice A2 p0.Tables.length c_2, .int .i64 p0.Job.Dev, .int .i64 p0.Job.At, .int .i64 p0.Job.Table.Dev, .int .i64 p0.Job.Table.Size, .slice A3 p0.Job.Table.List_.length c_3, .int .i64 p0.Next]] w fun e w' => e = .returned (.int .i64 r) ∧ Ext w w' := by
 have h1 : Sl kDeviceR w.heap (okL [(0, some w.heap.size, none)]) A1 p0.Devices := hs1.old _ rfl
 have h2 : Sl kTableR w.heap (okL [(0, some w.heap.size, none)]) A2 p0.Tables := hs2.old _ rfl
 have h3 : Sl kEntry w.heap (okL [(0, some w.heap.size, none)]) A3 p0.Job.Table.List_ := hs3.old _ rfl
 have x0 : Ext w w := Upd.refl _ w
 unfold hermitageref9_Spare.f at H
 refine calls_start Try.func31 rfl 47 rfl [.agg #[.slice A1 p0.Devices.length c_1, .slice A2 p0.Tables.length c_2, .int .i64 p0.Job.Dev, .int .i64 p0.Job.At, .int .i64 p0.Job.Table.Dev, .int .i64 p0.Job.Table.Size, .slice A3 p0.Job.Table.List_.length c_3, .int .i64 p0.Next]] rfl ?_
 refine CW.seq ?_
 refine CW.lex [.X, .W] rfl ?_
 refine RW.box (cs := [.slice A1 p0.Devices.length c_1, .slice A2 p0.Tables.length c_2, .int .i64 p0.Job.Dev, .int .i64 p0.Job.At, .int .i64 p0.Job.Table.Dev, .int .i64 p0.Job.Table.Size, .slice A3 p0.Job.Table.List_.length c_3, .int .i64 p0.Next]) (.inl rfl) ⟨rfl, rfl, rfl, rfl⟩ rfl rfl rfl ?_
 intro b1 w1 x1 l1 h4
 have sx1 := x1.size
 have ltb1 := h4.lt
 refine RW.pure tabOk 1 rfl ?_
 refine RW.done ?_
 refine NW.next ?_
 refine CW.seq ?_
 refine CW.lex [.W] rfl ?_
 refine RW.pure tabOk 1 rfl ?_
 refine RW.done ?_
 refine NW.next ?_
 refine CW.seq ?_
 refine CW.seq ?_
 refine CW.lex [.W] rfl ?_
 refine RW.pure tabOk 1 rfl ?_
 refine RW.done ?_
 refine NW.next ?_
 refine CW.block ?_
 refine CW.loop (fun n1 a w2 => ∃ (it3_0 : Int) (it4_0 : Int), Sat 47 [(1, .pointer (some ⟨b1, 0, none⟩)), (3, .int .i64 it3_0), (4, .int .i64 it4_0)] a ∧ w1.heap.size ≤ w2.heap.size ∧ Sl kDeviceR w2.heap (okL [(0, some w.heap.size, none)]) A1 p0.Devices ∧ Sl kTableR w2.heap (okL [(0, some w.heap.size, none)]) A2 p0.Tables ∧ Sl kEntry w2.heap (okL [(0, some w.heap.size, none)]) A3 p0.Job.Table.List_ ∧ Ext w w2 ∧ Box w2.heap b1 61 [.slice A1 p0.Devices.length c_1, .slice A2 p0.Tables.length c_2, .int .i64 p0.Job.Dev, .int .i64 p0.Job.At, .int .i64 p0.Job.Table.Dev, .int .i64 p0.Job.Table.Size, .slice A3 p0.Job.Table.List_.length c_3, .int .i64 p0.Next] ∧ hermitageref9_Spare.l0 p0 k n1 it3_0 it4_0 = some r) k ?_ ?_
 have h5 := h1.ext x1
 have h6 := h2.ext x1
 have h7 := h3.ext x1
 have h8 := Ext.trans x0 x1
 · exact fun a ha => ⟨0, 0, ha.sub ⟨rfl, rfl, rfl, trivial⟩, by omega, h5, h6, h7, h8, h4, H⟩
 intro n1 a w2 hI hp
 obtain ⟨it3_0, it4_0, hS, hle, gF1_0, gF2_0, gF3_0, x0_0, gb1_0, H⟩ := hI
 cases n1 with
 | zero => cases H
 | succ n1 =>
  rw [hermitageref9_Spare.l0] at H
  refine CW.go hp hS ?_
  refine CW.seq ?_
  refine CW.seq ?_
  refine CW.lex [.W, .W, .L, .W, .W] rfl ?_
  refine RW.pure tabOk 2 rfl ?_
  refine RW.load tabOk [.slice A1 p0.Devices.length c_1] ((gb1_0.at 0).take 1 rfl) ⟨rfl, rfl, rfl, rfl⟩ rfl rfl rfl rfl ?_
  refine RW.pure tabOk 2 rfl ?_
  refine RW.done ?_
  refine NW.next ?_
  by_cases c1 : it4_0 < (p0.Devices.length : Int)
  ·
   rw [if_pos c1] at H
   refine CW.cond_t rfl (decide_eq_true c1) ?_
   refine CW.skip ?_
   refine NW.next ?_
   refine CW.seqJ (fun a w3 => ∃ (it3_1 : Int), Sat 47 [(1, .pointer (some ⟨b1, 0, none⟩)), (3, .int .i64 it3_1), (4, .int .i64 it4_0)] a ∧ w2.heap.size ≤ w3.heap.size ∧ Sl kDeviceR w3.heap (okL [(0, some w.heap.size, none)]) A1 p0.Devices ∧ Sl kTableR w3.heap (okL [(0, some w.heap.size, none)]) A2 p0.Tables ∧ Sl kEntry w3.heap (okL [(0, some w.heap.size, none)]) A3 p0.Job.Table.List_ ∧ Ext w w3 ∧ Box w3.heap b1 61 [.slice A1 p0.Devices.length c_1, .slice A2 p0.Tables.length c_2, .int .i64 p0.Job.Dev, .int .i64 p0.Job.At, .int .i64 p0.Job.Table.Dev, .int .i64 p0.Job.Table.Size, .slice A3 p0.Job.Table.List_.length c_3, .int .i64 p0.Next] ∧ hermitageref9_Spare.j0 it4_0 (hermitageref9_Spare.l0 p0 k n1) it3_1 = some r) ?_ ?_
   ·
    refine CW.block ?_
    refine CW.seq ?_
    refine CW.ord [0, 1, 0, 7, 15, 31, 0, 64, 192, 511] (ofL [(0, .W), (2, .W), (6, .W), (7, .W), (1, .L), (3, .W), (4, .W), (5, .L), (8, .L), (9, .W)] .nil) mixed (by kernel_rfl) ?_
    intro w4 x2
    have sx2 := x2.size
    refine RW.pure tabOk 4 rfl ?_
    have h9 := gb1_0.ext x2
    refine RW.load tabOk [.slice A1 p0.Devices.length c_1] ((h9.at 0).take 1 rfl) ⟨rfl, rfl, rfl, rfl⟩ rfl rfl rfl rfl ?_
    obtain ⟨g1, H⟩ := guard_some H
    have h10 := gF1_0.ext x2
    obtain ⟨ad1, A4, c_4, A5, c_5, e1, a1, l2, h11, l3, h12⟩ := kDeviceR_at h10 g1.1 g1.2
    refine RW.index tabOk g1.1 g1.2 e1 ⟨rfl, rfl, rfl, rfl⟩ rfl rfl rfl rfl rfl rfl ?_
    refine RW.pure tabOk 1 rfl ?_
    refine RW.load tabOk [.int .i64 ((rd p0.Devices it4_0).ID)] ((a1.fld 0).take 1 rfl) ⟨rfl, rfl, rfl, rfl⟩ rfl rfl rfl rfl ?_
    refine RW.load tabOk [.int .i64 p0.Job.Dev] ((h9.at 2).take 1 rfl) ⟨rfl, rfl, rfl, rfl⟩ rfl rfl rfl rfl ?_
    refine RW.pure tabOk 1 rfl ?_
    refine RW.done ?_
    refine NW.next ?_
    by_cases c2 : (rd p0.Devices it4_0).ID = p0.Job.Dev
    ·
     rw [if_pos c2] at H
     refine CW.cond_f rfl (bne_f c2) ?_
     refine CW.skip ?_
     refine NW.norm_block ?_
     have h13 := gF2_0.ext x2
     have h14 := gF3_0.ext x2
     have h15 := Ext.trans x0_0 x2
     exact NW.J fun a ha => ⟨it3_0, ha.sub ⟨rfl, rfl, rfl, trivial⟩, by omega, h10, h13, h14, h15, h9, H⟩
    ·
     rw [if_neg c2] at H
     refine CW.cond_t rfl (bne_t c2) ?_
     refine CW.ord [0, 0, 2, 0, 14, 30, 62, 127, 0, 256, 0, 1792, 3840, 7936, 16383, 32767] (ofL [(0, .W), (1, .W), (3, .W), (8, .W), (10, .W), (2, .L), (4, .W), (5, .W), (6, .L), (7, .W), (9, .L), (11, .W), (12, .L), (13, .X), (14, .W), (15, .W)] .nil) mixed (by kernel_rfl) ?_
     intro w5 x3
     have sx3 := x3.size
     refine RW.pure tabOk 5 rfl ?_
     have h16 := h9.ext x3
     refine RW.load tabOk [.slice A1 p0.Devices.length c_1] ((h16.at 0).take 1 rfl) ⟨rfl, rfl, rfl, rfl⟩ rfl rfl rfl rfl ?_
     obtain ⟨g2, H⟩ := guard_some H
     have h17 := h10.ext x3
     obtain ⟨ad2, A6, c_6, A7, c_7, e2, a2, l4, h18, l5, h19⟩ := kDeviceR_at h17 g2.1 g2.2
     refine RW.index tabOk g2.1 g2.2 e2 ⟨rfl, rfl, rfl, rfl⟩ rfl rfl rfl rfl rfl rfl ?_
     refine RW.pure tabOk 1 rfl ?_
     refine RW.load tabOk [.int .i64 ((rd p0.Devices it4_0).Size)] ((a2.fld 1).take 1 rfl) ⟨rfl, rfl, rfl, rfl⟩ rfl rfl rfl rfl ?_
     refine RW.pure tabOk 1 rfl ?_
     refine RW.load tabOk [.slice A1 p0.Devices.length c_1] ((h16.at 0).take 1 rfl) ⟨rfl, rfl, rfl, rfl⟩ rfl rfl rfl rfl ?_
     obtain ⟨g3, H⟩ := guard_some H
     obtain ⟨ad3, A8, c_8, A9, c_9, e3, a3, l6, h20, l7, h21⟩ := kDeviceR_at h17 g3.1 g3.2
     refine RW.index tabOk g3.1 g3.2 e3 ⟨rfl, rfl, rfl, rfl⟩ rfl rfl rfl rfl rfl rfl ?_
     refine RW.load tabOk [.int .i64 ((rd p0.Devices it4_0).ID), .int .i64 ((rd p0.Devices it4_0).Size), .slice A8 ((rd p0.Devices it4_0).Free).length c_8, .slice A9 ((rd p0.Devices it4_0).Late).length c_9] a3 ⟨rfl, rfl, rfl, rfl⟩ rfl rfl rfl rfl ?_
     obtain ⟨y1, h22, H⟩ := bind_some H
     refine RW.callF (.inl rfl) ent78 ⟨rfl, rfl, rfl, rfl⟩ rfl rfl (hermitageref7_Used.calls k (rd p0.Devices it4_0) A8 c_8 A9 c_9 _ _ h20.all l6 h21.all l7 h22) ?_
     rintro _ w6 ⟨rfl, x4⟩
     refine ⟨_, rfl, x4, ?_⟩
     have sx4 := x4.size
     refine RW.pure tabOk 2 rfl ?_
     refine RW.done ?_
     refine NW.norm_block ?_
     have h23 := h17.ext x4
     have h24 := ((gF2_0.ext x2).ext x3).ext x4
     have h25 := ((gF3_0.ext x2).ext x3).ext x4
     have h26 := Ext.trans (Ext.trans (Ext.trans x0_0 x2) x3) x4
     have h27 := h16.ext x4
     exact NW.J fun a ha => ⟨(w64 ((w64 (it3_0 + ((rd p0.Devices it4_0).Size))) - y1)), ha.sub ⟨rfl, rfl, rfl, trivial⟩, by omega, h23, h24, h25, h26, h27, H⟩
   intro a w3 hJ hp
   obtain ⟨it3_1, hS, hle, gF1_1, gF2_1, gF3_1, x0_1, gb1_1, H⟩ := hJ
   unfold hermitageref9_Spare.j0 at H
   refine CW.go hp hS ?_
   refine CW.lex [.W, .W, .W] rfl ?_
   refine RW.pure tabOk 3 rfl ?_
   refine RW.done ?_
   exact NW.J fun a ha => ⟨n1, Nat.lt_succ_self n1, it3_1, (w64 (it4_0 + 1)), ha.sub ⟨rfl, rfl, rfl, trivial⟩, by omega, gF1_1, gF2_1, gF3_1, x0_1, gb1_1, H⟩
  ·
   rw [if_neg c1] at H
   refine CW.cond_f rfl (decide_eq_false c1) ?_
   refine CW.exit ?_
   refine NW.exit_then (NW.exit_then (NW.exit_hit ?_))
   refine NW.next ?_
   refine CW.seq ?_
   refine CW.lex [.L, .X, .W, .W, .W, .W, .W] rfl ?_
   refine RW.load tabOk [.slice A1 p0.Devices.length c_1, .slice A2 p0.Tables.length c_2, .int .i64 p0.Job.Dev, .int .i64 p0.Job.At, .int .i64 p0.Job.Table.Dev, .int .i64 p0.Job.Table.Size, .slice A3 p0.Job.Table.List_.length c_3, .int .i64 p0.Next] (gb1_0.at 0) ⟨rfl, rfl, rfl, rfl⟩ rfl rfl rfl rfl ?_
   obtain ⟨y2, h28, H⟩ := bind_some H
   refine RW.callF (.inl rfl) ent38 ⟨rfl, rfl, rfl, rfl⟩ rfl rfl (hermitageref9_Rest.calls k p0 A1 c_1 A2 c_2 A3 c_3 _ _ gF1_0.all hl1 gF2_0.all hl2 gF3_0.all hl3 h28) ?_
   rintro _ w7 ⟨rfl, x5⟩
   refine ⟨_, rfl, x5, ?_⟩
   have sx5 := x5.size
   refine RW.pure tabOk 5 rfl ?_
   refine RW.done ?_
   refine NW.next ?_
   refine CW.seq ?_
   refine CW.lex [.W, .W, .W, .W] rfl ?_
   refine RW.pure tabOk 4 rfl ?_
   refine RW.done ?_
   refine NW.next ?_
   refine CW.ret ?_
   obtain rfl := Option.some.inj H
   have h29 := Ext.trans x0_0 x5
   exact NW.ret1 rfl (by rfl) ⟨rfl, h29⟩

set_option maxHeartbeats 4000000 in
set_option maxRecDepth 100000 in
theorem hermitageref9_Depth.calls (k : Nat) (p0 : Pool) (A1 : Option Addr) (c_1 : Nat) (A2 : Option Addr) (c_2 : Nat) (A3 : Option Addr) (c_3 : Nat) (r : Int) (w : World) (hs1 : Sl kDeviceR w.heap okAll A1 p0.Devices) (hl1 : p0.Devices.length ≤ c_1) (hs2 : Sl kTableR w.heap okAll A2 p0.Tables) (hl2 : p0.Tables.length ≤ c_2) (hs3 : Sl kEntry w.heap okAll A3 p0.Job.Table.List_) (hl3 : p0.Job.Table.List_.length ≤ c_3) (H : hermitageref9_Depth.f k p0 = some r) :
    Calls Try.prog 32 #[.agg #[.slice A1 p0.Devices.length c_1, .slice A2 p0.Tables.length c_2, .int .i64 p0.Job.Dev, .int .i64 p0.Job.At, .int .i64 p0.Job.Table.Dev, .int .i64 p0.Job.Table.Size, .slice A3 p0.Job.Table.List_.length c_3, .int .i64 p0.Next]] w fun e w' => e = .returned (.int .i64 r) ∧ Ext w w' := by
 have h1 : Sl kDeviceR w.heap (okL [(0, some w.heap.size, none)]) A1 p0.Devices := hs1.old _ rfl
 have h2 : Sl kTableR w.heap (okL [(0, some w.heap.size, none)]) A2 p0.Tables := hs2.old _ rfl
 have h3 : Sl kEntry w.heap (okL [(0, some w.heap.size, none)]) A3 p0.Job.Table.List_ := hs3.old _ rfl
 have x0 : Ext w w := Upd.refl _ w
 unfold hermitageref9_Depth.f at H
 refine calls_start Try.func32 rfl 71 rfl [.agg #[.slice A1 p0.Devices.length c_1, .slice A2 p0.Tables.length c_2, .int .i64 p0.Job.Dev, .int .i64 p0.Job.At, .int .i64 p0.Job.Table.Dev, .int .i64 p0.Job.Table.Size, .slice A3 p0.Job.Table.List_.length c_3, .int .i64 p0.Next]] rfl ?_
 refine CW.seq ?_
 refine CW.lex [.X, .W] rfl ?_
 refine RW.box (cs := [.slice A1 p0.Devices.length c_1, .slice A2 p0.Tables.length c_2, .int .i64 p0.Job.Dev, .int .i64 p0.Job.At, .int .i64 p0.Job.Table.Dev, .int .i64 p0.Job.Table.Size, .slice A3 p0.Job.Table.List_.length c_3, .int .i64 p0.Next]) (.inl rfl) ⟨rfl, rfl, rfl, rfl⟩ rfl rfl rfl ?_
 intro b1 w1 x1 l1 h4
 have sx1 := x1.size
 have ltb1 := h4.lt
 refine RW.pure tabOk 1 rfl ?_
 refine RW.done ?_
 refine NW.next ?_
 refine CW.seq ?_
 refine CW.lex [.W, .L, .W, .X, .W] rfl ?_
 refine RW.pure tabOk 1 rfl ?_
 refine RW.load tabOk [.slice A2 p0.Tables.length c_2] ((h4.at 1).take 1 rfl) ⟨rfl, rfl, rfl, rfl⟩ rfl rfl rfl rfl ?_
 refine RW.pure tabOk 1 rfl ?_
 obtain ⟨g1, H⟩ := guard_some H
 refine RW.makeSlice (d := (Kd.int .i64)) (z0 := (0 : Int)) tabOk g1.1 g1.2 (.inl rfl) ⟨rfl, rfl, rfl, rfl⟩ rfl rfl rfl rfl rfl rfl (fun _ => rfl) rfl rfl ?_
 intro b2 w2 x2 l2 h5
 have sx2 := x2.size
 refine RW.pure tabOk 1 rfl ?_
 refine RW.done ?_
 refine NW.next ?_
 refine CW.seq ?_
 refine CW.lex [.W] rfl ?_
 refine RW.pure tabOk 1 rfl ?_
 refine RW.done ?_
 refine NW.next ?_
 refine CW.seq ?_
 refine CW.seq ?_
 refine CW.lex [.W] rfl ?_
 refine RW.pure tabOk 1 rfl ?_
 refine RW.done ?_
 refine NW.next ?_
 refine CW.block ?_
 refine CW.loop (fun n1 a w3 => ∃ (lt3_0 : List Int) (At3_0 : Option Addr) (ct3_0 : Nat) (it4_0 : Int) (it5_0 : Int), Sat 71 [(1, .pointer (some ⟨b1, 0, none⟩)), (3, .slice At3_0 lt3_0.length ct3_0), (4, .int .i64 it4_0), (5, .int .i64 it5_0)] a ∧ w2.heap.size ≤ w3.heap.size ∧ Ow (Kd.int .i64) 3 w3.heap (okL [(w1.heap.size, some w2.heap.size, some 3)]) (okL []) At3_0 ct3_0 lt3_0 ∧ Sl kDeviceR w3.heap (okL [(0, some w.heap.size, none)]) A1 p0.Devices ∧ Sl kTableR w3.heap (okL [(0, some w.heap.size, none)]) A2 p0.Tables ∧ Sl kEntry w3.heap (okL [(0, some w.heap.size, none)]) A3 p0.Job.Table.List_ ∧ Ext w w3 ∧ Box w3.heap b1 61 [.slice A1 p0.Devices.length c_1, .slice A2 p0.Tables.length c_2, .int .i64 p0.Job.Dev, .int .i64 p0.Job.At, .int .i64 p0.Job.Table.Dev, .int .i64 p0.Job.Table.Size, .slice A3 p0.Job.Table.List_.length c_3, .int .i64 p0.Next] ∧ hermitageref9_Depth.l0 p0 k n1 lt3_0 it4_0 it5_0 = some r) k ?_ ?_
 have h6 := (h1.ext x1).ext x2
 have h7 := (h2.ext x1).ext x2
 have h8 := (h3.ext x1).ext x2
 have h9 := Ext.trans (Ext.trans x0 x1) x2
 have h10 := h4.ext x2
 · exact fun a ha => ⟨(List.replicate (p0.Tables.length : Int).toNat (0 : Int)), (some ⟨b2, 0, none⟩), ((p0.Tables.length : Int).toNat), 0, 0, ha.sub ⟨rfl, rfl, rfl, rfl, trivial⟩, by omega, (h5.sub ⟨(.inl ⟨by omega, by omega, rfl⟩), trivial⟩ trivial), h6, h7, h8, h9, h10, H⟩
 intro n1 a w3 hI hp
 obtain ⟨lt3_0, At3_0, ct3_0, it4_0, it5_0, hS, hle, ft3_0, gF1_0, gF2_0, gF3_0, x0_0, gb1_0, H⟩ := hI
 cases n1 with
 | zero => cases H
 | succ n1 =>
  rw [hermitageref9_Depth.l0] at H
  refine CW.go hp hS ?_
  refine CW.seq ?_
  refine CW.seq ?_
  refine CW.lex [.W, .W, .L, .W, .W] rfl ?_
  refine RW.pure tabOk 2 rfl ?_
  refine RW.load tabOk [.slice A2 p0.Tables.length c_2] ((gb1_0.at 1).take 1 rfl) ⟨rfl, rfl, rfl, rfl⟩ rfl rfl rfl rfl ?_
  refine RW.pure tabOk 2 rfl ?_
  refine RW.done ?_
  refine NW.next ?_
  by_cases c1 : it5_0 < (p0.Tables.length : Int)
  ·
   rw [if_pos c1] at H
   refine CW.cond_t rfl (decide_eq_true c1) ?_
   refine CW.skip ?_
   refine NW.next ?_
   refine CW.seq ?_
   refine CW.block ?_
   refine CW.seq ?_
   refine CW.lex [.W] rfl ?_
   refine RW.pure tabOk 1 rfl ?_
   refine RW.done ?_
   refine NW.next ?_
   refine CW.block ?_
   refine CW.loop (fun n2 a w4 => ∃ (lt3_1 : List Int) (At3_1 : Option Addr) (ct3_1 : Nat) (it4_1 : Int) (it6_1 : Int), Sat 71 [(1, .pointer (some ⟨b1, 0, none⟩)), (3, .slice At3_1 lt3_1.length ct3_1), (4, .int .i64 it4_1), (5, .int .i64 it5_0), (6, .int .i64 it6_1)] a ∧ w3.heap.size ≤ w4.heap.size ∧ Ow (Kd.int .i64) 3 w4.heap (okL [(w1.heap.size, some w2.heap.size, some 3)]) (okL []) At3_1 ct3_1 lt3_1 ∧ Sl kDeviceR w4.heap (okL [(0, some w.heap.size, none)]) A1 p0.Devices ∧ Sl kTableR w4.heap (okL [(0, some w.heap.size, none)]) A2 p0.Tables ∧ Sl kEntry w4.heap (okL [(0, some w.heap.size, none)]) A3 p0.Job.Table.List_ ∧ Ext w w4 ∧ Box w4.heap b1 61 [.slice A1 p0.Devices.length c_1, .slice A2 p0.Tables.length c_2, .int .i64 p0.Job.Dev, .int .i64 p0.Job.At, .int .i64 p0.Job.Table.Dev, .int .i64 p0.Job.Table.Size, .slice A3 p0.Job.Table.List_.length c_3, .int .i64 p0.Next] ∧ hermitageref9_Depth.l1 p0 k it5_0 (hermitageref9_Depth.l0 p0 k n1) n2 lt3_1 it4_1 it6_1 = some r) k ?_ ?_
   · exact fun a ha => ⟨lt3_0, At3_0, ct3_0, it4_0, 0, ha.sub ⟨rfl, rfl, rfl, rfl, rfl, trivial⟩, by omega, (ft3_0.sub ⟨(.inl ⟨by omega, by omega, rfl⟩), trivial⟩ trivial), gF1_0, gF2_0, gF3_0, x0_0, gb1_0, H⟩
   intro n2 a w4 hI hp
   obtain ⟨lt3_1, At3_1, ct3_1, it4_1, it6_1, hS, hle, ft3_1, gF1_1, gF2_1, gF3_1, x0_1, gb1_1, H⟩ := hI
   cases n2 with
   | zero => cases H
   | succ n2 =>
    rw [hermitageref9_Depth.l1] at H
    refine CW.go hp hS ?_
    refine CW.seq ?_
    refine CW.seq ?_
    refine CW.lex [.W, .W, .L, .W, .W] rfl ?_
    refine RW.pure tabOk 2 rfl ?_
    refine RW.load tabOk [.slice A2 p0.Tables.length c_2] ((gb1_1.at 1).take 1 rfl) ⟨rfl, rfl, rfl, rfl⟩ rfl rfl rfl rfl ?_
    refine RW.pure tabOk 2 rfl ?_
    refine RW.done ?_
    refine NW.next ?_
    by_cases c2 : it6_1 < (p0.Tables.length : Int)
    ·
     rw [if_pos c2] at H
     refine CW.cond_t rfl (decide_eq_true c2) ?_
     refine CW.skip ?_
     refine NW.next ?_
     refine CW.seq ?_
     refine CW.block ?_
     refine CW.seq ?_
     refine CW.lex [.W] rfl ?_
     refine RW.pure tabOk 1 rfl ?_
     refine RW.done ?_
     refine NW.next ?_
     refine CW.seq ?_
     refine CW.seq ?_
     refine CW.lex [.W] rfl ?_
     refine RW.pure tabOk 1 rfl ?_
     refine RW.done ?_
     refine NW.next ?_
     refine CW.block ?_
     refine CW.loop (fun n3 a w5 => ∃ (it7_2 : Int) (it8_2 : Int), Sat 71 [(1, .pointer (some ⟨b1, 0, none⟩)), (3, .slice At3_1 lt3_1.length ct3_1), (4, .int .i64 it4_1), (5, .int .i64 it5_0), (6, .int .i64 it6_1), (7, .int .i64 it7_2), (8, .int .i64 it8_2)] a ∧ w4.heap.size ≤ w5.heap.size ∧ Sl kDeviceR w5.heap (okL [(0, some w.heap.size, none)]) A1 p0.Devices ∧ Sl kTableR w5.heap (okL [(0, some w.heap.size, none)]) A2 p0.Tables ∧ Sl kEntry w5.heap (okL [(0, some w.heap.size, none)]) A3 p0.Job.Table.List_ ∧ Ow (Kd.int .i64) 3 w5.heap (okL [(w1.heap.size, some w2.heap.size, some 3)]) (okL []) At3_1 ct3_1 lt3_1 ∧ Ext w w5 ∧ Box w5.heap b1 61 [.slice A1 p0.Devices.length c_1, .slice A2 p0.Tables.length c_2, .int .i64 p0.Job.Dev, .int .i64 p0.Job.At, .int .i64 p0.Job.Table.Dev, .int .i64 p0.Job.Table.Size, .slice A3 p0.Job.Table.List_.length c_3, .int .i64 p0.Next] ∧ hermitageref9_Depth.l2 p0 k it4_1 it6_1 lt3_1 (hermitageref9_Depth.l1 p0 k it5_0 (hermitageref9_Depth.l0 p0 k n1) n2) n3 it7_2 it8_2 = some r) k ?_ ?_
     · exact fun a ha => ⟨0, 0, ha.sub ⟨rfl, rfl, rfl, rfl, rfl, rfl, rfl, trivial⟩, by omega, gF1_1, gF2_1, gF3_1, ft3_1, x0_1, gb1_1, H⟩
     intro n3 a w5 hI hp
     obtain ⟨it7_2, it8_2, hS, hle, gF1_2, gF2_2, gF3_2, gL1_t3_2, x0_2, gb1_2, H⟩ := hI
     cases n3 with
     | zero => cases H
     | succ n3 =>
      rw [hermitageref9_Depth.l2] at H
      refine CW.go hp hS ?_
      refine CW.seq ?_
      refine CW.seq ?_
      refine CW.lex [.W, .W, .L, .W, .W, .W, .L, .W, .W] rfl ?_
      refine RW.pure tabOk 2 rfl ?_
      refine RW.load tabOk [.slice A2 p0.Tables.length c_2] ((gb1_2.at 1).take 1 rfl) ⟨rfl, rfl, rfl, rfl⟩ rfl rfl rfl rfl ?_
      refine RW.pure tabOk 1 rfl ?_
      obtain ⟨g2, H⟩ := guard_some H
      obtain ⟨ad1, A4, c_4, e1, a1, l3, h11⟩ := kTableR_at gF2_2 g2.1 g2.2
      refine RW.index tabOk g2.1 g2.2 e1 ⟨rfl, rfl, rfl, rfl⟩ rfl rfl rfl rfl rfl rfl ?_
      refine RW.pure tabOk 1 rfl ?_
      refine RW.load tabOk [.slice A4 ((rd p0.Tables it6_1).List_).length c_4] (a1.fld 2) ⟨rfl, rfl, rfl, rfl⟩ rfl rfl rfl rfl ?_
      refine RW.pure tabOk 2 rfl ?_
      refine RW.done ?_
      refine NW.next ?_
      by_cases c3 : it8_2 < (((rd p0.Tables it6_1).List_).length : Int)
      ·
       rw [if_pos c3] at H
       refine CW.cond_t rfl (decide_eq_true c3) ?_
       refine CW.skip ?_
       refine NW.next ?_
       refine CW.seqJ (fun a w6 => ∃ (it7_3 : Int), Sat 71 [(1, .pointer (some ⟨b1, 0, none⟩)), (3, .slice At3_1 lt3_1.length ct3_1), (4, .int .i64 it4_1), (5, .int .i64 it5_0), (6, .int .i64 it6_1), (7, .int .i64 it7_3), (8, .int .i64 it8_2)] a ∧ w5.heap.size ≤ w6.heap.size ∧ Sl kDeviceR w6.heap (okL [(0, some w.heap.size, none)]) A1 p0.Devices ∧ Sl kTableR w6.heap (okL [(0, some w.heap.size, none)]) A2 p0.Tables ∧ Sl kEntry w6.heap (okL [(0, some w.heap.size, none)]) A3 p0.Job.Table.List_ ∧ Ow (Kd.int .i64) 3 w6.heap (okL [(w1.heap.size, some w2.heap.size, some 3)]) (okL []) At3_1 ct3_1 lt3_1 ∧ Ext w w6 ∧ Box w6.heap b1 61 [.slice A1 p0.Devices.length c_1, .slice A2 p0.Tables.length c_2, .int .i64 p0.Job.Dev, .int .i64 p0.Job.At, .int .i64 p0.Job.Table.Dev, .int .i64 p0.Job.Table.Size, .slice A3 p0.Job.Table.List_.length c_3, .int .i64 p0.Next] ∧ hermitageref9_Depth.j0 it8_2 (hermitageref9_Depth.l2 p0 k it4_1 it6_1 lt3_1 (hermitageref9_Depth.l1 p0 k it5_0 (hermitageref9_Depth.l0 p0 k n1) n2) n3) it7_3 = some r) ?_ ?_
       ·
        refine CW.block ?_
        refine CW.seq ?_
        refine CW.ord [0, 0, 2, 0, 14, 30, 62, 0, 254, 510, 1022, 2047, 4095] (ofL [(1, .W), (3, .W), (7, .W), (0, .L), (2, .L), (4, .W), (5, .W), (6, .L), (8, .W), (9, .W), (10, .L), (11, .X), (12, .W)] .nil) mixed (by kernel_rfl) ?_
        intro w7 x3
        have sx3 := x3.size
        refine RW.pure tabOk 3 rfl ?_
        have h12 := gb1_2.ext x3
        refine RW.load tabOk [.slice A1 p0.Devices.length c_1, .slice A2 p0.Tables.length c_2, .int .i64 p0.Job.Dev, .int .i64 p0.Job.At, .int .i64 p0.Job.Table.Dev, .int .i64 p0.Job.Table.Size, .slice A3 p0.Job.Table.List_.length c_3, .int .i64 p0.Next] (h12.at 0) ⟨rfl, rfl, rfl, rfl⟩ rfl rfl rfl rfl ?_
        refine RW.load tabOk [.slice A2 p0.Tables.length c_2] ((h12.at 1).take 1 rfl) ⟨rfl, rfl, rfl, rfl⟩ rfl rfl rfl rfl ?_
        obtain ⟨g3, H⟩ := guard_some H
        have h13 := gF2_2.ext x3
        obtain ⟨ad2, A5, c_5, e2, a2, l4, h14⟩ := kTableR_at h13 g3.1 g3.2
        refine RW.index tabOk g3.1 g3.2 e2 ⟨rfl, rfl, rfl, rfl⟩ rfl rfl rfl rfl rfl rfl ?_
        refine RW.pure tabOk 1 rfl ?_
        refine RW.load tabOk [.slice A5 ((rd p0.Tables it6_1).List_).length c_5] (a2.fld 2) ⟨rfl, rfl, rfl, rfl⟩ rfl rfl rfl rfl ?_
        obtain ⟨g4, H⟩ := guard_some H
        obtain ⟨ad3, e3, a3⟩ := kEntry_at h14 g4.1 g4.2
        refine RW.index tabOk g4.1 g4.2 e3 ⟨rfl, rfl, rfl, rfl⟩ rfl rfl rfl rfl rfl rfl ?_
        refine RW.pure tabOk 1 rfl ?_
        refine RW.load tabOk [.int .i64 ((rd ((rd p0.Tables it6_1).List_) it8_2).Dev)] ((a3.fld 2).take 1 rfl) ⟨rfl, rfl, rfl, rfl⟩ rfl rfl rfl rfl ?_
        have h15 := gF1_2.ext x3
        have h16 := gF3_2.ext x3
        obtain ⟨y1, h17, H⟩ := bind_some H
        refine RW.callF (.inl rfl) ent70 ⟨rfl, rfl, rfl, rfl⟩ rfl rfl (hermitageref9_Table.calls k p0 A1 c_1 A2 c_2 A3 c_3 ((rd ((rd p0.Tables it6_1).List_) it8_2).Dev) _ _ h15.all hl1 h13.all hl2 h16.all hl3 h17) ?_
        rintro _ w8 ⟨rfl, x4⟩
        refine ⟨_, rfl, x4, ?_⟩
        have sx4 := x4.size
        refine RW.pure tabOk 1 rfl ?_
        refine RW.done ?_
        refine NW.next ?_
        refine CW.seq ?_
        refine CW.lex [.W, .W] rfl ?_
        refine RW.pure tabOk 2 rfl ?_
        refine RW.done ?_
        refine NW.next ?_
        by_cases c4 : 0 ≤ y1
        ·
         rw [if_pos c4] at H
         refine CW.cond_t rfl (decide_eq_true c4) ?_
         refine CW.lex [.W, .W, .W, .W, .L, .W, .W] rfl ?_
         refine RW.pure tabOk 3 rfl ?_
         obtain ⟨g5, H⟩ := guard_some H
         have h18 := (gL1_t3_2.ext x3).ext x4
         obtain ⟨ad4, e4, a4⟩ := at_i64 h18.slL g5.1 g5.2
         refine RW.index tabOk g5.1 g5.2 e4 ⟨rfl, rfl, rfl, rfl⟩ rfl rfl rfl rfl rfl rfl ?_
         refine RW.load tabOk [.int .i64 (rd lt3_1 y1)] a4 ⟨rfl, rfl, rfl, rfl⟩ rfl rfl rfl rfl ?_
         refine RW.maxmin ⟨rfl, rfl, rfl, rfl⟩ rfl rfl rfl rfl ?_
         refine RW.pure tabOk 1 rfl ?_
         refine RW.done ?_
         refine NW.norm_block ?_
         have h19 := h15.ext x4
         have h20 := h13.ext x4
         have h21 := h16.ext x4
         have h22 := Ext.trans (Ext.trans x0_2 x3) x4
         have h23 := h12.ext x4
         exact NW.J fun a ha => ⟨(imax it7_2 (rd lt3_1 y1)), ha.sub ⟨rfl, rfl, rfl, rfl, rfl, rfl, rfl, trivial⟩, by omega, h19, h20, h21, h18, h22, h23, H⟩
        ·
         rw [if_neg c4] at H
         refine CW.cond_f rfl (decide_eq_false c4) ?_
         refine CW.skip ?_
         refine NW.norm_block ?_
         have h24 := h15.ext x4
         have h25 := h13.ext x4
         have h26 := h16.ext x4
         have h27 := (gL1_t3_2.ext x3).ext x4
         have h28 := Ext.trans (Ext.trans x0_2 x3) x4
         have h29 := h12.ext x4
         exact NW.J fun a ha => ⟨it7_2, ha.sub ⟨rfl, rfl, rfl, rfl, rfl, rfl, rfl, trivial⟩, by omega, h24, h25, h26, h27, h28, h29, H⟩
       intro a w6 hJ hp
       obtain ⟨it7_3, hS, hle, gF1_3, gF2_3, gF3_3, gL1_t3_3, x0_3, gb1_3, H⟩ := hJ
       unfold hermitageref9_Depth.j0 at H
       refine CW.go hp hS ?_
       refine CW.lex [.W, .W, .W] rfl ?_
       refine RW.pure tabOk 3 rfl ?_
       refine RW.done ?_
       exact NW.J fun a ha => ⟨n3, Nat.lt_succ_self n3, it7_3, (w64 (it8_2 + 1)), ha.sub ⟨rfl, rfl, rfl, rfl, rfl, rfl, rfl, trivial⟩, by omega, gF1_3, gF2_3, gF3_3, gL1_t3_3, x0_3, gb1_3, H⟩
      ·
       rw [if_neg c3] at H
       refine CW.cond_f rfl (decide_eq_false c3) ?_
       refine CW.exit ?_
       refine NW.exit_then (NW.exit_then (NW.exit_hit ?_))
       refine NW.next ?_
       refine CW.seq ?_
       refine CW.lex [.W, .W, .W, .W, .W, .M] rfl ?_
       refine RW.pure tabOk 4 rfl ?_
       obtain ⟨g6, H⟩ := guard_some H
       obtain ⟨ad5, e5, a5⟩ := at_i64 gL1_t3_2.slL g6.1 g6.2
       refine RW.index tabOk g6.1 g6.2 e5 ⟨rfl, rfl, rfl, rfl⟩ rfl rfl rfl rfl rfl rfl ?_
       refine RW.storeElL0 (y := w64 (it7_2 + 1)) (lv := []) tabOk gL1_t3_2 (j := it6_1.toNat) (by have := g6; omega) default [.int .i64 (w64 (it7_2 + 1))] (fun cs ok' hr => by cases hr; exact ⟨by simp, rfl⟩) trivial ⟨rfl, rfl, rfl⟩ rfl rfl e5 rfl rfl rfl rfl rfl ?_
       intro w9 x5 h30
       have sx5 := x5.size
       have h31 := h30.sub (l' := [(w1.heap.size, some w2.heap.size, some 3)]) (li' := []) ⟨(.inl ⟨by omega, by omega, rfl⟩), trivial⟩ trivial
       refine RW.tell 3 (v' := .slice At3_1 (lt3_1.set it6_1.toNat (w64 (it7_2 + 1))).length ct3_1) (by simp only [List.length_set]) rfl ?_
       refine RW.done ?_
       refine NW.next ?_
       refine CW.lex [.W, .W, .W, .W, .L, .W, .W] rfl ?_
       refine RW.pure tabOk 3 rfl ?_
       obtain ⟨g7, H⟩ := guard_some H
       obtain ⟨ad6, e6, a6⟩ := at_i64 h31.slL g7.1 g7.2
       refine RW.index tabOk g7.1 g7.2 e6 ⟨rfl, rfl, rfl, rfl⟩ rfl rfl rfl rfl rfl rfl ?_
       refine RW.load tabOk [.int .i64 (rd (lt3_1.set it6_1.toNat (w64 (it7_2 + 1))) it6_1)] a6 ⟨rfl, rfl, rfl, rfl⟩ rfl rfl rfl rfl ?_
       refine RW.maxmin ⟨rfl, rfl, rfl, rfl⟩ rfl rfl rfl rfl ?_
       refine RW.pure tabOk 1 rfl ?_
       refine RW.done ?_
       refine NW.norm_block (NW.next ?_)
       refine CW.lex [.W, .W, .W] rfl ?_
       refine RW.pure tabOk 3 rfl ?_
       refine RW.done ?_
       have h32 := gF1_2.turnL x5 ⟨⟨.inr (.inl (by omega)), trivial⟩, trivial⟩
       have h33 := gF2_2.turnL x5 ⟨⟨.inr (.inl (by omega)), trivial⟩, trivial⟩
       have h34 := gF3_2.turnL x5 ⟨⟨.inr (.inl (by omega)), trivial⟩, trivial⟩
       have h35 := Ext.turn x0_2 x5 ⟨by omega, trivial⟩
       have h36 := gb1_2.turnL x5 (.inl (by decide))
       exact NW.J fun a ha => ⟨n2, Nat.lt_succ_self n2, (lt3_1.set it6_1.toNat (w64 (it7_2 + 1))), At3_1, ct3_1, (imax it4_1 (rd (lt3_1.set it6_1.toNat (w64 (it7_2 + 1))) it6_1)), (w64 (it6_1 + 1)), ha.sub ⟨rfl, rfl, rfl, rfl, rfl, trivial⟩, by omega, (h31.sub ⟨(.inl ⟨by omega, by omega, rfl⟩), trivial⟩ trivial), h32, h33, h34, h35, h36, H⟩
    ·
     rw [if_neg c2] at H
     refine CW.cond_f rfl (decide_eq_false c2) ?_
     refine CW.exit ?_
     refine NW.exit_then (NW.exit_then (NW.exit_hit ?_))
     refine NW.norm_block (NW.next ?_)
     refine CW.lex [.W, .W, .W] rfl ?_
     refine RW.pure tabOk 3 rfl ?_
     refine RW.done ?_
     exact NW.J fun a ha => ⟨n1, Nat.lt_succ_self n1, lt3_1, At3_1, ct3_1, it4_1, (w64 (it5_0 + 1)), ha.sub ⟨rfl, rfl, rfl, rfl, trivial⟩, by omega, (ft3_1.sub ⟨(.inl ⟨by omega, by omega, rfl⟩), trivial⟩ trivial), gF1_1, gF2_1, gF3_1, x0_1, gb1_1, H⟩
  ·
   rw [if_neg c1] at H
   refine CW.cond_f rfl (decide_eq_false c1) ?_
   refine CW.exit ?_
   refine NW.exit_then (NW.exit_then (NW.exit_hit ?_))
   refine NW.next ?_
   refine CW.seq ?_
   refine CW.lex [.W, .W] rfl ?_
   refine RW.pure tabOk 2 rfl ?_
   refine RW.done ?_
   refine NW.next ?_
   refine CW.ret ?_
   obtain rfl := Option.some.inj H
   exact NW.ret1 rfl (by rfl) ⟨rfl, x0_0⟩

set_option maxHeartbeats 4000000 in
set_option maxRecDepth 100000 in
theorem fore_Fits.calls (k : Nat) (p0 : Pool) (A1 : Option Addr) (c_1 : Nat) (A2 : Option Addr) (c_2 : Nat) (A3 : Option Addr) (c_3 : Nat) (p1 : Int) (r : Bool × Int) (w : World) (hs1 : Sl kDeviceR w.heap okAll A1 p0.Devices) (hl1 : p0.Devices.length ≤ c_1) (hs2 : Sl kTableR w.heap okAll A2 p0.Tables) (hl2 : p0.Tables.length ≤ c_2) (hs3 : Sl kEntry w.heap okAll A3 p0.Job.Table.List_) (hl3 : p0.Job.Table.List_.length ≤ c_3) (H : fore_Fits.f k p0 p1 = some r) :
    Calls Try.prog 34 #[.agg #[.slice A1 p0.Devices.length c_1, .slice A2 p0.Tables.length c_2, .int .i64 p0.Job.Dev, .int .i64 p0.Job.At, .int .i64 p0.Job.Table.Dev, .int .i64 p0.Job.Table.Size, .slice A3 p0.Job.Table.List_.length c_3, .int .i64 p0.Next], .int .i64 p1] w fun e w' => e = .returned (.tuple #[.bool r.1, .int .i64 r.2]) ∧ Ext w w' := by
 have h1 : Sl kDeviceR w.heap (okL [(0, some w.heap.size, none)]) A1 p0.Devices := hs1.old _ rfl
 have h2 : Sl kTableR w.heap (okL [(0, some w.heap.size, none)]) A2 p0.Tables := hs2.old _ rfl
 have h3 : Sl kEntry w.heap (okL [(0, some w.heap.size, none)]) A3 p0.Job.Table.List_ := hs3.old _ rfl
 have x0 : Ext w w := Upd.refl _ w
 unfold fore_Fits.f at H
 refine calls_start Try.func34 rfl 32 rfl [.agg #[.slice A1 p0.Devices.length c_1, .slice A2 p0.Tables.length c_2, .int .i64 p0.Job.Dev, .int .i64 p0.Job.At, .int .i64 p0.Job.Table.Dev, .int .i64 p0.Job.Table.Size, .slice A3 p0.Job.Table.List_.length c_3, .int .i64 p0.Next], .int .i64 p1] rfl ?_
 refine CW.seq ?_
 refine CW.lex [.X, .W, .W] rfl ?_
 refine RW.box (cs := [.slice A1 p0.Devices.length c_1, .slice A2 p0.Tables.length c_2, .int .i64 p0.Job.Dev, .int .i64 p0.Job.At, .int .i64 p0.Job.Table.Dev, .int .i64 p0.Job.Table.Size, .slice A3 p0.Job.Table.List_.length c_3, .int .i64 p0.Next]) (.inl rfl) ⟨rfl, rfl, rfl, rfl⟩ rfl rfl rfl ?_
 intro b1 w1 x1 l1 h4
 have sx1 := x1.size
 have ltb1 := h4.lt
 refine RW.pure tabOk 2 rfl ?_
 refine RW.done ?_
 refine NW.next ?_
 refine CW.seq ?_
 refine CW.seq ?_
 refine CW.lex [.L, .X, .W] rfl ?_
 refine RW.load tabOk [.slice A1 p0.Devices.length c_1, .slice A2 p0.Tables.length c_2, .int .i64 p0.Job.Dev, .int .i64 p0.Job.At, .int .i64 p0.Job.Table.Dev, .int .i64 p0.Job.Table.Size, .slice A3 p0.Job.Table.List_.length c_3, .int .i64 p0.Next] (h4.at 0) ⟨rfl, rfl, rfl, rfl⟩ rfl rfl rfl rfl ?_
 have h5 := h1.ext x1
 have h6 := h2.ext x1
 have h7 := h3.ext x1
 obtain ⟨y1, h8, H⟩ := bind_some H
 refine RW.callF (.inl rfl) ent63 ⟨rfl, rfl, rfl, rfl⟩ rfl rfl (chain_May.calls k p0 A1 c_1 A2 c_2 A3 c_3 _ _ h5.all hl1 h6.all hl2 h7.all hl3 h8) ?_
 rintro _ w2 ⟨rfl, x2⟩
 refine ⟨_, rfl, x2, ?_⟩
 have sx2 := x2.size
 refine RW.pure tabOk 1 rfl ?_
 refine RW.done ?_
 refine NW.next ?_
 by_cases c1 : y1 = true
 ·
  rw [if_pos c1] at H
  refine CW.cond_f rfl (not_f (c1)) ?_
  refine CW.skip ?_
  refine NW.next ?_
  refine CW.seq ?_
  refine CW.lex [.W, .L, .W, .X, .W, .W, .W, .W, .W] rfl ?_
  refine RW.pure tabOk 1 rfl ?_
  have h9 := h4.ext x2
  refine RW.load tabOk [.slice A1 p0.Devices.length c_1] ((h9.at 0).take 1 rfl) ⟨rfl, rfl, rfl, rfl⟩ rfl rfl rfl rfl ?_
  refine RW.pure tabOk 1 rfl ?_
  have h10 := h5.ext x2
  obtain ⟨y2, h11, H⟩ := bind_some H
  refine RW.callF (.inl rfl) ent74 ⟨rfl, rfl, rfl, rfl⟩ rfl rfl (room_Find.calls k A1 c_1 p0.Devices p1 _ _ h10.all hl1 h11) ?_
  rintro _ w3 ⟨rfl, x3⟩
  refine ⟨_, rfl, x3, ?_⟩
  have sx3 := x3.size
  refine RW.pure tabOk 5 rfl ?_
  refine RW.done ?_
  refine NW.next ?_
  refine CW.seq ?_
  refine CW.seq ?_
  refine CW.lex [.W, .W] rfl ?_
  refine RW.pure tabOk 2 rfl ?_
  refine RW.done ?_
  refine NW.next ?_
  by_cases c2 : y2.2 = true
  ·
   rw [if_pos c2] at H
   refine CW.cond_f rfl (not_f (c2)) ?_
   refine CW.skip ?_
   refine NW.next ?_
   refine CW.seq ?_
   refine CW.ord [0, 1, 0, 7, 0, 16, 0, 112, 240, 511, 1023, 2047, 4095, 8191] (ofL [(0, .W), (2, .W), (4, .W), (6, .W), (1, .L), (5, .L), (7, .W), (8, .L), (3, .X), (9, .X), (10, .X), (11, .W), (12, .W), (13, .W)] .nil) mixed (by kernel_rfl) ?_
   intro w4 x4
   have sx4 := x4.size
   refine RW.pure tabOk 4 rfl ?_
   have h12 := (h9.ext x3).ext x4
   refine RW.load tabOk [.slice A1 p0.Devices.length c_1] ((h12.at 0).take 1 rfl) ⟨rfl, rfl, rfl, rfl⟩ rfl rfl rfl rfl ?_
   refine RW.load tabOk [.slice A1 p0.Devices.length c_1] ((h12.at 0).take 1 rfl) ⟨rfl, rfl, rfl, rfl⟩ rfl rfl rfl rfl ?_
   obtain ⟨g1, H⟩ := guard_some H
   have h13 := (h10.ext x3).ext x4
   obtain ⟨ad1, A4, c_4, A5, c_5, e1, a1, l2, h14, l3, h15⟩ := kDeviceR_at h13 g1.1 g1.2
   refine RW.index tabOk g1.1 g1.2 e1 ⟨rfl, rfl, rfl, rfl⟩ rfl rfl rfl rfl rfl rfl ?_
   refine RW.load tabOk [.int .i64 ((rd p0.Devices y2.1).ID), .int .i64 ((rd p0.Devices y2.1).Size), .slice A4 ((rd p0.Devices y2.1).Free).length c_4, .slice A5 ((rd p0.Devices y2.1).Late).length c_5] a1 ⟨rfl, rfl, rfl, rfl⟩ rfl rfl rfl rfl ?_
   obtain ⟨y3, h16, H⟩ := bind_some H
   refine RW.callF (.inl rfl) ent73 ⟨rfl, rfl, rfl, rfl⟩ rfl rfl (move_Loose.calls k A1 c_1 p0.Devices p1 _ _ h13.all hl1 h16) ?_
   rintro _ w5 ⟨rfl, x5⟩
   refine ⟨_, rfl, x5, ?_⟩
   have sx5 := x5.size
   have h17 := h14.ext x5
   have h18 := h15.ext x5
   obtain ⟨y4, h19, H⟩ := bind_some H
   refine RW.callF (.inl rfl) ent75 ⟨rfl, rfl, rfl, rfl⟩ rfl rfl (room_Busy.calls k (rd p0.Devices y2.1) A4 c_4 A5 c_5 _ _ h17.all l2 h18.all l3 h19) ?_
   rintro _ w6 ⟨rfl, x6⟩
   refine ⟨_, rfl, x6, ?_⟩
   have sx6 := x6.size
   obtain ⟨y5, h20, H⟩ := bind_some H
   refine RW.callF (.inl rfl) ent77 ⟨rfl, rfl, rfl, rfl⟩ rfl rfl (seg_Set_Count.calls y4 _ _ h20) ?_
   rintro _ w7 ⟨rfl, x7⟩
   refine ⟨_, rfl, x7, ?_⟩
   have sx7 := x7.size
   refine RW.pure tabOk 3 rfl ?_
   refine RW.done ?_
   refine NW.next ?_
   refine CW.ret ?_
   obtain rfl := Option.some.inj H
   have h21 := Ext.trans (Ext.trans (Ext.trans (Ext.trans (Ext.trans (Ext.trans (Ext.trans x0 x1) x2) x3) x4) x5) x6) x7
   exact NW.ret2 rfl (by rfl) (by rfl) ⟨rfl, h21⟩
  ·
   rw [if_neg c2] at H
   refine CW.cond_t rfl (not_t (bool_f c2)) ?_
   refine CW.seq ?_
   refine CW.lex [.W, .W] rfl ?_
   refine RW.pure tabOk 2 rfl ?_
   refine RW.done ?_
   refine NW.next ?_
   refine CW.ret ?_
   refine NW.ret_then ?_
   obtain rfl := Option.some.inj H
   have h22 := Ext.trans (Ext.trans (Ext.trans x0 x1) x2) x3
   exact NW.ret2 rfl (by rfl) (by rfl) ⟨rfl, h22⟩
 ·
  rw [if_neg c1] at H
  refine CW.cond_t rfl (not_t (bool_f c1)) ?_
  refine CW.seq ?_
  refine CW.lex [.W, .W] rfl ?_
  refine RW.pure tabOk 2 rfl ?_
  refine RW.done ?_
  refine NW.next ?_
  refine CW.ret ?_
  refine NW.ret_then ?_
  obtain rfl := Option.some.inj H
  have h23 := Ext.trans (Ext.trans x0 x1) x2
  exact NW.ret2 rfl (by rfl) (by rfl) ⟨rfl, h23⟩

set_option maxHeartbeats 4000000 in
set_option maxRecDepth 100000 in
theorem hermitageref9_Fits.calls (k : Nat) (p0 : Pool) (A1 : Option Addr) (c_1 : Nat) (A2 : Option Addr) (c_2 : Nat) (A3 : Option Addr) (c_3 : Nat) (p1 : Int) (r : Bool) (w : World) (hs1 : Sl kDeviceR w.heap okAll A1 p0.Devices) (hl1 : p0.Devices.length ≤ c_1) (hs2 : Sl kTableR w.heap okAll A2 p0.Tables) (hl2 : p0.Tables.length ≤ c_2) (hs3 : Sl kEntry w.heap okAll A3 p0.Job.Table.List_) (hl3 : p0.Job.Table.List_.length ≤ c_3) (H : hermitageref9_Fits.f k p0 p1 = some r) :
    Calls Try.prog 36 #[.agg #[.slice A1 p0.Devices.length c_1, .slice A2 p0.Tables.length c_2, .int .i64 p0.Job.Dev, .int .i64 p0.Job.At, .int .i64 p0.Job.Table.Dev, .int .i64 p0.Job.Table.Size, .slice A3 p0.Job.Table.List_.length c_3, .int .i64 p0.Next], .int .i64 p1] w fun e w' => e = .returned (.bool r) ∧ Ext w w' := by
 have h1 : Sl kDeviceR w.heap (okL [(0, some w.heap.size, none)]) A1 p0.Devices := hs1.old _ rfl
 have h2 : Sl kTableR w.heap (okL [(0, some w.heap.size, none)]) A2 p0.Tables := hs2.old _ rfl
 have h3 : Sl kEntry w.heap (okL [(0, some w.heap.size, none)]) A3 p0.Job.Table.List_ := hs3.old _ rfl
 have x0 : Ext w w := Upd.refl _ w
 unfold hermitageref9_Fits.f at H
 refine calls_start Try.func36 rfl 40 rfl [.agg #[.slice A1 p0.Devices.length c_1, .slice A2 p0.Tables.length c_2, .int .i64 p0.Job.Dev, .int .i64 p0.Job.At, .int .i64 p0.Job.Table.Dev, .int .i64 p0.Job.Table.Size, .slice A3 p0.Job.Table.List_.length c_3, .int .i64 p0.Next], .int .i64 p1] rfl ?_
 refine CW.seq ?_
 refine CW.lex [.X, .W] rfl ?_
 refine RW.box (cs := [.slice A1 p0.Devices.length c_1, .slice A2 p0.Tables.length c_2, .int .i64 p0.Job.Dev, .int .i64 p0.Job.At, .int .i64 p0.Job.Table.Dev, .int .i64 p0.Job.Table.Size, .slice A3 p0.Job.Table.List_.length c_3, .int .i64 p0.Next]) (.inl rfl) ⟨rfl, rfl, rfl, rfl⟩ rfl rfl rfl ?_
 intro b1 w1 x1 l1 h4
 have sx1 := x1.size
 have ltb1 := h4.lt
 refine RW.pure tabOk 1 rfl ?_
 refine RW.done ?_
 refine NW.next ?_
 refine CW.seq ?_
 refine CW.lex [.W] rfl ?_
 refine RW.pure tabOk 1 rfl ?_
 refine RW.done ?_
 refine NW.next ?_
 refine CW.seq ?_
 refine CW.seq ?_
 refine CW.lex [.W] rfl ?_
 refine RW.pure tabOk 1 rfl ?_
 refine RW.done ?_
 refine NW.next ?_
 refine CW.block ?_
 refine CW.loop (fun n1 a w2 => ∃ (it5_0 : Int) (it6_0 : Int), Sat 40 [(1, .int .i64 p1), (2, .pointer (some ⟨b1, 0, none⟩)), (5, .int .i64 it5_0), (6, .int .i64 it6_0)] a ∧ w1.heap.size ≤ w2.heap.size ∧ Sl kDeviceR w2.heap (okL [(0, some w.heap.size, none)]) A1 p0.Devices ∧ Sl kTableR w2.heap (okL [(0, some w.heap.size, none)]) A2 p0.Tables ∧ Sl kEntry w2.heap (okL [(0, some w.heap.size, none)]) A3 p0.Job.Table.List_ ∧ Ext w w2 ∧ Box w2.heap b1 61 [.slice A1 p0.Devices.length c_1, .slice A2 p0.Tables.length c_2, .int .i64 p0.Job.Dev, .int .i64 p0.Job.At, .int .i64 p0.Job.Table.Dev, .int .i64 p0.Job.Table.Size, .slice A3 p0.Job.Table.List_.length c_3, .int .i64 p0.Next] ∧ hermitageref9_Fits.l0 p0 p1 k n1 it5_0 it6_0 = some r) k ?_ ?_
 have h5 := h1.ext x1
 have h6 := h2.ext x1
 have h7 := h3.ext x1
 have h8 := Ext.trans x0 x1
 · exact fun a ha => ⟨0, 0, ha.sub ⟨rfl, rfl, rfl, rfl, trivial⟩, by omega, h5, h6, h7, h8, h4, H⟩
 intro n1 a w2 hI hp
 obtain ⟨it5_0, it6_0, hS, hle, gF1_0, gF2_0, gF3_0, x0_0, gb1_0, H⟩ := hI
 cases n1 with
 | zero => cases H
 | succ n1 =>
  rw [hermitageref9_Fits.l0] at H
  refine CW.go hp hS ?_
  refine CW.seq ?_
  refine CW.seq ?_
  refine CW.lex [.W, .W, .L, .W, .W] rfl ?_
  refine RW.pure tabOk 2 rfl ?_
  refine RW.load tabOk [.slice A1 p0.Devices.length c_1] ((gb1_0.at 0).take 1 rfl) ⟨rfl, rfl, rfl, rfl⟩ rfl rfl rfl rfl ?_
  refine RW.pure tabOk 2 rfl ?_
  refine RW.done ?_
  refine NW.next ?_
  by_cases c1 : it6_0 < (p0.Devices.length : Int)
  ·
   rw [if_pos c1] at H
   refine CW.cond_t rfl (decide_eq_true c1) ?_
   refine CW.skip ?_
   refine NW.next ?_
   refine CW.seqJ (fun a w3 => ∃ (it5_1 : Int), Sat 40 [(1, .int .i64 p1), (2, .pointer (some ⟨b1, 0, none⟩)), (5, .int .i64 it5_1), (6, .int .i64 it6_0)] a ∧ w2.heap.size ≤ w3.heap.size ∧ Sl kDeviceR w3.heap (okL [(0, some w.heap.size, none)]) A1 p0.Devices ∧ Sl kTableR w3.heap (okL [(0, some w.heap.size, none)]) A2 p0.Tables ∧ Sl kEntry w3.heap (okL [(0, some w.heap.size, none)]) A3 p0.Job.Table.List_ ∧ Ext w w3 ∧ Box w3.heap b1 61 [.slice A1 p0.Devices.length c_1, .slice A2 p0.Tables.length c_2, .int .i64 p0.Job.Dev, .int .i64 p0.Job.At, .int .i64 p0.Job.Table.Dev, .int .i64 p0.Job.Table.Size, .slice A3 p0.Job.Table.List_.length c_3, .int .i64 p0.Next] ∧ hermitageref9_Fits.j0 it6_0 (hermitageref9_Fits.l0 p0 p1 k n1) it5_1 = some r) ?_ ?_
   ·
    refine CW.block ?_
    refine CW.seq ?_
    refine CW.lex [.W, .W, .W] rfl ?_
    refine RW.pure tabOk 3 rfl ?_
    refine RW.done ?_
    refine NW.next ?_
    by_cases c2 : it6_0 = p1
    ·
     rw [if_pos c2] at H
     refine CW.cond_f rfl (bne_f c2) ?_
     refine CW.skip ?_
     refine NW.norm_block ?_
     exact NW.J fun a ha => ⟨it5_0, ha.sub ⟨rfl, rfl, rfl, rfl, trivial⟩, by omega, gF1_0, gF2_0, gF3_0, x0_0, gb1_0, H⟩
    ·
     rw [if_neg c2] at H
     refine CW.cond_t rfl (bne_t c2) ?_
     refine CW.ord [0, 0, 2, 0, 14, 30, 62, 127, 0, 256, 0, 1792, 3840, 7936, 16383, 32767] (ofL [(0, .W), (1, .W), (3, .W), (8, .W), (10, .W), (2, .L), (4, .W), (5, .W), (6, .L), (7, .W), (9, .L), (11, .W), (12, .L), (13, .X), (14, .W), (15, .W)] .nil) mixed (by kernel_rfl) ?_
     intro w4 x2
     have sx2 := x2.size
     refine RW.pure tabOk 5 rfl ?_
     have h9 := gb1_0.ext x2
     refine RW.load tabOk [.slice A1 p0.Devices.length c_1] ((h9.at 0).take 1 rfl) ⟨rfl, rfl, rfl, rfl⟩ rfl rfl rfl rfl ?_
     obtain ⟨g1, H⟩ := guard_some H
     have h10 := gF1_0.ext x2
     obtain ⟨ad1, A4, c_4, A5, c_5, e1, a1, l2, h11, l3, h12⟩ := kDeviceR_at h10 g1.1 g1.2
     refine RW.index tabOk g1.1 g1.2 e1 ⟨rfl, rfl, rfl, rfl⟩ rfl rfl rfl rfl rfl rfl ?_
     refine RW.pure tabOk 1 rfl ?_
     refine RW.load tabOk [.int .i64 ((rd p0.Devices it6_0).Size)] ((a1.fld 1).take 1 rfl) ⟨rfl, rfl, rfl, rfl⟩ rfl rfl rfl rfl ?_
     refine RW.pure tabOk 1 rfl ?_
     refine RW.load tabOk [.slice A1 p0.Devices.length c_1] ((h9.at 0).take 1 rfl) ⟨rfl, rfl, rfl, rfl⟩ rfl rfl rfl rfl ?_
     obtain ⟨g2, H⟩ := guard_some H
     obtain ⟨ad2, A6, c_6, A7, c_7, e2, a2, l4, h13, l5, h14⟩ := kDeviceR_at h10 g2.1 g2.2
     refine RW.index tabOk g2.1 g2.2 e2 ⟨rfl, rfl, rfl, rfl⟩ rfl rfl rfl rfl rfl rfl ?_
     refine RW.load tabOk [.int .i64 ((rd p0.Devices it6_0).ID), .int .i64 ((rd p0.Devices it6_0).Size), .slice A6 ((rd p0.Devices it6_0).Free).length c_6, .slice A7 ((rd p0.Devices it6_0).Late).length c_7] a2 ⟨rfl, rfl, rfl, rfl⟩ rfl rfl rfl rfl ?_
     obtain ⟨y1, h15, H⟩ := bind_some H
     refine RW.callF (.inl rfl) ent78 ⟨rfl, rfl, rfl, rfl⟩ rfl rfl (hermitageref7_Used.calls k (rd p0.Devices it6_0) A6 c_6 A7 c_7 _ _ h13.all l4 h14.all l5 h15) ?_
     rintro _ w5 ⟨rfl, x3⟩
     refine ⟨_, rfl, x3, ?_⟩
     have sx3 := x3.size
     refine RW.pure tabOk 2 rfl ?_
     refine RW.done ?_
     refine NW.norm_block ?_
     have h16 := h10.ext x3
     have h17 := (gF2_0.ext x2).ext x3
     have h18 := (gF3_0.ext x2).ext x3
     have h19 := Ext.trans (Ext.trans x0_0 x2) x3
     have h20 := h9.ext x3
     exact NW.J fun a ha => ⟨(w64 ((w64 (it5_0 + ((rd p0.Devices it6_0).Size))) - y1)), ha.sub ⟨rfl, rfl, rfl, rfl, trivial⟩, by omega, h16, h17, h18, h19, h20, H⟩
   intro a w3 hJ hp
   obtain ⟨it5_1, hS, hle, gF1_1, gF2_1, gF3_1, x0_1, gb1_1, H⟩ := hJ
   unfold hermitageref9_Fits.j0 at H
   refine CW.go hp hS ?_
   refine CW.lex [.W, .W, .W] rfl ?_
   refine RW.pure tabOk 3 rfl ?_
   refine RW.done ?_
   exact NW.J fun a ha => ⟨n1, Nat.lt_succ_self n1, it5_1, (w64 (it6_0 + 1)), ha.sub ⟨rfl, rfl, rfl, rfl, trivial⟩, by omega, gF1_1, gF2_1, gF3_1, x0_1, gb1_1, H⟩
  ·
   rw [if_neg c1] at H
   refine CW.cond_f rfl (decide_eq_false c1) ?_
   refine CW.exit ?_
   refine NW.exit_then (NW.exit_then (NW.exit_hit ?_))
   refine NW.next ?_
   refine CW.seq ?_
   refine CW.lex [.W, .W, .L, .W, .W, .L, .X, .W, .W] rfl ?_
   refine RW.pure tabOk 2 rfl ?_
   refine RW.load tabOk [.slice A1 p0.Devices.length c_1] ((gb1_0.at 0).take 1 rfl) ⟨rfl, rfl, rfl, rfl⟩ rfl rfl rfl rfl ?_
   refine RW.pure tabOk 1 rfl ?_
   obtain ⟨g3, H⟩ := guard_some H
   obtain ⟨ad3, A8, c_8, A9, c_9, e3, a3, l6, h21, l7, h22⟩ := kDeviceR_at gF1_0 g3.1 g3.2
   refine RW.index tabOk g3.1 g3.2 e3 ⟨rfl, rfl, rfl, rfl⟩ rfl rfl rfl rfl rfl rfl ?_
   refine RW.load tabOk [.int .i64 ((rd p0.Devices p1).ID), .int .i64 ((rd p0.Devices p1).Size), .slice A8 ((rd p0.Devices p1).Free).length c_8, .slice A9 ((rd p0.Devices p1).Late).length c_9] a3 ⟨rfl, rfl, rfl, rfl⟩ rfl rfl rfl rfl ?_
   obtain ⟨y2, h23, H⟩ := bind_some H
   refine RW.callF (.inl rfl) ent78 ⟨rfl, rfl, rfl, rfl⟩ rfl rfl (hermitageref7_Used.calls k (rd p0.Devices p1) A8 c_8 A9 c_9 _ _ h21.all l6 h22.all l7 h23) ?_
   rintro _ w6 ⟨rfl, x4⟩
   refine ⟨_, rfl, x4, ?_⟩
   have sx4 := x4.size
   refine RW.pure tabOk 2 rfl ?_
   refine RW.done ?_
   refine NW.next ?_
   refine CW.ret ?_
   obtain rfl := Option.some.inj H
   have h24 := Ext.trans x0_0 x4
   exact NW.ret1 rfl (by rfl) ⟨rfl, h24⟩

set_option maxHeartbeats 4000000 in
set_option maxRecDepth 100000 in
theorem hermitageref0_EqSegs.calls (k : Nat) (A1 : Option Addr) (c_1 : Nat) (p0 : List Seg) (A2 : Option Addr) (c_2 : Nat) (p1 : List Seg) (r : Bool) (w : World) (hs1 : Sl kSeg w.heap okAll A1 p0) (hl1 : p0.length ≤ c_1) (hs2 : Sl kSeg w.heap okAll A2 p1) (hl2 : p1.length ≤ c_2) (H : hermitageref0_EqSegs.f k p0 p1 = some r) :
    Calls Try.prog 122 #[.slice A1 p0.length c_1, .slice A2 p1.length c_2] w fun e w' => e = .returned (.bool r) ∧ Ext w w' := by
 have h1 : Sl kSeg w.heap (okL [(0, some w.heap.size, none)]) A1 p0 := hs1.old _ rfl
 have h2 : Sl kSeg w.heap (okL [(0, some w.heap.size, none)]) A2 p1 := hs2.old _ rfl
 have x0 : Ext w w := Upd.refl _ w
 unfold hermitageref0_EqSegs.f at H
 refine calls_start Try.func122 rfl 26 rfl [.slice A1 p0.length c_1, .slice A2 p1.length c_2] rfl ?_
 refine CW.seq ?_
 refine CW.lex [.W] rfl ?_
 refine RW.pure tabOk 1 rfl ?_
 refine RW.done ?_
 refine NW.next ?_
 refine CW.seq ?_
 refine CW.seq ?_
 refine CW.lex [.W, .W, .W, .W, .W] rfl ?_
 refine RW.pure tabOk 5 rfl ?_
 refine RW.done ?_
 refine NW.next ?_
 by_cases c1 : (p0.length : Int) = (p1.length : Int)
 ·
  rw [if_pos c1] at H
  refine CW.cond_f rfl (bne_f c1) ?_
  refine CW.skip ?_
  refine NW.next ?_
  refine CW.seq ?_
  refine CW.seq ?_
  refine CW.lex [.W] rfl ?_
  refine RW.pure tabOk 1 rfl ?_
  refine RW.done ?_
  refine NW.next ?_
  refine CW.block ?_
  refine CW.loop (fun n1 a w1 => ∃ (it5_0 : Int), Sat 26 [(0, .slice A1 p0.length c_1), (1, .slice A2 p1.length c_2), (5, .int .i64 it5_0)] a ∧ w.heap.size ≤ w1.heap.size ∧ Sl kSeg w1.heap (okL [(0, some w.heap.size, none)]) A1 p0 ∧ Sl kSeg w1.heap (okL [(0, some w.heap.size, none)]) A2 p1 ∧ Ext w w1 ∧ hermitageref0_EqSegs.l0 p0 p1 n1 it5_0 = some r) k ?_ ?_
  · exact fun a ha => ⟨0, ha.sub ⟨rfl, rfl, rfl, trivial⟩, by omega, h1, h2, x0, H⟩
  intro n1 a w1 hI hp
  obtain ⟨it5_0, hS, hle, gF1_0, gF2_0, x0_0, H⟩ := hI
  cases n1 with
  | zero => cases H
  | succ n1 =>
   rw [hermitageref0_EqSegs.l0] at H
   refine CW.go hp hS ?_
   refine CW.seq ?_
   refine CW.seq ?_
   refine CW.lex [.W, .W, .W, .W] rfl ?_
   refine RW.pure tabOk 4 rfl ?_
   refine RW.done ?_
   refine NW.next ?_
   by_cases c2 : it5_0 < (p0.length : Int)
   ·
    rw [if_pos c2] at H
    refine CW.cond_t rfl (decide_eq_true c2) ?_
    refine CW.skip ?_
    refine NW.next ?_
    refine CW.seq ?_
    refine CW.block ?_
    refine CW.seq ?_
    refine CW.ord [0, 0, 3, 7, 0, 0, 48, 112, 255] (ofL [(0, .W), (1, .W), (2, .W), (4, .W), (5, .W), (6, .W), (3, .L), (7, .L), (8, .W)] .nil) mixed (by kernel_rfl) ?_
    intro w2 x1
    have sx1 := x1.size
    refine RW.pure tabOk 2 rfl ?_
    obtain ⟨g1, H⟩ := guard_some H
    have h3 := gF1_0.ext x1
    obtain ⟨ad1, e1, a1⟩ := kSeg_at h3 g1.1 g1.2
    refine RW.index tabOk g1.1 g1.2 e1 ⟨rfl, rfl, rfl, rfl⟩ rfl rfl rfl rfl rfl rfl ?_
    refine RW.pure tabOk 2 rfl ?_
    obtain ⟨g2, H⟩ := guard_some H
    have h4 := gF2_0.ext x1
    obtain ⟨ad2, e2, a2⟩ := kSeg_at h4 g2.1 g2.2
    refine RW.index tabOk g2.1 g2.2 e2 ⟨rfl, rfl, rfl, rfl⟩ rfl rfl rfl rfl rfl rfl ?_
    refine RW.load tabOk [.int .i64 ((rd p0 it5_0).At), .int .i64 ((rd p0 it5_0).Len)] a1 ⟨rfl, rfl, rfl, rfl⟩ rfl rfl rfl rfl ?_
    refine RW.load tabOk [.int .i64 ((rd p1 it5_0).At), .int .i64 ((rd p1 it5_0).Len)] a2 ⟨rfl, rfl, rfl, rfl⟩ rfl rfl rfl rfl ?_
    refine RW.eqAgg eqgSeg (eqSeg (rd p0 it5_0) (rd p1 it5_0)) ⟨rfl, rfl, rfl, rfl⟩ rfl rfl rfl rfl ?_
    refine RW.done ?_
    refine NW.next ?_
    by_cases c3 : (rd p0 it5_0) = (rd p1 it5_0)
    ·
     rw [if_pos c3] at H
     refine CW.cond_f rfl (not_f (decide_eq_true c3)) ?_
     refine CW.skip ?_
     refine NW.norm_block (NW.next ?_)
     refine CW.lex [.W, .W, .W] rfl ?_
     refine RW.pure tabOk 3 rfl ?_
     refine RW.done ?_
     have h5 := Ext.trans x0_0 x1
     exact NW.J fun a ha => ⟨n1, Nat.lt_succ_self n1, (w64 (it5_0 + 1)), ha.sub ⟨rfl, rfl, rfl, trivial⟩, by omega, h3, h4, h5, H⟩
    ·
     rw [if_neg c3] at H
     refine CW.cond_t rfl (not_t (decide_eq_false c3)) ?_
     refine CW.seq ?_
     refine CW.lex [.W] rfl ?_
     refine RW.pure tabOk 1 rfl ?_
     refine RW.done ?_
     refine NW.next ?_
     refine CW.ret ?_
     refine NW.ret_block (NW.ret_then (NW.ret_then (NW.ret_block (NW.ret_then ?_))))
     obtain rfl := Option.some.inj H
     have h6 := Ext.trans x0_0 x1
     exact NW.ret1 rfl (by rfl) ⟨rfl, h6⟩
   ·
    rw [if_neg c2] at H
    refine CW.cond_f rfl (decide_eq_false c2) ?_
    refine CW.exit ?_
    refine NW.exit_then (NW.exit_then (NW.exit_hit ?_))
    refine NW.next ?_
    refine CW.seq ?_
    refine CW.lex [.W] rfl ?_
    refine RW.pure tabOk 1 rfl ?_
    refine RW.done ?_
    refine NW.next ?_
    refine CW.ret ?_
    obtain rfl := Option.some.inj H
    exact NW.ret1 rfl (by rfl) ⟨rfl, x0_0⟩
 ·
  rw [if_neg c1] at H
  refine CW.cond_t rfl (bne_t c1) ?_
  refine CW.seq ?_
  refine CW.lex [.W] rfl ?_
  refine RW.pure tabOk 1 rfl ?_
  refine RW.done ?_
  refine NW.next ?_
  refine CW.ret ?_
  refine NW.ret_then ?_
  obtain rfl := Option.some.inj H
  exact NW.ret1 rfl (by rfl) ⟨rfl, x0⟩

set_option maxHeartbeats 4000000 in
set_option maxRecDepth 100000 in
theorem hermitageref0_EqDevice.calls (k : Nat) (p0 : Device) (A1 : Option Addr) (c_1 : Nat) (A2 : Option Addr) (c_2 : Nat) (p1 : Device) (A3 : Option Addr) (c_3 : Nat) (A4 : Option Addr) (c_4 : Nat) (r : Bool) (w : World) (hs1 : Sl kSeg w.heap okAll A1 p0.Free) (hl1 : p0.Free.length ≤ c_1) (hs2 : Sl kSeg w.heap okAll A2 p0.Late) (hl2 : p0.Late.length ≤ c_2) (hs3 : Sl kSeg w.heap okAll A3 p1.Free) (hl3 : p1.Free.length ≤ c_3) (hs4 : Sl kSeg w.heap okAll A4 p1.Late) (hl4 : p1.Late.length ≤ c_4) (H : hermitageref0_EqDevice.f k p0 p1 = some r) :
    Calls Try.prog 103 #[.agg #[.int .i64 p0.ID, .int .i64 p0.Size, .slice A1 p0.Free.length c_1, .slice A2 p0.Late.length c_2], .agg #[.int .i64 p1.ID, .int .i64 p1.Size, .slice A3 p1.Free.length c_3, .slice A4 p1.Late.length c_4]] w fun e w' => e = .returned (.bool r) ∧ Ext w w' := by
 have h1 : Sl kSeg w.heap (okL [(0, some w.heap.size, none)]) A1 p0.Free := hs1.old _ rfl
 have h2 : Sl kSeg w.heap (okL [(0, some w.heap.size, none)]) A2 p0.Late := hs2.old _ rfl
 have h3 : Sl kSeg w.heap (okL [(0, some w.heap.size, none)]) A3 p1.Free := hs3.old _ rfl
 have h4 : Sl kSeg w.heap (okL [(0, some w.heap.size, none)]) A4 p1.Late := hs4.old _ rfl
 have x0 : Ext w w := Upd.refl _ w
 unfold hermitageref0_EqDevice.f at H
 refine calls_start Try.func103 rfl 31 rfl [.agg #[.int .i64 p0.ID, .int .i64 p0.Size, .slice A1 p0.Free.length c_1, .slice A2 p0.Late.length c_2], .agg #[.int .i64 p1.ID, .int .i64 p1.Size, .slice A3 p1.Free.length c_3, .slice A4 p1.Late.length c_4]] rfl ?_
 refine CW.seq ?_
 refine CW.lex [.X, .X, .W] rfl ?_
 refine RW.box (cs := [.int .i64 p0.ID, .int .i64 p0.Size, .slice A1 p0.Free.length c_1, .slice A2 p0.Late.length c_2]) (.inl rfl) ⟨rfl, rfl, rfl, rfl⟩ rfl rfl rfl ?_
 intro b1 w1 x1 l1 h5
 have sx1 := x1.size
 have ltb1 := h5.lt
 refine RW.box (cs := [.int .i64 p1.ID, .int .i64 p1.Size, .slice A3 p1.Free.length c_3, .slice A4 p1.Late.length c_4]) (.inl rfl) ⟨rfl, rfl, rfl, rfl⟩ rfl rfl rfl ?_
 intro b2 w2 x2 l2 h6
 have sx2 := x2.size
 have ltb2 := h6.lt
 refine RW.pure tabOk 1 rfl ?_
 refine RW.done ?_
 refine NW.next ?_
 refine CW.seq ?_
 refine CW.lex [.W, .L, .W, .L, .W, .W, .W, .L, .W, .L, .W, .W, .W, .W, .L, .W, .L, .X, .W, .W, .W, .L, .W, .L, .X, .W, .W] rfl ?_
 refine RW.pure tabOk 1 rfl ?_
 have h7 := h5.ext x2
 refine RW.load tabOk [.int .i64 p0.ID] ((h7.at 0).take 1 rfl) ⟨rfl, rfl, rfl, rfl⟩ rfl rfl rfl rfl ?_
 refine RW.pure tabOk 1 rfl ?_
 refine RW.load tabOk [.int .i64 p1.ID] ((h6.at 0).take 1 rfl) ⟨rfl, rfl, rfl, rfl⟩ rfl rfl rfl rfl ?_
 refine RW.pure tabOk 2 rfl ?_
 by_cases c1 : p0.ID = p1.ID
 ·
  rw [if_pos c1] at H
  refine RW.bool 10 (b' := true) (beq_t c1) rfl ?_
  refine RW.pure tabOk 1 rfl ?_
  refine RW.load tabOk [.int .i64 p0.Size] ((h7.at 1).take 1 rfl) ⟨rfl, rfl, rfl, rfl⟩ rfl rfl rfl rfl ?_
  refine RW.pure tabOk 1 rfl ?_
  refine RW.load tabOk [.int .i64 p1.Size] ((h6.at 1).take 1 rfl) ⟨rfl, rfl, rfl, rfl⟩ rfl rfl rfl rfl ?_
  refine RW.pure tabOk 3 rfl ?_
  by_cases c2 : p0.Size = p1.Size
  ·
   rw [if_pos c2] at H
   refine RW.bool 17 (b' := true) (beq_t c2) rfl ?_
   refine RW.pure tabOk 1 rfl ?_
   refine RW.load tabOk [.slice A1 p0.Free.length c_1] ((h7.at 2).take 1 rfl) ⟨rfl, rfl, rfl, rfl⟩ rfl rfl rfl rfl ?_
   refine RW.pure tabOk 1 rfl ?_
   refine RW.load tabOk [.slice A3 p1.Free.length c_3] ((h6.at 2).take 1 rfl) ⟨rfl, rfl, rfl, rfl⟩ rfl rfl rfl rfl ?_
   have h8 := (h1.ext x1).ext x2
   have h9 := (h3.ext x1).ext x2
   obtain ⟨y1, h10, H⟩ := bind_some H
   refine RW.callF (.inl rfl) ent122 ⟨rfl, rfl, rfl, rfl⟩ rfl rfl (hermitageref0_EqSegs.calls k A1 c_1 p0.Free A3 c_3 p1.Free _ _ h8.all hl1 h9.all hl3 h10) ?_
   rintro _ w3 ⟨rfl, x3⟩
   refine ⟨_, rfl, x3, ?_⟩
   have sx3 := x3.size
   refine RW.pure tabOk 2 rfl ?_
   by_cases c3 : y1 = true
   ·
    rw [if_pos c3] at H
    refine RW.bool 24 (b' := true) (c3) rfl ?_
    refine RW.pure tabOk 1 rfl ?_
    have h11 := h7.ext x3
    refine RW.load tabOk [.slice A2 p0.Late.length c_2] (h11.at 3) ⟨rfl, rfl, rfl, rfl⟩ rfl rfl rfl rfl ?_
    refine RW.pure tabOk 1 rfl ?_
    have h12 := h6.ext x3
    refine RW.load tabOk [.slice A4 p1.Late.length c_4] (h12.at 3) ⟨rfl, rfl, rfl, rfl⟩ rfl rfl rfl rfl ?_
    have h13 := ((h2.ext x1).ext x2).ext x3
    have h14 := ((h4.ext x1).ext x2).ext x3
    obtain ⟨y2, h15, H⟩ := bind_some H
    refine RW.callF (.inl rfl) ent122 ⟨rfl, rfl, rfl, rfl⟩ rfl rfl (hermitageref0_EqSegs.calls k A2 c_2 p0.Late A4 c_4 p1.Late _ _ h13.all hl2 h14.all hl4 h15) ?_
    rintro _ w4 ⟨rfl, x4⟩
    refine ⟨_, rfl, x4, ?_⟩
    have sx4 := x4.size
    refine RW.pure tabOk 2 rfl ?_
    refine RW.done ?_
    refine NW.next ?_
    refine CW.ret ?_
    obtain rfl := Option.some.inj H
    have h16 := Ext.trans (Ext.trans (Ext.trans (Ext.trans x0 x1) x2) x3) x4
    exact NW.ret1 rfl (by rfl) ⟨rfl, h16⟩
   ·
    rw [if_neg c3] at H
    refine RW.bool 24 (b' := false) (bool_f c3) rfl ?_
    refine RW.pure tabOk 7 rfl ?_
    refine RW.done ?_
    refine NW.next ?_
    refine CW.ret ?_
    obtain rfl := Option.some.inj H
    have h17 := Ext.trans (Ext.trans (Ext.trans x0 x1) x2) x3
    exact NW.ret1 rfl (by rfl) ⟨rfl, h17⟩
  ·
   rw [if_neg c2] at H
   refine RW.bool 17 (b' := false) (beq_f c2) rfl ?_
   refine RW.pure tabOk 14 rfl ?_
   refine RW.done ?_
   refine NW.next ?_
   refine CW.ret ?_
   obtain rfl := Option.some.inj H
   have h18 := Ext.trans (Ext.trans x0 x1) x2
   exact NW.ret1 rfl (by rfl) ⟨rfl, h18⟩
 ·
  rw [if_neg c1] at H
  refine RW.bool 10 (b' := false) (beq_f c1) rfl ?_
  refine RW.pure tabOk 21 rfl ?_
  refine RW.done ?_
  refine NW.next ?_
  refine CW.ret ?_
  obtain rfl := Option.some.inj H
  have h19 := Ext.trans (Ext.trans x0 x1) x2
  exact NW.ret1 rfl (by rfl) ⟨rfl, h19⟩

set_option maxHeartbeats 4000000 in
set_option maxRecDepth 100000 in
theorem hermitageref0_EqDevices.calls (k : Nat) (A1 : Option Addr) (c_1 : Nat) (p0 : List Device) (A2 : Option Addr) (c_2 : Nat) (p1 : List Device) (r : Bool) (w : World) (hs1 : Sl kDeviceR w.heap okAll A1 p0) (hl1 : p0.length ≤ c_1) (hs2 : Sl kDeviceR w.heap okAll A2 p1) (hl2 : p1.length ≤ c_2) (H : hermitageref0_EqDevices.f k p0 p1 = some r) :
    Calls Try.prog 80 #[.slice A1 p0.length c_1, .slice A2 p1.length c_2] w fun e w' => e = .returned (.bool r) ∧ Ext w w' := by
 have h1 : Sl kDeviceR w.heap (okL [(0, some w.heap.size, none)]) A1 p0 := hs1.old _ rfl
 have h2 : Sl kDeviceR w.heap (okL [(0, some w.heap.size, none)]) A2 p1 := hs2.old _ rfl
 have x0 : Ext w w := Upd.refl _ w
 unfold hermitageref0_EqDevices.f at H
 refine calls_start Try.func80 rfl 27 rfl [.slice A1 p0.length c_1, .slice A2 p1.length c_2] rfl ?_
 refine CW.seq ?_
 refine CW.lex [.W] rfl ?_
 refine RW.pure tabOk 1 rfl ?_
 refine RW.done ?_
 refine NW.next ?_
 refine CW.seq ?_
 refine CW.seq ?_
 refine CW.lex [.W, .W, .W, .W, .W] rfl ?_
 refine RW.pure tabOk 5 rfl ?_
 refine RW.done ?_
 refine NW.next ?_
 by_cases c1 : (p0.length : Int) = (p1.length : Int)
 ·
  rw [if_pos c1] at H
  refine CW.cond_f rfl (bne_f c1) ?_
  refine CW.skip ?_
  refine NW.next ?_
  refine CW.seq ?_
  refine CW.seq ?_
  refine CW.lex [.W] rfl ?_
  refine RW.pure tabOk 1 rfl ?_
  refine RW.done ?_
  refine NW.next ?_
  refine CW.block ?_
  refine CW.loop (fun n1 a w1 => ∃ (it5_0 : Int), Sat 27 [(0, .slice A1 p0.length c_1), (1, .slice A2 p1.length c_2), (5, .int .i64 it5_0)] a ∧ w.heap.size ≤ w1.heap.size ∧ Sl kDeviceR w1.heap (okL [(0, some w.heap.size, none)]) A1 p0 ∧ Sl kDeviceR w1.heap (okL [(0, some w.heap.size, none)]) A2 p1 ∧ Ext w w1 ∧ hermitageref0_EqDevices.l0 p0 p1 k n1 it5_0 = some r) k ?_ ?_
  · exact fun a ha => ⟨0, ha.sub ⟨rfl, rfl, rfl, trivial⟩, by omega, h1, h2, x0, H⟩
  intro n1 a w1 hI hp
  obtain ⟨it5_0, hS, hle, gF1_0, gF2_0, x0_0, H⟩ := hI
  cases n1 with
  | zero => cases H
  | succ n1 =>
   rw [hermitageref0_EqDevices.l0] at H
   refine CW.go hp hS ?_
   refine CW.seq ?_
   refine CW.seq ?_
   refine CW.lex [.W, .W, .W, .W] rfl ?_
   refine RW.pure tabOk 4 rfl ?_
   refine RW.done ?_
   refine NW.next ?_
   by_cases c2 : it5_0 < (p0.length : Int)
   ·
    rw [if_pos c2] at H
    refine CW.cond_t rfl (decide_eq_true c2) ?_
    refine CW.skip ?_
    refine NW.next ?_
    refine CW.seq ?_
    refine CW.block ?_
    refine CW.seq ?_
    refine CW.ord [0, 0, 3, 7, 0, 0, 48, 112, 255, 511] (ofL [(0, .W), (1, .W), (2, .W), (4, .W), (5, .W), (6, .W), (3, .L), (7, .L), (8, .X), (9, .W)] .nil) mixed (by kernel_rfl) ?_
    intro w2 x1
    have sx1 := x1.size
    refine RW.pure tabOk 2 rfl ?_
    obtain ⟨g1, H⟩ := guard_some H
    have h3 := gF1_0.ext x1
    obtain ⟨ad1, A3, c_3, A4, c_4, e1, a1, l1, h4, l2, h5⟩ := kDeviceR_at h3 g1.1 g1.2
    refine RW.index tabOk g1.1 g1.2 e1 ⟨rfl, rfl, rfl, rfl⟩ rfl rfl rfl rfl rfl rfl ?_
    refine RW.pure tabOk 2 rfl ?_
    obtain ⟨g2, H⟩ := guard_some H
    have h6 := gF2_0.ext x1
    obtain ⟨ad2, A5, c_5, A6, c_6, e2, a2, l3, h7, l4, h8⟩ := kDeviceR_at h6 g2.1 g2.2
    refine RW.index tabOk g2.1 g2.2 e2 ⟨rfl, rfl, rfl, rfl⟩ rfl rfl rfl rfl rfl rfl ?_
    refine RW.load tabOk [.int .i64 ((rd p0 it5_0).ID), .int .i64 ((rd p0 it5_0).Size), .slice A3 ((rd p0 it5_0).Free).length c_3, .slice A4 ((rd p0 it5_0).Late).length c_4] a1 ⟨rfl, rfl, rfl, rfl⟩ rfl rfl rfl rfl ?_
    refine RW.load tabOk [.int .i64 ((rd p1 it5_0).ID), .int .i64 ((rd p1 it5_0).Size), .slice A5 ((rd p1 it5_0).Free).length c_5, .slice A6 ((rd p1 it5_0).Late).length c_6] a2 ⟨rfl, rfl, rfl, rfl⟩ rfl rfl rfl rfl ?_
    obtain ⟨y1, h9, H⟩ := bind_some H
    refine RW.callF (.inl rfl) ent103 ⟨rfl, rfl, rfl, rfl⟩ rfl rfl (hermitageref0_EqDevice.calls k (rd p0 it5_0) A3 c_3 A4 c_4 (rd p1 it5_0) A5 c_5 A6 c_6 _ _ h4.all l1 h5.all l2 h7.all l3 h8.all l4 h9) ?_
    rintro _ w3 ⟨rfl, x2⟩
    refine ⟨_, rfl, x2, ?_⟩
    have sx2 := x2.size
    refine RW.pure tabOk 1 rfl ?_
    refine RW.done ?_
    refine NW.next ?_
    by_cases c3 : y1 = true
    ·
     rw [if_pos c3] at H
     refine CW.cond_f rfl (not_f (c3)) ?_
     refine CW.skip ?_
     refine NW.norm_block (NW.next ?_)
     refine CW.lex [.W, .W, .W] rfl ?_
     refine RW.pure tabOk 3 rfl ?_
     refine RW.done ?_
     have h10 := h3.ext x2
     have h11 := h6.ext x2
     have h12 := Ext.trans (Ext.trans x0_0 x1) x2
     exact NW.J fun a ha => ⟨n1, Nat.lt_succ_self n1, (w64 (it5_0 + 1)), ha.sub ⟨rfl, rfl, rfl, trivial⟩, by omega, h10, h11, h12, H⟩
    ·
     rw [if_neg c3] at H
     refine CW.cond_t rfl (not_t (bool_f c3)) ?_
     refine CW.seq ?_
     refine CW.lex [.W] rfl ?_
     refine RW.pure tabOk 1 rfl ?_
     refine RW.done ?_
     refine NW.next ?_
     refine CW.ret ?_
     refine NW.ret_block (NW.ret_then (NW.ret_then (NW.ret_block (NW.ret_then ?_))))
     obtain rfl := Option.some.inj H
     have h13 := Ext.trans (Ext.trans x0_0 x1) x2
     exact NW.ret1 rfl (by rfl) ⟨rfl, h13⟩
   ·
    rw [if_neg c2] at H
    refine CW.cond_f rfl (decide_eq_false c2) ?_
    refine CW.exit ?_
    refine NW.exit_then (NW.exit_then (NW.exit_hit ?_))
    refine NW.next ?_
    refine CW.seq ?_
    refine CW.lex [.W] rfl ?_
    refine RW.pure tabOk 1 rfl ?_
    refine RW.done ?_
    refine NW.next ?_
    refine CW.ret ?_
    obtain rfl := Option.some.inj H
    exact NW.ret1 rfl (by rfl) ⟨rfl, x0_0⟩
 ·
  rw [if_neg c1] at H
  refine CW.cond_t rfl (bne_t c1) ?_
  refine CW.seq ?_
  refine CW.lex [.W] rfl ?_
  refine RW.pure tabOk 1 rfl ?_
  refine RW.done ?_
  refine NW.next ?_
  refine CW.ret ?_
  refine NW.ret_then ?_
  obtain rfl := Option.some.inj H
  exact NW.ret1 rfl (by rfl) ⟨rfl, x0⟩

set_option maxHeartbeats 4000000 in
set_option maxRecDepth 100000 in
theorem hermitageref0_EqTables.calls (k : Nat) (A1 : Option Addr) (c_1 : Nat) (p0 : List Table) (A2 : Option Addr) (c_2 : Nat) (p1 : List Table) (r : Bool) (w : World) (hs1 : Sl kTableR w.heap okAll A1 p0) (hl1 : p0.length ≤ c_1) (hs2 : Sl kTableR w.heap okAll A2 p1) (hl2 : p1.length ≤ c_2) (H : hermitageref0_EqTables.f k p0 p1 = some r) :
    Calls Try.prog 81 #[.slice A1 p0.length c_1, .slice A2 p1.length c_2] w fun e w' => e = .returned (.bool r) ∧ Ext w w' := by
 have h1 : Sl kTableR w.heap (okL [(0, some w.heap.size, none)]) A1 p0 := hs1.old _ rfl
 have h2 : Sl kTableR w.heap (okL [(0, some w.heap.size, none)]) A2 p1 := hs2.old _ rfl
 have x0 : Ext w w := Upd.refl _ w
 unfold hermitageref0_EqTables.f at H
 refine calls_start Try.func81 rfl 27 rfl [.slice A1 p0.length c_1, .slice A2 p1.length c_2] rfl ?_
 refine CW.seq ?_
 refine CW.lex [.W] rfl ?_
 refine RW.pure tabOk 1 rfl ?_
 refine RW.done ?_
 refine NW.next ?_
 refine CW.seq ?_
 refine CW.seq ?_
 refine CW.lex [.W, .W, .W, .W, .W] rfl ?_
 refine RW.pure tabOk 5 rfl ?_
 refine RW.done ?_
 refine NW.next ?_
 by_cases c1 : (p0.length : Int) = (p1.length : Int)
 ·
  rw [if_pos c1] at H
  refine CW.cond_f rfl (bne_f c1) ?_
  refine CW.skip ?_
  refine NW.next ?_
  refine CW.seq ?_
  refine CW.seq ?_
  refine CW.lex [.W] rfl ?_
  refine RW.pure tabOk 1 rfl ?_
  refine RW.done ?_
  refine NW.next ?_
  refine CW.block ?_
  refine CW.loop (fun n1 a w1 => ∃ (it5_0 : Int), Sat 27 [(0, .slice A1 p0.length c_1), (1, .slice A2 p1.length c_2), (5, .int .i64 it5_0)] a ∧ w.heap.size ≤ w1.heap.size ∧ Sl kTableR w1.heap (okL [(0, some w.heap.size, none)]) A1 p0 ∧ Sl kTableR w1.heap (okL [(0, some w.heap.size, none)]) A2 p1 ∧ Ext w w1 ∧ hermitageref0_EqTables.l0 p0 p1 k n1 it5_0 = some r) k ?_ ?_
  · exact fun a ha => ⟨0, ha.sub ⟨rfl, rfl, rfl, trivial⟩, by omega, h1, h2, x0, H⟩
  intro n1 a w1 hI hp
  obtain ⟨it5_0, hS, hle, gF1_0, gF2_0, x0_0, H⟩ := hI
  cases n1 with
  | zero => cases H
  | succ n1 =>
   rw [hermitageref0_EqTables.l0] at H
   refine CW.go hp hS ?_
   refine CW.seq ?_
   refine CW.seq ?_
   refine CW.lex [.W, .W, .W, .W] rfl ?_
   refine RW.pure tabOk 4 rfl ?_
   refine RW.done ?_
   refine NW.next ?_
   by_cases c2 : it5_0 < (p0.length : Int)
   ·
    rw [if_pos c2] at H
    refine CW.cond_t rfl (decide_eq_true c2) ?_
    refine CW.skip ?_
    refine NW.next ?_
    refine CW.seq ?_
    refine CW.block ?_
    refine CW.seq ?_
    refine CW.ord [0, 0, 3, 7, 0, 0, 48, 112, 255, 511] (ofL [(0, .W), (1, .W), (2, .W), (4, .W), (5, .W), (6, .W), (3, .L), (7, .L), (8, .X), (9, .W)] .nil) mixed (by kernel_rfl) ?_
    intro w2 x1
    have sx1 := x1.size
    refine RW.pure tabOk 2 rfl ?_
    obtain ⟨g1, H⟩ := guard_some H
    have h3 := gF1_0.ext x1
    obtain ⟨ad1, A3, c_3, e1, a1, l1, h4⟩ := kTableR_at h3 g1.1 g1.2
    refine RW.index tabOk g1.1 g1.2 e1 ⟨rfl, rfl, rfl, rfl⟩ rfl rfl rfl rfl rfl rfl ?_
    refine RW.pure tabOk 2 rfl ?_
    obtain ⟨g2, H⟩ := guard_some H
    have h5 := gF2_0.ext x1
    obtain ⟨ad2, A4, c_4, e2, a2, l2, h6⟩ := kTableR_at h5 g2.1 g2.2
    refine RW.index tabOk g2.1 g2.2 e2 ⟨rfl, rfl, rfl, rfl⟩ rfl rfl rfl rfl rfl rfl ?_
    refine RW.load tabOk [.int .i64 ((rd p0 it5_0).Dev), .int .i64 ((rd p0 it5_0).Size), .slice A3 ((rd p0 it5_0).List_).length c_3] a1 ⟨rfl, rfl, rfl, rfl⟩ rfl rfl rfl rfl ?_
    refine RW.load tabOk [.int .i64 ((rd p1 it5_0).Dev), .int .i64 ((rd p1 it5_0).Size), .slice A4 ((rd p1 it5_0).List_).length c_4] a2 ⟨rfl, rfl, rfl, rfl⟩ rfl rfl rfl rfl ?_
    obtain ⟨y1, h7, H⟩ := bind_some H
    refine RW.callF (.inl rfl) ent58 ⟨rfl, rfl, rfl, rfl⟩ rfl rfl (hermitageref0_EqTable.calls k (rd p0 it5_0) A3 c_3 (rd p1 it5_0) A4 c_4 _ _ h4.all l1 h6.all l2 h7) ?_
    rintro _ w3 ⟨rfl, x2⟩
    refine ⟨_, rfl, x2, ?_⟩
    have sx2 := x2.size
    refine RW.pure tabOk 1 rfl ?_
    refine RW.done ?_
    refine NW.next ?_
    by_cases c3 : y1 = true
    ·
     rw [if_pos c3] at H
     refine CW.cond_f rfl (not_f (c3)) ?_
     refine CW.skip ?_
     refine NW.norm_block (NW.next ?_)
     refine CW.lex [.W, .W, .W] rfl ?_
     refine RW.pure tabOk 3 rfl ?_
     refine RW.done ?_
     have h8 := h3.ext x2
     have h9 := h5.ext x2
     have h10 := Ext.trans (Ext.trans x0_0 x1) x2
     exact NW.J fun a ha => ⟨n1, Nat.lt_succ_self n1, (w64 (it5_0 + 1)), ha.sub ⟨rfl, rfl, rfl, trivial⟩, by omega, h8, h9, h10, H⟩
    ·
     rw [if_neg c3] at H
     refine CW.cond_t rfl (not_t (bool_f c3)) ?_
     refine CW.seq ?_
     refine CW.lex [.W] rfl ?_
     refine RW.pure tabOk 1 rfl ?_
     refine RW.done ?_
     refine NW.next ?_
     refine CW.ret ?_
     refine NW.ret_block (NW.ret_then (NW.ret_then (NW.ret_block (NW.ret_then ?_))))
     obtain rfl := Option.some.inj H
     have h11 := Ext.trans (Ext.trans x0_0 x1) x2
     exact NW.ret1 rfl (by rfl) ⟨rfl, h11⟩
   ·
    rw [if_neg c2] at H
    refine CW.cond_f rfl (decide_eq_false c2) ?_
    refine CW.exit ?_
    refine NW.exit_then (NW.exit_then (NW.exit_hit ?_))
    refine NW.next ?_
    refine CW.seq ?_
    refine CW.lex [.W] rfl ?_
    refine RW.pure tabOk 1 rfl ?_
    refine RW.done ?_
    refine NW.next ?_
    refine CW.ret ?_
    obtain rfl := Option.some.inj H
    exact NW.ret1 rfl (by rfl) ⟨rfl, x0_0⟩
 ·
  rw [if_neg c1] at H
  refine CW.cond_t rfl (bne_t c1) ?_
  refine CW.seq ?_
  refine CW.lex [.W] rfl ?_
  refine RW.pure tabOk 1 rfl ?_
  refine RW.done ?_
  refine NW.next ?_
  refine CW.ret ?_
  refine NW.ret_then ?_
  obtain rfl := Option.some.inj H
  exact NW.ret1 rfl (by rfl) ⟨rfl, x0⟩

set_option maxHeartbeats 4000000 in
set_option maxRecDepth 100000 in
theorem hermitageref0_EqPool.calls (k : Nat) (p0 : Pool) (A1 : Option Addr) (c_1 : Nat) (A2 : Option Addr) (c_2 : Nat) (A3 : Option Addr) (c_3 : Nat) (p1 : Pool) (A4 : Option Addr) (c_4 : Nat) (A5 : Option Addr) (c_5 : Nat) (A6 : Option Addr) (c_6 : Nat) (r : Bool) (w : World) (hs1 : Sl kDeviceR w.heap okAll A1 p0.Devices) (hl1 : p0.Devices.length ≤ c_1) (hs2 : Sl kTableR w.heap okAll A2 p0.Tables) (hl2 : p0.Tables.length ≤ c_2) (hs3 : Sl kEntry w.heap okAll A3 p0.Job.Table.List_) (hl3 : p0.Job.Table.List_.length ≤ c_3) (hs4 : Sl kDeviceR w.heap okAll A4 p1.Devices) (hl4 : p1.Devices.length ≤ c_4) (hs5 : Sl kTableR w.heap okAll A5 p1.Tables) (hl5 : p1.Tables.length ≤ c_5) (hs6 : Sl kEntry w.heap okAll A6 p1.Job.Table.List_) (hl6 : p1.Job.Table.List_.length ≤ c_6) (H : hermitageref0_EqPool.f k p0 p1 = some r) :
    Calls Try.prog 39 #[.agg #[.slice A1 p0.Devices.length c_1, .slice A2 p0.Tables.length c_2, .int .i64 p0.Job.Dev, .int .i64 p0.Job.At, .int .i64 p0.Job.Table.Dev, .int .i64 p0.Job.Table.Size, .slice A3 p0.Job.Table.List_.length c_3, .int .i64 p0.Next], .agg #[.slice A4 p1.Devices.length c_4, .slice A5 p1.Tables.length c_5, .int .i64 p1.Job.Dev, .int .i64 p1.Job.At, .int .i64 p1.Job.Table.Dev, .int .i64 p1.Job.Table.Size, .slice A6 p1.Job.Table.List_.length c_6, .int .i64 p1.Next]] w fun e w' => e = .returned (.bool r) ∧ Ext w w' := by
 have h1 : Sl kDeviceR w.heap (okL [(0, some w.heap.size, none)]) A1 p0.Devices := hs1.old _ rfl
 have h2 : Sl kTableR w.heap (okL [(0, some w.heap.size, none)]) A2 p0.Tables := hs2.old _ rfl
 have h3 : Sl kEntry w.heap (okL [(0, some w.heap.size, none)]) A3 p0.Job.Table.List_ := hs3.old _ rfl
 have h4 : Sl kDeviceR w.heap (okL [(0, some w.heap.size, none)]) A4 p1.Devices := hs4.old _ rfl
 have h5 : Sl kTableR w.heap (okL [(0, some w.heap.size, none)]) A5 p1.Tables := hs5.old _ rfl
 have h6 : Sl kEntry w.heap (okL [(0, some w.heap.size, none)]) A6 p1.Job.Table.List_ := hs6.old _ rfl
 have x0 : Ext w w := Upd.refl _ w
 unfold hermitageref0_EqPool.f at H
 refine calls_start Try.func39 rfl 51 rfl [.agg #[.slice A1 p0.Devices.length c_1, .slice A2 p0.Tables.length c_2, .int .i64 p0.Job.Dev, .int .i64 p0.Job.At, .int .i64 p0.Job.Table.Dev, .int .i64 p0.Job.Table.Size, .slice A3 p0.Job.Table.List_.length c_3, .int .i64 p0.Next], .agg #[.slice A4 p1.Devices.length c_4, .slice A5 p1.Tables.length c_5, .int .i64 p1.Job.Dev, .int .i64 p1.Job.At, .int .i64 p1.Job.Table.Dev, .int .i64 p1.Job.Table.Size, .slice A6 p1.Job.Table.List_.length c_6, .int .i64 p1.Next]] rfl ?_
 refine CW.seq ?_
 refine CW.lex [.X, .X, .W] rfl ?_
 refine RW.box (cs := [.slice A1 p0.Devices.length c_1, .slice A2 p0.Tables.length c_2, .int .i64 p0.Job.Dev, .int .i64 p0.Job.At, .int .i64 p0.Job.Table.Dev, .int .i64 p0.Job.Table.Size, .slice A3 p0.Job.Table.List_.length c_3, .int .i64 p0.Next]) (.inl rfl) ⟨rfl, rfl, rfl, rfl⟩ rfl rfl rfl ?_
 intro b1 w1 x1 l1 h7
 have sx1 := x1.size
 have ltb1 := h7.lt
 refine RW.box (cs := [.slice A4 p1.Devices.length c_4, .slice A5 p1.Tables.length c_5, .int .i64 p1.Job.Dev, .int .i64 p1.Job.At, .int .i64 p1.Job.Table.Dev, .int .i64 p1.Job.Table.Size, .slice A6 p1.Job.Table.List_.length c_6, .int .i64 p1.Next]) (.inl rfl) ⟨rfl, rfl, rfl, rfl⟩ rfl rfl rfl ?_
 intro b2 w2 x2 l2 h8
 have sx2 := x2.size
 have ltb2 := h8.lt
 refine RW.pure tabOk 1 rfl ?_
 refine RW.done ?_
 refine NW.next ?_
 refine CW.seq ?_
 refine CW.lex [.W, .L, .W, .L, .X, .W, .W, .L, .W, .L, .X, .W, .W, .W, .W, .L, .W, .W, .L, .W, .W, .W, .W, .W, .L, .W, .W, .L, .W, .W, .W, .W, .W, .L, .W, .W, .L, .X, .W, .W, .W, .L, .W, .L, .W, .W, .W] rfl ?_
 refine RW.pure tabOk 1 rfl ?_
 have h9 := h7.ext x2
 refine RW.load tabOk [.slice A1 p0.Devices.length c_1] ((h9.at 0).take 1 rfl) ⟨rfl, rfl, rfl, rfl⟩ rfl rfl rfl rfl ?_
 refine RW.pure tabOk 1 rfl ?_
 refine RW.load tabOk [.slice A4 p1.Devices.length c_4] ((h8.at 0).take 1 rfl) ⟨rfl, rfl, rfl, rfl⟩ rfl rfl rfl rfl ?_
 have h10 := (h1.ext x1).ext x2
 have h11 := (h4.ext x1).ext x2
 obtain ⟨y1, h12, H⟩ := bind_some H
 refine RW.callF (.inl rfl) ent80 ⟨rfl, rfl, rfl, rfl⟩ rfl rfl (hermitageref0_EqDevices.calls k A1 c_1 p0.Devices A4 c_4 p1.Devices _ _ h10.all hl1 h11.all hl4 h12) ?_
 rintro _ w3 ⟨rfl, x3⟩
 refine ⟨_, rfl, x3, ?_⟩
 have sx3 := x3.size
 refine RW.pure tabOk 1 rfl ?_
 by_cases c1 : y1 = true
 ·
  rw [if_pos c1] at H
  refine RW.bool 10 (b' := true) (c1) rfl ?_
  refine RW.pure tabOk 1 rfl ?_
  have h13 := h9.ext x3
  refine RW.load tabOk [.slice A2 p0.Tables.length c_2] ((h13.at 1).take 1 rfl) ⟨rfl, rfl, rfl, rfl⟩ rfl rfl rfl rfl ?_
  refine RW.pure tabOk 1 rfl ?_
  have h14 := h8.ext x3
  refine RW.load tabOk [.slice A5 p1.Tables.length c_5] ((h14.at 1).take 1 rfl) ⟨rfl, rfl, rfl, rfl⟩ rfl rfl rfl rfl ?_
  have h15 := ((h2.ext x1).ext x2).ext x3
  have h16 := ((h5.ext x1).ext x2).ext x3
  obtain ⟨y2, h17, H⟩ := bind_some H
  refine RW.callF (.inl rfl) ent81 ⟨rfl, rfl, rfl, rfl⟩ rfl rfl (hermitageref0_EqTables.calls k A2 c_2 p0.Tables A5 c_5 p1.Tables _ _ h15.all hl2 h16.all hl5 h17) ?_
  rintro _ w4 ⟨rfl, x4⟩
  refine ⟨_, rfl, x4, ?_⟩
  have sx4 := x4.size
  refine RW.pure tabOk 2 rfl ?_
  by_cases c2 : y2 = true
  ·
   rw [if_pos c2] at H
   refine RW.bool 17 (b' := true) (c2) rfl ?_
   refine RW.pure tabOk 2 rfl ?_
   have h18 := h13.ext x4
   refine RW.load tabOk [.int .i64 p0.Job.Dev] ((h18.at 2).take 1 rfl) ⟨rfl, rfl, rfl, rfl⟩ rfl rfl rfl rfl ?_
   refine RW.pure tabOk 2 rfl ?_
   have h19 := h14.ext x4
   refine RW.load tabOk [.int .i64 p1.Job.Dev] ((h19.at 2).take 1 rfl) ⟨rfl, rfl, rfl, rfl⟩ rfl rfl rfl rfl ?_
   refine RW.pure tabOk 3 rfl ?_
   by_cases c3 : p0.Job.Dev = p1.Job.Dev
   ·
    rw [if_pos c3] at H
    refine RW.bool 26 (b' := true) (beq_t c3) rfl ?_
    refine RW.pure tabOk 2 rfl ?_
    refine RW.load tabOk [.int .i64 p0.Job.At] ((h18.at 3).take 1 rfl) ⟨rfl, rfl, rfl, rfl⟩ rfl rfl rfl rfl ?_
    refine RW.pure tabOk 2 rfl ?_
    refine RW.load tabOk [.int .i64 p1.Job.At] ((h19.at 3).take 1 rfl) ⟨rfl, rfl, rfl, rfl⟩ rfl rfl rfl rfl ?_
    refine RW.pure tabOk 3 rfl ?_
    by_cases c4 : p0.Job.At = p1.Job.At
    ·
     rw [if_pos c4] at H
     refine RW.bool 35 (b' := true) (beq_t c4) rfl ?_
     refine RW.pure tabOk 2 rfl ?_
     refine RW.load tabOk [.int .i64 p0.Job.Table.Dev, .int .i64 p0.Job.Table.Size, .slice A3 p0.Job.Table.List_.length c_3] ((h18.at 4).take 3 rfl) ⟨rfl, rfl, rfl, rfl⟩ rfl rfl rfl rfl ?_
     refine RW.pure tabOk 2 rfl ?_
     refine RW.load tabOk [.int .i64 p1.Job.Table.Dev, .int .i64 p1.Job.Table.Size, .slice A6 p1.Job.Table.List_.length c_6] ((h19.at 4).take 3 rfl) ⟨rfl, rfl, rfl, rfl⟩ rfl rfl rfl rfl ?_
     have h20 := (((h3.ext x1).ext x2).ext x3).ext x4
     have h21 := (((h6.ext x1).ext x2).ext x3).ext x4
     obtain ⟨y3, h22, H⟩ := bind_some H
     refine RW.callF (.inl rfl) ent58 ⟨rfl, rfl, rfl, rfl⟩ rfl rfl (hermitageref0_EqTable.calls k p0.Job.Table A3 c_3 p1.Job.Table A6 c_6 _ _ h20.all hl3 h21.all hl6 h22) ?_
     rintro _ w5 ⟨rfl, x5⟩
     refine ⟨_, rfl, x5, ?_⟩
     have sx5 := x5.size
     refine RW.pure tabOk 2 rfl ?_
     by_cases c5 : y3 = true
     ·
      rw [if_pos c5] at H
      refine RW.bool 44 (b' := true) (c5) rfl ?_
      refine RW.pure tabOk 1 rfl ?_
      have h23 := h18.ext x5
      refine RW.load tabOk [.int .i64 p0.Next] (h23.at 7) ⟨rfl, rfl, rfl, rfl⟩ rfl rfl rfl rfl ?_
      refine RW.pure tabOk 1 rfl ?_
      have h24 := h19.ext x5
      refine RW.load tabOk [.int .i64 p1.Next] (h24.at 7) ⟨rfl, rfl, rfl, rfl⟩ rfl rfl rfl rfl ?_
      refine RW.pure tabOk 3 rfl ?_
      refine RW.done ?_
      refine NW.next ?_
      refine CW.ret ?_
      obtain rfl := Option.some.inj H
      have h25 := Ext.trans (Ext.trans (Ext.trans (Ext.trans (Ext.trans x0 x1) x2) x3) x4) x5
      exact NW.ret1 rfl (by rfl) ⟨rfl, h25⟩
     ·
      rw [if_neg c5] at H
      refine RW.bool 44 (b' := false) (bool_f c5) rfl ?_
      refine RW.pure tabOk 7 rfl ?_
      refine RW.done ?_
      refine NW.next ?_
      refine CW.ret ?_
      obtain rfl := Option.some.inj H
      have h26 := Ext.trans (Ext.trans (Ext.trans (Ext.trans (Ext.trans x0 x1) x2) x3) x4) x5
      exact NW.ret1 rfl (by rfl) ⟨rfl, h26⟩
    ·
     rw [if_neg c4] at H
     refine RW.bool 35 (b' := false) (beq_f c4) rfl ?_
     refine RW.pure tabOk 16 rfl ?_
     refine RW.done ?_
     refine NW.next ?_
     refine CW.ret ?_
     obtain rfl := Option.some.inj H
     have h27 := Ext.trans (Ext.trans (Ext.trans (Ext.trans x0 x1) x2) x3) x4
     exact NW.ret1 rfl (by rfl) ⟨rfl, h27⟩
   ·
    rw [if_neg c3] at H
    refine RW.bool 26 (b' := false) (beq_f c3) rfl ?_
    refine RW.pure tabOk 25 rfl ?_
    refine RW.done ?_
    refine NW.next ?_
    refine CW.ret ?_
    obtain rfl := Option.some.inj H
    have h28 := Ext.trans (Ext.trans (Ext.trans (Ext.trans x0 x1) x2) x3) x4
    exact NW.ret1 rfl (by rfl) ⟨rfl, h28⟩
  ·
   rw [if_neg c2] at H
   refine RW.bool 17 (b' := false) (bool_f c2) rfl ?_
   refine RW.pure tabOk 34 rfl ?_
   refine RW.done ?_
   refine NW.next ?_
   refine CW.ret ?_
   obtain rfl := Option.some.inj H
   have h29 := Ext.trans (Ext.trans (Ext.trans (Ext.trans x0 x1) x2) x3) x4
   exact NW.ret1 rfl (by rfl) ⟨rfl, h29⟩
 ·
  rw [if_neg c1] at H
  refine RW.bool 10 (b' := false) (bool_f c1) rfl ?_
  refine RW.pure tabOk 41 rfl ?_
  refine RW.done ?_
  refine NW.next ?_
  refine CW.ret ?_
  obtain rfl := Option.some.inj H
  have h30 := Ext.trans (Ext.trans (Ext.trans x0 x1) x2) x3
  exact NW.ret1 rfl (by rfl) ⟨rfl, h30⟩

end Go.Proofs.Ytnaajldlloglkaa.W
