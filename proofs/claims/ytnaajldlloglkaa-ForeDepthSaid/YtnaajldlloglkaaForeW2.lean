/- Walks; printed by a program of the claim. -/
import Derived.Test.YtnaajldlloglkaaForeW1
set_option linter.unusedVariables false
set_option linter.unusedSimpArgs false
namespace Go.Proofs.Ytnaajldlloglkaa.W
open Go.H Go.Proofs
set_option maxHeartbeats 4000000 in
set_option maxRecDepth 100000 in
theorem hermitagelaw11_ForeDepth.calls (k : Nat) (p0 : hermitagelaw10Script) (A1 : Option Addr) (c_1 : Nat) (A2 : Option Addr) (c_2 : Nat) (A3 : Option Addr) (c_3 : Nat) (A4 : Option Addr) (c_4 : Nat) (r : Bool) (w : World) (hs1 : Sl kDeviceR w.heap okAll A1 p0.P.Devices) (hl1 : p0.P.Devices.length ≤ c_1) (hs2 : Sl kTableR w.heap okAll A2 p0.P.Tables) (hl2 : p0.P.Tables.length ≤ c_2) (hs3 : Sl kEntry w.heap okAll A3 p0.P.Job.Table.List_) (hl3 : p0.P.Job.Table.List_.length ≤ c_3) (hs4 : Sl khermitagelaw10ActR w.heap okAll A4 p0.A) (hl4 : p0.A.length ≤ c_4) (H : hermitagelaw11_ForeDepth.f k p0 = some r) :
    Calls Try.prog 8 #[.agg #[.slice A1 p0.P.Devices.length c_1, .slice A2 p0.P.Tables.length c_2, .int .i64 p0.P.Job.Dev, .int .i64 p0.P.Job.At, .int .i64 p0.P.Job.Table.Dev, .int .i64 p0.P.Job.Table.Size, .slice A3 p0.P.Job.Table.List_.length c_3, .int .i64 p0.P.Next, .slice A4 p0.A.length c_4]] w fun e w' => e = .returned (.bool r) ∧ Ext w w' := by
 have h1 : Sl kDeviceR w.heap (okL [(0, some w.heap.size, none)]) A1 p0.P.Devices := hs1.old _ rfl
 have h2 : Sl kTableR w.heap (okL [(0, some w.heap.size, none)]) A2 p0.P.Tables := hs2.old _ rfl
 have h3 : Sl kEntry w.heap (okL [(0, some w.heap.size, none)]) A3 p0.P.Job.Table.List_ := hs3.old _ rfl
 have h4 : Sl khermitagelaw10ActR w.heap (okL [(0, some w.heap.size, none)]) A4 p0.A := hs4.old _ rfl
 have x0 : Ext w w := Upd.refl _ w
 unfold hermitagelaw11_ForeDepth.f at H
 refine calls_start Try.func8 rfl 110 rfl [.agg #[.slice A1 p0.P.Devices.length c_1, .slice A2 p0.P.Tables.length c_2, .int .i64 p0.P.Job.Dev, .int .i64 p0.P.Job.At, .int .i64 p0.P.Job.Table.Dev, .int .i64 p0.P.Job.Table.Size, .slice A3 p0.P.Job.Table.List_.length c_3, .int .i64 p0.P.Next, .slice A4 p0.A.length c_4]] rfl ?_
 refine CW.seq ?_
 refine CW.lex [.X, .W] rfl ?_
 refine RW.box (cs := [.slice A1 p0.P.Devices.length c_1, .slice A2 p0.P.Tables.length c_2, .int .i64 p0.P.Job.Dev, .int .i64 p0.P.Job.At, .int .i64 p0.P.Job.Table.Dev, .int .i64 p0.P.Job.Table.Size, .slice A3 p0.P.Job.Table.List_.length c_3, .int .i64 p0.P.Next, .slice A4 p0.A.length c_4]) (.inl rfl) ⟨rfl, rfl, rfl, rfl⟩ rfl rfl rfl ?_
 intro b1 w1 x1 l1 h5
 have sx1 := x1.size
 have ltb1 := h5.lt
 refine RW.pure tabOk 1 rfl ?_
 refine RW.done ?_
 refine NW.next ?_
 refine CW.seq ?_
 refine CW.lex [.W, .L, .W, .X, .W, .W] rfl ?_
 refine RW.pure tabOk 1 rfl ?_
 refine RW.load tabOk [.slice A4 p0.A.length c_4] (h5.at 8) ⟨rfl, rfl, rfl, rfl⟩ rfl rfl rfl rfl ?_
 refine RW.pure tabOk 1 rfl ?_
 obtain ⟨y1, h6, H⟩ := bind_some H
 refine RW.callF (.inl rfl) ent11 ⟨rfl, rfl, rfl, rfl⟩ rfl rfl (hermitagelaw0_Within.calls (p0.A.length : Int) 12 _ _ h6) ?_
 rintro _ w2 ⟨rfl, x2⟩
 refine ⟨_, rfl, x2, ?_⟩
 have sx2 := x2.size
 refine RW.pure tabOk 2 rfl ?_
 refine RW.done ?_
 refine NW.next ?_
 refine CW.seq ?_
 refine CW.lex [.W, .W, .W, .X, .W, .W, .W, .X, .M] rfl ?_
 refine RW.pure tabOk 3 rfl ?_
 refine RW.buildSlice (cs := [.int .i64 (w64 ((w64 (1 + y1)) + 1)), .int .i64 20, .slice none 0 0, .slice none 0 0]) tabOk (.inl rfl) ⟨rfl, rfl, rfl, rfl⟩ rfl rfl rfl rfl rfl rfl rfl ?_
 intro b2 w3 x3 l2 h7
 have sx3 := x3.size
 have ltb2 := h7.lt
 refine RW.pure tabOk 3 rfl ?_
 refine RW.alloc tabOk (.inl rfl) ⟨rfl, rfl, rfl, rfl⟩ rfl rfl ?_
 intro b3 w4 x4 l3 h8
 have sx4 := x4.size
 have ltb3 := h8.lt
 have h9 := h7.ext x4
 have h10 : Ow kDeviceO 67 w4.heap (okL [(w2.heap.size, some w3.heap.size, some 67)]) (okL []) (some ⟨b2, 0, none⟩) 1 ([(⟨w64 ((w64 (1 + y1)) + 1), 20, ([] : List Seg), ([] : List Seg)⟩ : Device)] : List Device) := Ow.of_box h9 (.inl ⟨l2, ltb2, rfl⟩) (Nat.le_of_ble_eq_true rfl) (Ch.cons (d := kDeviceO) (cs := [.int .i64 (w64 ((w64 (1 + y1)) + 1)), .int .i64 20, .slice none 0 0, .slice none 0 0]) (x := (⟨w64 ((w64 (1 + y1)) + 1), 20, ([] : List Seg), ([] : List Seg)⟩ : Device)) (kDeviceO_mk (⟨w64 ((w64 (1 + y1)) + 1), 20, ([] : List Seg), ([] : List Seg)⟩ : Device) Ow.nil Ow.nil) Ch.nil)
 refine RW.storeBox tabOk h8 [.slice (some ⟨b2, 0, none⟩) ([(⟨w64 ((w64 (1 + y1)) + 1), 20, ([] : List Seg), ([] : List Seg)⟩ : Device)] : List Device).length 1, .slice none 0 0, .int .i64 0, .int .i64 0, .int .i64 0, .int .i64 0, .slice none 0 0, .int .i64 (w64 ((w64 (1 + y1)) + 2))] ⟨rfl, rfl, rfl⟩ rfl rfl rfl rfl rfl rfl rfl rfl ?_
 intro w5 x5 h11
 have h12 : Box w5.heap b3 61 [.slice (some ⟨b2, 0, none⟩) ([(⟨w64 ((w64 (1 + y1)) + 1), 20, ([] : List Seg), ([] : List Seg)⟩ : Device)] : List Device).length 1, .slice none 0 0, .int .i64 0, .int .i64 0, .int .i64 0, .int .i64 0, .slice none 0 0, .int .i64 (w64 ((w64 (1 + y1)) + 2))] := h11
 have sx5 := x5.size
 refine RW.done ?_
 refine NW.next ?_
 refine CW.seq ?_
 refine CW.lex [.W, .W, .W, .X, .W, .W, .W, .X, .M] rfl ?_
 refine RW.pure tabOk 3 rfl ?_
 refine RW.buildSlice (cs := [.int .i64 (w64 ((w64 (1 + y1)) + 1)), .int .i64 20, .slice none 0 0, .slice none 0 0]) tabOk (.inl rfl) ⟨rfl, rfl, rfl, rfl⟩ rfl rfl rfl rfl rfl rfl rfl ?_
 intro b4 w6 x6 l4 h13
 have sx6 := x6.size
 have ltb4 := h13.lt
 refine RW.pure tabOk 3 rfl ?_
 refine RW.alloc tabOk (.inl rfl) ⟨rfl, rfl, rfl, rfl⟩ rfl rfl ?_
 intro b5 w7 x7 l5 h14
 have sx7 := x7.size
 have ltb5 := h14.lt
 have h15 := h13.ext x7
 have h16 : Ow kDeviceO 67 w7.heap (okL [(w5.heap.size, some w6.heap.size, some 67)]) (okL []) (some ⟨b4, 0, none⟩) 1 ([(⟨w64 ((w64 (1 + y1)) + 1), 20, ([] : List Seg), ([] : List Seg)⟩ : Device)] : List Device) := Ow.of_box h15 (.inl ⟨l4, ltb4, rfl⟩) (Nat.le_of_ble_eq_true rfl) (Ch.cons (d := kDeviceO) (cs := [.int .i64 (w64 ((w64 (1 + y1)) + 1)), .int .i64 20, .slice none 0 0, .slice none 0 0]) (x := (⟨w64 ((w64 (1 + y1)) + 1), 20, ([] : List Seg), ([] : List Seg)⟩ : Device)) (kDeviceO_mk (⟨w64 ((w64 (1 + y1)) + 1), 20, ([] : List Seg), ([] : List Seg)⟩ : Device) Ow.nil Ow.nil) Ch.nil)
 refine RW.storeBox tabOk h14 [.slice (some ⟨b4, 0, none⟩) ([(⟨w64 ((w64 (1 + y1)) + 1), 20, ([] : List Seg), ([] : List Seg)⟩ : Device)] : List Device).length 1, .slice none 0 0, .int .i64 0, .int .i64 0, .int .i64 0, .int .i64 0, .slice none 0 0, .int .i64 (w64 ((w64 (1 + y1)) + 2))] ⟨rfl, rfl, rfl⟩ rfl rfl rfl rfl rfl rfl rfl rfl ?_
 intro w8 x8 h17
 have h18 : Box w8.heap b5 61 [.slice (some ⟨b4, 0, none⟩) ([(⟨w64 ((w64 (1 + y1)) + 1), 20, ([] : List Seg), ([] : List Seg)⟩ : Device)] : List Device).length 1, .slice none 0 0, .int .i64 0, .int .i64 0, .int .i64 0, .int .i64 0, .slice none 0 0, .int .i64 (w64 ((w64 (1 + y1)) + 2))] := h17
 have sx8 := x8.size
 refine RW.done ?_
 refine NW.next ?_
 refine CW.seq ?_
 refine CW.seq ?_
 refine CW.lex [.W] rfl ?_
 refine RW.pure tabOk 1 rfl ?_
 refine RW.done ?_
 refine NW.next ?_
 refine CW.block ?_
 refine CW.loop (fun n1 a w9 => ∃ (it6_0 : Int) (lb3_1_0 : List Table) (Ab3_1_0 : Option Addr) (cb3_1_0 : Nat) (lb5_1_0 : List Table) (Ab5_1_0 : Option Addr) (cb5_1_0 : Nat), Sat 110 [(3, .int .i64 (w64 (1 + y1))), (4, .pointer (some ⟨b3, 0, none⟩)), (5, .pointer (some ⟨b5, 0, none⟩)), (6, .int .i64 it6_0)] a ∧ w8.heap.size ≤ w9.heap.size ∧ Ow kTableO 24 w9.heap (okL [(blk (w8.heap.size) Ab3_1_0 cb3_1_0, some (blk (w8.heap.size) Ab3_1_0 cb3_1_0 + min cb3_1_0 1), some 24)]) (okL [(w8.heap.size, none, some 45)]) Ab3_1_0 cb3_1_0 lb3_1_0 ∧ Ow kDeviceO 67 w9.heap (okL [(w2.heap.size, some w3.heap.size, some 67)]) (okL []) (some ⟨b2, 0, none⟩) 1 ([(⟨w64 ((w64 (1 + y1)) + 1), 20, ([] : List Seg), ([] : List Seg)⟩ : Device)] : List Device) ∧ Ow kTableO 24 w9.heap (okL [(blk (w8.heap.size) Ab5_1_0 cb5_1_0, some (blk (w8.heap.size) Ab5_1_0 cb5_1_0 + min cb5_1_0 1), some 24)]) (okL [(w8.heap.size, none, some 45)]) Ab5_1_0 cb5_1_0 lb5_1_0 ∧ Ow kDeviceO 67 w9.heap (okL [(w5.heap.size, some w6.heap.size, some 67)]) (okL []) (some ⟨b4, 0, none⟩) 1 ([(⟨w64 ((w64 (1 + y1)) + 1), 20, ([] : List Seg), ([] : List Seg)⟩ : Device)] : List Device) ∧ Ext w w9 ∧ Box w9.heap b3 61 [.slice (some ⟨b2, 0, none⟩) ([(⟨w64 ((w64 (1 + y1)) + 1), 20, ([] : List Seg), ([] : List Seg)⟩ : Device)] : List Device).length 1, .slice Ab3_1_0 lb3_1_0.length cb3_1_0, .int .i64 0, .int .i64 0, .int .i64 0, .int .i64 0, .slice none 0 0, .int .i64 (w64 ((w64 (1 + y1)) + 2))] ∧ Box w9.heap b5 61 [.slice (some ⟨b4, 0, none⟩) ([(⟨w64 ((w64 (1 + y1)) + 1), 20, ([] : List Seg), ([] : List Seg)⟩ : Device)] : List Device).length 1, .slice Ab5_1_0 lb5_1_0.length cb5_1_0, .int .i64 0, .int .i64 0, .int .i64 0, .int .i64 0, .slice none 0 0, .int .i64 (w64 ((w64 (1 + y1)) + 2))] ∧ w8.heap.size ≤ blk (w8.heap.size) Ab3_1_0 cb3_1_0 ∧ w8.heap.size ≤ blk (w8.heap.size) Ab5_1_0 cb5_1_0 ∧ (blk (w8.heap.size) Ab5_1_0 cb5_1_0 ≠ blk (w8.heap.size) Ab3_1_0 cb3_1_0 ∨ cb5_1_0 = 0 ∨ cb3_1_0 = 0) ∧ hermitagelaw11_ForeDepth.l0 k y1 n1 it6_0 lb3_1_0 lb5_1_0 = some r) k ?_ ?_
 have h19 := (((h10.turnB x5 h8 ⟨.inl (show (67 : Nat) ≠ 61 by decide), trivial⟩ trivial).ext x6).ext x7).turnB x8 h14 ⟨.inl (show (67 : Nat) ≠ 61 by decide), trivial⟩ trivial
 have h20 := h16.turnB x8 h14 ⟨.inl (show (67 : Nat) ≠ 61 by decide), trivial⟩ trivial
 have h21 := Ext.turnB (Ext.trans (Ext.trans (Ext.turnB (Ext.trans (Ext.trans (Ext.trans (Ext.trans x0 x1) x2) x3) x4) x5 (by omega)) x6) x7) x8 (by omega)
 have h22 := ((h12.ext x6).ext x7).turnB x8 (by omega)
 · exact fun a ha => ⟨1, ([] : List Table), none, 0, ([] : List Table), none, 0, ha.sub ⟨rfl, rfl, rfl, rfl, trivial⟩, by omega, Ow.nil, h19, Ow.nil, h20, h21, h22, h18, (by first | omega | (simp only [blk_nil]; omega) | simp [blk_nil]), (by first | omega | (simp only [blk_nil]; omega) | simp [blk_nil]), (by first | omega | (simp only [blk_nil]; omega) | simp [blk_nil]), H⟩
 intro n1 a w9 hI hp
 obtain ⟨it6_0, lb3_1_0, Ab3_1_0, cb3_1_0, lb5_1_0, Ab5_1_0, cb5_1_0, hS, hle, fb3_1_0, gF5_0, fb5_1_0, gF6_0, x0_0, gb3_0, gb5_0, bl0_0, bl1_0, ap0_0, H⟩ := hI
 cases n1 with
 | zero => cases H
 | succ n1 =>
  have tb1 := fb3_1_0.blk_lt (w8.heap.size)
  have tb2 := fb5_1_0.blk_lt (w8.heap.size)
  rw [hermitagelaw11_ForeDepth.l0] at H
  refine CW.go hp hS ?_
  have h23 : Ow kTableO 24 w9.heap (okL [(blk (w8.heap.size) Ab3_1_0 cb3_1_0, some (blk (w8.heap.size) Ab3_1_0 cb3_1_0 + min cb3_1_0 1), some 24)]) (okL [(w8.heap.size, some w9.heap.size, some 45)]) Ab3_1_0 cb3_1_0 lb3_1_0 := fb3_1_0.close
  have h24 : Ow kTableO 24 w9.heap (okL [(blk (w8.heap.size) Ab5_1_0 cb5_1_0, some (blk (w8.heap.size) Ab5_1_0 cb5_1_0 + min cb5_1_0 1), some 24)]) (okL [(w8.heap.size, some w9.heap.size, some 45)]) Ab5_1_0 cb5_1_0 lb5_1_0 := fb5_1_0.close
  refine CW.seq ?_
  refine CW.seq ?_
  refine CW.lex [.W, .W, .W] rfl ?_
  refine RW.pure tabOk 3 rfl ?_
  refine RW.done ?_
  refine NW.next ?_
  by_cases c1 : it6_0 ≤ (w64 (1 + y1))
  ·
   rw [if_pos c1] at H
   refine CW.cond_t rfl (decide_eq_true c1) ?_
   refine CW.skip ?_
   refine NW.next ?_
   refine CW.seq ?_
   refine CW.block ?_
   refine CW.seq ?_
   refine CW.lex [.W, .L, .W, .W, .W, .W, .X, .W, .X, .M, .W, .M] rfl ?_
   refine RW.pure tabOk 1 rfl ?_
   refine RW.load tabOk [.slice Ab3_1_0 lb3_1_0.length cb3_1_0] ((gb3_0.at 1).take 1 rfl) ⟨rfl, rfl, rfl, rfl⟩ rfl rfl rfl rfl ?_
   refine RW.pure tabOk 4 rfl ?_
   refine RW.buildSlice (cs := [.int .i64 0, .int .i64 1, .int .i64 (w64 (it6_0 + 1)), .int .i64 0, .int .i64 0]) tabOk (.inl rfl) ⟨rfl, rfl, rfl, rfl⟩ rfl rfl rfl rfl rfl rfl rfl ?_
   intro b6 w10 x9 l6 h25
   have sx9 := x9.size
   have ltb6 := h25.lt
   refine RW.pure tabOk 1 rfl ?_
   refine RW.buildSlice (cs := [.int .i64 it6_0, .int .i64 9, .slice (some ⟨b6, 0, none⟩) 1 1]) tabOk (.inl rfl) ⟨rfl, rfl, rfl, rfl⟩ rfl rfl rfl rfl rfl rfl rfl ?_
   intro b7 w11 x10 l7 h26
   have sx10 := x10.size
   have ltb7 := h26.lt
   have h27 := h25.ext x10
   have h28 : Ow kEntry 45 w11.heap (okL [(w9.heap.size, some w10.heap.size, some 45)]) (okL []) (some ⟨b6, 0, none⟩) 1 ([(⟨0, 1, w64 (it6_0 + 1), 0, 0⟩ : Entry)] : List Entry) := Ow.of_box h27 (.inl ⟨l6, ltb6, rfl⟩) (Nat.le_of_ble_eq_true rfl) (Ch.cons (d := kEntry) (cs := [.int .i64 0, .int .i64 1, .int .i64 (w64 (it6_0 + 1)), .int .i64 0, .int .i64 0]) (x := (⟨0, 1, w64 (it6_0 + 1), 0, 0⟩ : Entry)) (kEntry_mk (⟨0, 1, w64 (it6_0 + 1), 0, 0⟩ : Entry)) Ch.nil)
   have h29 := (h23.ext x9).ext x10
   obtain ⟨g1, H⟩ := guard_some H
   refine RW.append1L (d := kTableO) (v := (⟨it6_0, 9, ([(⟨0, 1, w64 (it6_0 + 1), 0, 0⟩ : Entry)] : List Entry)⟩ : Table)) (l := [(blk (w8.heap.size) Ab3_1_0 cb3_1_0, some (blk (w8.heap.size) Ab3_1_0 cb3_1_0 + min cb3_1_0 1), some 24)]) (li := [(w8.heap.size, some w9.heap.size, some 45)]) (ly := [(w9.heap.size, some w10.heap.size, some 45)]) (xs := lb3_1_0) tabOk h29 h26 (kTableO_mk (⟨it6_0, 9, ([(⟨0, 1, w64 (it6_0 + 1), 0, 0⟩ : Entry)] : List Entry)⟩ : Table) (h28.sub (l' := [(w9.heap.size, some w10.heap.size, some 45)]) (li' := [(w9.heap.size, some w10.heap.size, some 45)]) ⟨(.inl ⟨by omega, by omega, rfl⟩), trivial⟩ trivial)) ⟨⟨.inl (show (45 : Nat) ≠ 24 by decide), trivial⟩, trivial⟩ (by simp only [maxLen]; omega) g1 ⟨rfl, rfl, rfl, rfl⟩ rfl rfl rfl rfl rfl rfl rfl ?_
   intro A5 c_5 w12 x11 h30
   have sx11 := x11.size
   have h31 := h30.close.sub (l' := [(blk (w8.heap.size) Ab3_1_0 cb3_1_0, some (blk (w8.heap.size) Ab3_1_0 cb3_1_0 + min cb3_1_0 1), some 24), (w11.heap.size, some w12.heap.size, some 24)]) (li' := [(w8.heap.size, some w10.heap.size, some 45)]) ⟨(.inl ⟨by omega, by omega, rfl⟩), ⟨(.inr (.inl ⟨by omega, by omega, rfl⟩)), trivial⟩⟩ ⟨(.inl ⟨by omega, by omega, rfl⟩), ⟨(.inl ⟨by omega, by omega, rfl⟩), trivial⟩⟩
   refine RW.pure tabOk 1 rfl ?_
   have h32 := ((gb3_0.ext x9).ext x10).turnL x11 (.inl (by decide))
   refine RW.storeBox tabOk h32 [.slice A5 (lb3_1_0 ++ [(⟨it6_0, 9, ([(⟨0, 1, w64 (it6_0 + 1), 0, 0⟩ : Entry)] : List Entry)⟩ : Table)]).length c_5] ⟨rfl, rfl, rfl⟩ rfl rfl rfl rfl rfl rfl rfl rfl ?_
   intro w13 x12 h33
   have h34 : Box w13.heap b3 61 [.slice (some ⟨b2, 0, none⟩) ([(⟨w64 ((w64 (1 + y1)) + 1), 20, ([] : List Seg), ([] : List Seg)⟩ : Device)] : List Device).length 1, .slice A5 (lb3_1_0 ++ [(⟨it6_0, 9, ([(⟨0, 1, w64 (it6_0 + 1), 0, 0⟩ : Entry)] : List Entry)⟩ : Table)]).length c_5, .int .i64 0, .int .i64 0, .int .i64 0, .int .i64 0, .slice none 0 0, .int .i64 (w64 ((w64 (1 + y1)) + 2))] := h33
   have sx12 := x12.size
   refine RW.done ?_
   refine NW.next ?_
   refine CW.lex [.W, .L, .W, .W, .W, .W, .W, .W, .W, .X, .W, .X, .M, .W, .M] rfl ?_
   refine RW.pure tabOk 1 rfl ?_
   have h35 := (((gb5_0.ext x9).ext x10).turnL x11 (.inl (by decide))).turnB x12 (by omega)
   refine RW.load tabOk [.slice Ab5_1_0 lb5_1_0.length cb5_1_0] ((h35.at 1).take 1 rfl) ⟨rfl, rfl, rfl, rfl⟩ rfl rfl rfl rfl ?_
   refine RW.pure tabOk 2 rfl ?_
   refine RW.div (by decide) ⟨rfl, rfl, rfl, rfl⟩ rfl rfl rfl rfl ?_
   refine RW.pure tabOk 4 rfl ?_
   refine RW.buildSlice (cs := [.int .i64 (it6_0.tmod 9), .int .i64 1, .int .i64 (w64 ((w64 (1 + y1)) + 1)), .int .i64 it6_0, .int .i64 0]) tabOk (.inl rfl) ⟨rfl, rfl, rfl, rfl⟩ rfl rfl rfl rfl rfl rfl rfl ?_
   intro b8 w14 x13 l8 h36
   have sx13 := x13.size
   have ltb8 := h36.lt
   refine RW.pure tabOk 1 rfl ?_
   refine RW.buildSlice (cs := [.int .i64 it6_0, .int .i64 9, .slice (some ⟨b8, 0, none⟩) 1 1]) tabOk (.inl rfl) ⟨rfl, rfl, rfl, rfl⟩ rfl rfl rfl rfl rfl rfl rfl ?_
   intro b9 w15 x14 l9 h37
   have sx14 := x14.size
   have ltb9 := h37.lt
   have h38 := h36.ext x14
   have h39 : Ow kEntry 45 w15.heap (okL [(w13.heap.size, some w14.heap.size, some 45)]) (okL []) (some ⟨b8, 0, none⟩) 1 ([(⟨it6_0.tmod 9, 1, w64 ((w64 (1 + y1)) + 1), it6_0, 0⟩ : Entry)] : List Entry) := Ow.of_box h38 (.inl ⟨l8, ltb8, rfl⟩) (Nat.le_of_ble_eq_true rfl) (Ch.cons (d := kEntry) (cs := [.int .i64 (it6_0.tmod 9), .int .i64 1, .int .i64 (w64 ((w64 (1 + y1)) + 1)), .int .i64 it6_0, .int .i64 0]) (x := (⟨it6_0.tmod 9, 1, w64 ((w64 (1 + y1)) + 1), it6_0, 0⟩ : Entry)) (kEntry_mk (⟨it6_0.tmod 9, 1, w64 ((w64 (1 + y1)) + 1), it6_0, 0⟩ : Entry)) Ch.nil)
   have h40 := (((((h24.ext x9).ext x10).turnL x11 ⟨⟨disjE (by omega), trivial⟩, trivial⟩ ⟨⟨.inl (show (45 : Nat) ≠ 24 by decide), trivial⟩, trivial⟩).turnB x12 h32 ⟨.inl (show (24 : Nat) ≠ 61 by decide), trivial⟩ ⟨.inl (show (45 : Nat) ≠ 61 by decide), trivial⟩).ext x13).ext x14
   obtain ⟨g2, H⟩ := guard_some H
   refine RW.append1L (d := kTableO) (v := (⟨it6_0, 9, ([(⟨it6_0.tmod 9, 1, w64 ((w64 (1 + y1)) + 1), it6_0, 0⟩ : Entry)] : List Entry)⟩ : Table)) (l := [(blk (w8.heap.size) Ab5_1_0 cb5_1_0, some (blk (w8.heap.size) Ab5_1_0 cb5_1_0 + min cb5_1_0 1), some 24)]) (li := [(w8.heap.size, some w9.heap.size, some 45)]) (ly := [(w13.heap.size, some w14.heap.size, some 45)]) (xs := lb5_1_0) tabOk h40 h37 (kTableO_mk (⟨it6_0, 9, ([(⟨it6_0.tmod 9, 1, w64 ((w64 (1 + y1)) + 1), it6_0, 0⟩ : Entry)] : List Entry)⟩ : Table) (h39.sub (l' := [(w13.heap.size, some w14.heap.size, some 45)]) (li' := [(w13.heap.size, some w14.heap.size, some 45)]) ⟨(.inl ⟨by omega, by omega, rfl⟩), trivial⟩ trivial)) ⟨⟨.inl (show (45 : Nat) ≠ 24 by decide), trivial⟩, trivial⟩ (by simp only [maxLen]; omega) g2 ⟨rfl, rfl, rfl, rfl⟩ rfl rfl rfl rfl rfl rfl rfl ?_
   intro A6 c_6 w16 x15 h41
   have sx15 := x15.size
   have h42 := h41.close.sub (l' := [(blk (w8.heap.size) Ab5_1_0 cb5_1_0, some (blk (w8.heap.size) Ab5_1_0 cb5_1_0 + min cb5_1_0 1), some 24), (w15.heap.size, some w16.heap.size, some 24)]) (li' := [(w8.heap.size, some w14.heap.size, some 45)]) ⟨(.inl ⟨by omega, by omega, rfl⟩), ⟨(.inr (.inl ⟨by omega, by omega, rfl⟩)), trivial⟩⟩ ⟨(.inl ⟨by omega, by omega, rfl⟩), ⟨(.inl ⟨by omega, by omega, rfl⟩), trivial⟩⟩
   refine RW.pure tabOk 1 rfl ?_
   have h43 := ((h35.ext x13).ext x14).turnL x15 (.inl (by decide))
   refine RW.storeBox tabOk h43 [.slice A6 (lb5_1_0 ++ [(⟨it6_0, 9, ([(⟨it6_0.tmod 9, 1, w64 ((w64 (1 + y1)) + 1), it6_0, 0⟩ : Entry)] : List Entry)⟩ : Table)]).length c_6] ⟨rfl, rfl, rfl⟩ rfl rfl rfl rfl rfl rfl rfl rfl ?_
   intro w17 x16 h44
   have h45 : Box w17.heap b5 61 [.slice (some ⟨b4, 0, none⟩) ([(⟨w64 ((w64 (1 + y1)) + 1), 20, ([] : List Seg), ([] : List Seg)⟩ : Device)] : List Device).length 1, .slice A6 (lb5_1_0 ++ [(⟨it6_0, 9, ([(⟨it6_0.tmod 9, 1, w64 ((w64 (1 + y1)) + 1), it6_0, 0⟩ : Entry)] : List Entry)⟩ : Table)]).length c_6, .int .i64 0, .int .i64 0, .int .i64 0, .int .i64 0, .slice none 0 0, .int .i64 (w64 ((w64 (1 + y1)) + 2))] := h44
   have sx16 := x16.size
   refine RW.done ?_
   refine NW.norm_block (NW.next ?_)
   refine CW.lex [.W, .W, .W] rfl ?_
   refine RW.pure tabOk 3 rfl ?_
   refine RW.done ?_
   have h46 := ((((h31.turnB x12 h32 ⟨.inl (show (24 : Nat) ≠ 61 by decide), ⟨.inl (show (24 : Nat) ≠ 61 by decide), trivial⟩⟩ ⟨.inl (show (45 : Nat) ≠ 61 by decide), trivial⟩).ext x13).ext x14).turnL x15 ⟨⟨disjE (by omega), trivial⟩, ⟨⟨disjE (by omega), trivial⟩, trivial⟩⟩ ⟨⟨.inl (show (45 : Nat) ≠ 24 by decide), trivial⟩, trivial⟩).turnB x16 h43 ⟨.inl (show (24 : Nat) ≠ 61 by decide), ⟨.inl (show (24 : Nat) ≠ 61 by decide), trivial⟩⟩ ⟨.inl (show (45 : Nat) ≠ 61 by decide), trivial⟩
   have h47 := (((((((gF5_0.ext x9).ext x10).turnL x11 ⟨⟨.inl (show (67 : Nat) ≠ 24 by decide), trivial⟩, trivial⟩ trivial).turnB x12 h32 ⟨.inl (show (67 : Nat) ≠ 61 by decide), trivial⟩ trivial).ext x13).ext x14).turnL x15 ⟨⟨.inl (show (67 : Nat) ≠ 24 by decide), trivial⟩, trivial⟩ trivial).turnB x16 h43 ⟨.inl (show (67 : Nat) ≠ 61 by decide), trivial⟩ trivial
   have h48 := h42.turnB x16 h43 ⟨.inl (show (24 : Nat) ≠ 61 by decide), ⟨.inl (show (24 : Nat) ≠ 61 by decide), trivial⟩⟩ ⟨.inl (show (45 : Nat) ≠ 61 by decide), trivial⟩
   have h49 := (((((((gF6_0.ext x9).ext x10).turnL x11 ⟨⟨.inl (show (67 : Nat) ≠ 24 by decide), trivial⟩, trivial⟩ trivial).turnB x12 h32 ⟨.inl (show (67 : Nat) ≠ 61 by decide), trivial⟩ trivial).ext x13).ext x14).turnL x15 ⟨⟨.inl (show (67 : Nat) ≠ 24 by decide), trivial⟩, trivial⟩ trivial).turnB x16 h43 ⟨.inl (show (67 : Nat) ≠ 61 by decide), trivial⟩ trivial
   have h50 := Ext.turnB (Ext.turn (Ext.trans (Ext.trans (Ext.turnB (Ext.turn (Ext.trans (Ext.trans x0_0 x9) x10) x11 ⟨by omega, trivial⟩) x12 (by omega)) x13) x14) x15 ⟨by omega, trivial⟩) x16 (by omega)
   have h51 := (((h34.ext x13).ext x14).turnL x15 (.inl (by decide))).turnB x16 (by omega)
   have tk1 := h46.blk_in (w8.heap.size)
   simp only [okL, inS, or_false, and_true] at tk1
   have tk2 := h48.blk_in (w8.heap.size)
   simp only [okL, inS, or_false, and_true] at tk2
   exact NW.J fun a ha => ⟨n1, Nat.lt_succ_self n1, (w64 (it6_0 + 1)), (lb3_1_0 ++ [(⟨it6_0, 9, ([(⟨0, 1, w64 (it6_0 + 1), 0, 0⟩ : Entry)] : List Entry)⟩ : Table)]), A5, c_5, (lb5_1_0 ++ [(⟨it6_0, 9, ([(⟨it6_0.tmod 9, 1, w64 ((w64 (1 + y1)) + 1), it6_0, 0⟩ : Entry)] : List Entry)⟩ : Table)]), A6, c_6, ha.sub ⟨rfl, rfl, rfl, rfl, trivial⟩, by omega, ((h46.tight (w8.heap.size)).subI ⟨(.inl ⟨by omega, trivial, rfl⟩), trivial⟩), h47, ((h48.tight (w8.heap.size)).subI ⟨(.inl ⟨by omega, trivial, rfl⟩), trivial⟩), h49, h50, h51, h45, (by first | omega | (simp only [blk_nil]; omega) | simp [blk_nil]), (by first | omega | (simp only [blk_nil]; omega) | simp [blk_nil]), (by first | omega | (simp only [blk_nil]; omega) | simp [blk_nil]), H⟩
  ·
   rw [if_neg c1] at H
   refine CW.cond_f rfl (decide_eq_false c1) ?_
   refine CW.exit ?_
   refine NW.exit_then (NW.exit_then (NW.exit_hit ?_))
   refine NW.next ?_
   refine CW.seq ?_
   refine CW.lex [.L, .X, .W, .W, .W, .W, .W] rfl ?_
   refine RW.load tabOk [.slice (some ⟨b2, 0, none⟩) ([(⟨w64 ((w64 (1 + y1)) + 1), 20, ([] : List Seg), ([] : List Seg)⟩ : Device)] : List Device).length 1, .slice Ab3_1_0 lb3_1_0.length cb3_1_0, .int .i64 0, .int .i64 0, .int .i64 0, .int .i64 0, .slice none 0 0, .int .i64 (w64 ((w64 (1 + y1)) + 2))] (gb3_0.at 0) ⟨rfl, rfl, rfl, rfl⟩ rfl rfl rfl rfl ?_
   obtain ⟨y2, h52, H⟩ := bind_some H
   refine RW.callF (.inl rfl) ent24 ⟨rfl, rfl, rfl, rfl⟩ rfl rfl (fore_Depth.calls k (⟨([(⟨w64 ((w64 (1 + y1)) + 1), 20, ([] : List Seg), ([] : List Seg)⟩ : Device)] : List Device), lb3_1_0, (⟨0, 0, (⟨0, 0, ([] : List Entry)⟩ : Table)⟩ : Job), w64 ((w64 (1 + y1)) + 2)⟩ : Pool) (some ⟨b2, 0, none⟩) 1 Ab3_1_0 cb3_1_0 none 0 _ _ (gF5_0.all.to kDevice_ro rfl) gF5_0.len (h23.all.to kTable_ro rfl) h23.len Sl.nil (Nat.le_refl 0) h52) ?_
   rintro _ w18 ⟨rfl, x17⟩
   refine ⟨_, rfl, x17, ?_⟩
   have sx17 := x17.size
   refine RW.pure tabOk 5 rfl ?_
   refine RW.done ?_
   refine NW.next ?_
   refine CW.seq ?_
   refine CW.lex [.L, .X, .W, .W, .W, .W, .W] rfl ?_
   have h53 := gb5_0.ext x17
   refine RW.load tabOk [.slice (some ⟨b4, 0, none⟩) ([(⟨w64 ((w64 (1 + y1)) + 1), 20, ([] : List Seg), ([] : List Seg)⟩ : Device)] : List Device).length 1, .slice Ab5_1_0 lb5_1_0.length cb5_1_0, .int .i64 0, .int .i64 0, .int .i64 0, .int .i64 0, .slice none 0 0, .int .i64 (w64 ((w64 (1 + y1)) + 2))] (h53.at 0) ⟨rfl, rfl, rfl, rfl⟩ rfl rfl rfl rfl ?_
   have h54 := gF6_0.ext x17
   have h55 := h24.ext x17
   obtain ⟨y3, h56, H⟩ := bind_some H
   refine RW.callF (.inl rfl) ent24 ⟨rfl, rfl, rfl, rfl⟩ rfl rfl (fore_Depth.calls k (⟨([(⟨w64 ((w64 (1 + y1)) + 1), 20, ([] : List Seg), ([] : List Seg)⟩ : Device)] : List Device), lb5_1_0, (⟨0, 0, (⟨0, 0, ([] : List Entry)⟩ : Table)⟩ : Job), w64 ((w64 (1 + y1)) + 2)⟩ : Pool) (some ⟨b4, 0, none⟩) 1 Ab5_1_0 cb5_1_0 none 0 _ _ (h54.all.to kDevice_ro rfl) h54.len (h55.all.to kTable_ro rfl) h55.len Sl.nil (Nat.le_refl 0) h56) ?_
   rintro _ w19 ⟨rfl, x18⟩
   refine ⟨_, rfl, x18, ?_⟩
   have sx18 := x18.size
   refine RW.pure tabOk 5 rfl ?_
   refine RW.done ?_
   refine NW.next ?_
   refine CW.seq ?_
   refine CW.lex [.W, .L, .W, .L, .W, .X, .W, .W, .W, .W, .W] rfl ?_
   refine RW.pure tabOk 1 rfl ?_
   have h57 := (gb3_0.ext x17).ext x18
   refine RW.load tabOk [.slice (some ⟨b2, 0, none⟩) ([(⟨w64 ((w64 (1 + y1)) + 1), 20, ([] : List Seg), ([] : List Seg)⟩ : Device)] : List Device).length 1] ((h57.at 0).take 1 rfl) ⟨rfl, rfl, rfl, rfl⟩ rfl rfl rfl rfl ?_
   refine RW.pure tabOk 1 rfl ?_
   refine RW.load tabOk [.int .i64 (w64 ((w64 (1 + y1)) + 2))] (h57.at 7) ⟨rfl, rfl, rfl, rfl⟩ rfl rfl rfl rfl ?_
   refine RW.pure tabOk 1 rfl ?_
   have h58 := (gF5_0.ext x17).ext x18
   obtain ⟨y4, h59, H⟩ := bind_some H
   refine RW.callF (.inl rfl) ent24 ⟨rfl, rfl, rfl, rfl⟩ rfl rfl (fore_Depth.calls k (⟨([(⟨w64 ((w64 (1 + y1)) + 1), 20, ([] : List Seg), ([] : List Seg)⟩ : Device)] : List Device), ([] : List Table), (⟨0, 0, (⟨0, 0, ([] : List Entry)⟩ : Table)⟩ : Job), w64 ((w64 (1 + y1)) + 2)⟩ : Pool) (some ⟨b2, 0, none⟩) 1 none 0 none 0 _ _ (h58.all.to kDevice_ro rfl) h58.len Sl.nil (Nat.le_refl 0) Sl.nil (Nat.le_refl 0) h59) ?_
   rintro _ w20 ⟨rfl, x19⟩
   refine ⟨_, rfl, x19, ?_⟩
   have sx19 := x19.size
   refine RW.pure tabOk 5 rfl ?_
   refine RW.done ?_
   refine NW.next ?_
   refine CW.seq ?_
   refine CW.lex [.W, .X, .W, .W, .W, .X, .W, .W, .W, .W, .X, .W, .W, .W, .W, .W, .W, .W, .W, .W, .W, .W, .W, .W, .W, .W, .W, .X, .W, .W] rfl ?_
   refine RW.pure tabOk 1 rfl ?_
   obtain ⟨y5, h60, H⟩ := bind_some H
   refine RW.callF (.inl rfl) ent25 ⟨rfl, rfl, rfl, rfl⟩ rfl rfl (hermitagelaw11_num.calls y2.2 _ _ h60) ?_
   rintro _ w21 ⟨rfl, x20⟩
   refine ⟨_, rfl, x20, ?_⟩
   have sx20 := x20.size
   refine RW.pure tabOk 2 rfl ?_
   by_cases c2 : y5 = 0
   ·
    rw [if_pos c2] at H
    refine RW.bool 84 (b' := true) (beq_t c2) rfl ?_
    refine RW.pure tabOk 1 rfl ?_
    obtain ⟨y6, h61, H⟩ := bind_some H
    refine RW.callF (.inl rfl) ent25 ⟨rfl, rfl, rfl, rfl⟩ rfl rfl (hermitagelaw11_num.calls y3.2 _ _ h61) ?_
    rintro _ w22 ⟨rfl, x21⟩
    refine ⟨_, rfl, x21, ?_⟩
    have sx21 := x21.size
    refine RW.pure tabOk 3 rfl ?_
    by_cases c3 : y6 = 0
    ·
     rw [if_pos c3] at H
     refine RW.bool 89 (b' := true) (beq_t c3) rfl ?_
     refine RW.pure tabOk 1 rfl ?_
     obtain ⟨y7, h62, H⟩ := bind_some H
     refine RW.callF (.inl rfl) ent25 ⟨rfl, rfl, rfl, rfl⟩ rfl rfl (hermitagelaw11_num.calls y4.2 _ _ h62) ?_
     rintro _ w23 ⟨rfl, x22⟩
     refine ⟨_, rfl, x22, ?_⟩
     have sx22 := x22.size
     refine RW.pure tabOk 3 rfl ?_
     by_cases c4 : y7 = 0
     ·
      rw [if_pos c4] at H
      refine RW.bool 94 (b' := true) (beq_t c4) rfl ?_
      refine RW.pure tabOk 5 rfl ?_
      by_cases c5 : y2.1 = w64 (1 + y1)
      ·
       rw [if_pos c5] at H
       refine RW.bool 99 (b' := true) (beq_t c5) rfl ?_
       refine RW.pure tabOk 4 rfl ?_
       by_cases c6 : y3.1 = 1
       ·
        rw [if_pos c6] at H
        refine RW.bool 103 (b' := true) (beq_t c6) rfl ?_
        refine RW.pure tabOk 4 rfl ?_
        by_cases c7 : y4.1 = 0
        ·
         rw [if_pos c7] at H
         refine RW.bool 107 (b' := true) (beq_t c7) rfl ?_
         obtain ⟨y8, h63, H⟩ := bind_some H
         refine RW.callF (.inl rfl) ent26 ⟨rfl, rfl, rfl, rfl⟩ rfl rfl (hermitagelaw11_wakes.calls k _ _ h63) ?_
         rintro _ w24 ⟨rfl, x23⟩
         refine ⟨_, rfl, x23, ?_⟩
         have sx23 := x23.size
         refine RW.pure tabOk 2 rfl ?_
         refine RW.done ?_
         refine NW.next ?_
         refine CW.ret ?_
         obtain rfl := Option.some.inj H
         have h64 := Ext.trans (Ext.trans (Ext.trans (Ext.trans (Ext.trans (Ext.trans (Ext.trans x0_0 x17) x18) x19) x20) x21) x22) x23
         exact NW.ret1 rfl (by rfl) ⟨rfl, h64⟩
        ·
         rw [if_neg c7] at H
         refine RW.bool 107 (b' := false) (beq_f c7) rfl ?_
         refine RW.pure tabOk 3 rfl ?_
         refine RW.done ?_
         refine NW.next ?_
         refine CW.ret ?_
         obtain rfl := Option.some.inj H
         have h65 := Ext.trans (Ext.trans (Ext.trans (Ext.trans (Ext.trans (Ext.trans x0_0 x17) x18) x19) x20) x21) x22
         exact NW.ret1 rfl (by rfl) ⟨rfl, h65⟩
       ·
        rw [if_neg c6] at H
        refine RW.bool 103 (b' := false) (beq_f c6) rfl ?_
        refine RW.pure tabOk 7 rfl ?_
        refine RW.done ?_
        refine NW.next ?_
        refine CW.ret ?_
        obtain rfl := Option.some.inj H
        have h66 := Ext.trans (Ext.trans (Ext.trans (Ext.trans (Ext.trans (Ext.trans x0_0 x17) x18) x19) x20) x21) x22
        exact NW.ret1 rfl (by rfl) ⟨rfl, h66⟩
      ·
       rw [if_neg c5] at H
       refine RW.bool 99 (b' := false) (beq_f c5) rfl ?_
       refine RW.pure tabOk 11 rfl ?_
       refine RW.done ?_
       refine NW.next ?_
       refine CW.ret ?_
       obtain rfl := Option.some.inj H
       have h67 := Ext.trans (Ext.trans (Ext.trans (Ext.trans (Ext.trans (Ext.trans x0_0 x17) x18) x19) x20) x21) x22
       exact NW.ret1 rfl (by rfl) ⟨rfl, h67⟩
     ·
      rw [if_neg c4] at H
      refine RW.bool 94 (b' := false) (beq_f c4) rfl ?_
      refine RW.pure tabOk 16 rfl ?_
      refine RW.done ?_
      refine NW.next ?_
      refine CW.ret ?_
      obtain rfl := Option.some.inj H
      have h68 := Ext.trans (Ext.trans (Ext.trans (Ext.trans (Ext.trans (Ext.trans x0_0 x17) x18) x19) x20) x21) x22
      exact NW.ret1 rfl (by rfl) ⟨rfl, h68⟩
    ·
     rw [if_neg c3] at H
     refine RW.bool 89 (b' := false) (beq_f c3) rfl ?_
     refine RW.pure tabOk 21 rfl ?_
     refine RW.done ?_
     refine NW.next ?_
     refine CW.ret ?_
     obtain rfl := Option.some.inj H
     have h69 := Ext.trans (Ext.trans (Ext.trans (Ext.trans (Ext.trans x0_0 x17) x18) x19) x20) x21
     exact NW.ret1 rfl (by rfl) ⟨rfl, h69⟩
   ·
    rw [if_neg c2] at H
    refine RW.bool 84 (b' := false) (beq_f c2) rfl ?_
    refine RW.pure tabOk 26 rfl ?_
    refine RW.done ?_
    refine NW.next ?_
    refine CW.ret ?_
    obtain rfl := Option.some.inj H
    have h70 := Ext.trans (Ext.trans (Ext.trans (Ext.trans x0_0 x17) x18) x19) x20
    exact NW.ret1 rfl (by rfl) ⟨rfl, h70⟩

end Go.Proofs.Ytnaajldlloglkaa.W
