/- Walks; printed by a program of the claim. -/
import Derived.Test.YtnaajldlloglkaaForeW1
set_option linter.unusedVariables false
set_option linter.unusedSimpArgs false
namespace Go.Proofs.Ytnaajldlloglkaa.W
open Go.H Go.Proofs
set_option maxHeartbeats 4000000 in
set_option maxRecDepth 100000 in
theorem hermitagelaw11_ForeDepth.calls (k : Nat) (p0 : hermitagelaw10Script) (A1 : Option Addr) (c_1 : Nat) (A2 : Option Addr) (c_2 : Nat) (A3 : Option Addr) (c_3 : Nat) (A4 : Option Addr) (c_4 : Nat) (r : Bool) (w : World) (hs1 : Sl kDeviceR w.heap okAll A1 p0.P.Devices) (hl1 : p0.P.Devices.length ≤ c_1) (hs2 : Sl kTableR w.heap okAll A2 p0.P.Tables) (hl2 : p0.P.Tables.length ≤ c_2) (hs3 : Sl kEntry w.heap okAll A3 p0.P.Job.Table.List_) (hl3 : p0.P.Job.Table.List_.length ≤ c_3) (hs4 : Sl khermitagelaw10ActR w.heap okAll A4 p0.A) (hl4 : p0.A.length ≤ c_4) (H : hermitagelaw11_ForeDepth.f k p0 = some r) :
    Calls Try.prog 8 #[.agg #[.slice A1 p0.P.Devices.length c_1, .slice A2 p0.P.Tables.length c_2, .int .i64 p0.P.Job.Dev, .int .i64 p0.P.Job.At, .int .i64 p0.P.Job.Table.Dev, .int .i64 p0.P.Job.Table.Size, .slice A3 p0.P.Job.Table.List_.length c_3, .int .i64 p0.P.Next, .slice A4 p0.A.length c_4]] w fun e w' => e = .returned (.bool r) ∧ Ext w w' := by
 have h1 : Sl kDeviceR w.heap (okL [(0, some w.heap.size, none)]) A1 p0.P.Devices := hs1.old _ rfl
 have h2 : Sl kTableR w.heap (okL [(0, some w.heap.size, none)]) A2 p0.P.Tables := hs2.old _ rfl
 have h3 : Sl kEntry w.heap (okL [(0, some w.heap.size, none)]) A3 p0.P.Job.Table.List_ := hs3.old _ rfl
 have h4 : Sl khermitagelaw10ActR w.heap (okL [(0, some w.heap.size, none)]) A4 p0.A := hs4.old _ rfl
 have x0 : Ext w w := Upd.refl _ w
 unfold hermitagelaw11_ForeDepth.f at H
 refine calls_start Try.func8 rfl 110 rfl [.agg #[.slice A1 p0.P.Devices.length c_1, .slice A2 p0.P.Tables.length c_2, .int .i64 p0.P.Job.Dev, .int .i64 p0.P.Job.At, .int .i64 p0.P.Job.Table.Dev, .int .i64 p0.P.Job.Table.Size, .slice A3 p0.P.Job.Table.List_.length c_3, .int .i64 p0.P.Next, .slice A4 p0.A.length c_4]] rfl ?_
 refine CW.seq ?_
 refine CW.lex [.X, .W] rfl ?_
 refine RW.box (cs := [.slice A1 p0.P.Devices.length c_1, .slice A2 p0.P.Tables.length c_2, .int .i64 p0.P.Job.Dev, .int .i64 p0.P.Job.At, .int .i64 p0.P.Job.Table.Dev, .int .i64 p0.P.Job.Table.Size, .slice A3 p0.P.Job.Table.List_.length c_3, .int .i64 p0.P.Next, .slice A4 p0.A.length c_4]) (.inl rfl) ⟨rfl, rfl, rfl, rfl⟩ rfl rfl rfl ?_
 intro b1 w1 x1 l1 h5
 have sx1 := x1.size
 have ltb1 := h5.lt
 refine RW.pure tabOk 1 rfl ?_
 refine RW.done ?_
 refine NW.next ?_
 refine CW.seq ?_
 refine CW.lex [.W, .L, .W, .X, .W, .W] rfl ?_
 refine RW.pure tabOk 1 rfl ?_
 refine RW.load tabOk [.slice A4 p0.A.length c_4] (h5.at 8) ⟨rfl, rfl, rfl, rfl⟩ rfl rfl rfl rfl ?_
 refine RW.pure tabOk 1 rfl ?_
 obtain ⟨y1, h6, H⟩ := bind_some H
 refine RW.callF (.inl rfl) ent11 ⟨rfl, rfl, rfl, rfl⟩ rfl rfl (hermitagelaw0_Within.calls (p0.A.length : Int) 12 _ _ h6) ?_
 rintro _ w2 ⟨rfl, x2⟩
 refine ⟨_, rfl, x2, ?_⟩
 have sx2 := x2.size
 refine RW.pure tabOk 2 rfl ?_
 refine RW.done ?_
 refine NW.next ?_
 refine CW.seq ?_
 refine CW.lex [.W, .W, .W, .X, .W, .W, .W, .X, .M] rfl ?_
 refine RW.pure tabOk 3 rfl ?_
 refine RW.buildSlice (cs := [.int .i64 (w64 ((w64 (1 + y1)) + 1)), .int .i64 20, .slice none 0 0, .slice none 0 0]) tabOk (.inl rfl) ⟨rfl, rfl, rfl, rfl⟩ rfl rfl rfl rfl rfl rfl rfl ?_
 intro b2 w3 x3 l2 h7
 have sx3 := x3.size
 have ltb2 := h7.lt
 refine RW.pure tabOk 3 rfl ?_
 refine RW.alloc tabOk (.inl rfl) ⟨rfl, rfl, rfl, rfl⟩ rfl rfl ?_
 intro b3 w4 x4 l3 h8
 have sx4 := x4.size
 have ltb3 := h8.lt
 have h9 := h7.ext x4
 have h10 : Ow kDeviceO 67 w4.heap (okL [(w2.heap.size, some w3.heap.size, some 67)]) (okL []) (some ⟨b2, 0, none⟩) 1 ([(⟨w64 ((w64 (1 + y1)) + 1), 20, ([] : List Seg), ([] : List Seg)⟩ : Device)] : List Device) := Ow.of_box h9 (.inl ⟨l2, ltb2, rfl⟩) (Nat.le_of_ble_eq_true rfl) (Ch.cons (d := kDeviceO) (cs := [.int .i64 (w64 ((w64 (1 + y1)) + 1)), .int .i64 20, .slice none 0 0, .slice none 0 0]) (x := (⟨w64 ((w64 (1 + y1)) + 1), 20, ([] : List Seg), ([] : List Seg)⟩ : Device)) (kDeviceO_mk (⟨w64 ((w64 (1 + y1)) + 1), 20, ([] : List Seg), ([] : List Seg)⟩ : Device) Ow.nil Ow.nil) Ch.nil)
 refine RW.storeBox tabOk h8 [.slice (some ⟨b2, 0, none⟩) ([(⟨w64 ((w64 (1 + y1)) + 1), 20, ([] : List Seg), ([] : List Seg)⟩ : Device)] : List Device).length 1, .slice none 0 0, .int .i64 0, .int .i64 0, .int .i64 0, .int .i64 0, .slice none 0 0, .int .i64 (w64 ((w64 (1 + y1)) + 2))] ⟨rfl, rfl, rfl⟩ rfl rfl rfl rfl rfl rfl rfl rfl ?_
 intro w5 x5 h11
 have h12 : Box w5.heap b3 61 [.slice (some ⟨b2, 0, none⟩) ([(⟨w64 ((w64 (1 + y1)) + 1), 20, ([] : List Seg), ([] : List Seg)⟩ : Device)] : List Device).length 1, .slice none 0 0, .int .i64 0, .int .i64 0, .int .i64 0, .int .i64 0, .slice none 0 0, .int .i64 (w64 ((w64 (1 + y1)) + 2))] := h11
 have sx5 := x5.size
 refine RW.done ?_
 refine NW.next ?_
 refine CW.seq ?_
 refine CW.lex [.W, .W, .W, .X, .W, .W, .W, .X, .M] rfl ?_
 refine RW.pure tabOk 3 rfl ?_
 refine RW.buildSlice (cs := [.int .i64 (w64 ((w64 (1 + y1)) + 1)), .int .i64 20, .slice none 0 0, .slice none 0 0]) tabOk (.inl rfl) ⟨rfl, rfl, rfl, rfl⟩ rfl rfl rfl rfl rfl rfl rfl ?_
 intro b4 w6 x6 l4 h13
 have sx6 := x6.size
 have ltb4 := h13.lt
 refine RW.pure tabOk 3 rfl ?_
 refine RW.alloc tabOk (.inl rfl) ⟨rfl, rfl, rfl, rfl⟩ rfl rfl ?_
 intro b5 w7 x7 l5 h14
 have sx7 := x7.size
 have ltb5 := h14.lt
 have h15 := h13.ext x7
 have h16 : Ow kDeviceO 67 w7.heap (okL [(w5.heap.size, some w6.heap.size, some 67)]) (okL []) (some ⟨b4, 0, none⟩) 1 ([(⟨w64 ((w64 (1 + y1)) + 1), 20, ([] : List Seg), ([] : List Seg)⟩ : Device)] : List Device) := Ow.of_box h15 (.inl ⟨l4, ltb4, rfl⟩) (Nat.le_of_ble_eq_true rfl) (Ch.cons (d := kDeviceO) (cs := [.int .i64 (w64 ((w64 (1 + y1)) + 1)), .int .i64 20, .slice none 0 0, .slice none 0 0]) (x := (⟨w64 ((w64 (1 + y1)) + 1), 20, ([] : List Seg), ([] : List Seg)⟩ : Device)) (kDeviceO_mk (⟨w64 ((w64 (1 + y1)) + 1), 20, ([] : List Seg), ([] : List Seg)⟩ : Device) Ow.nil Ow.nil) Ch.nil)
 refine RW.storeBox tabOk h14 [.slice (some ⟨b4, 0, none⟩) ([(⟨w64 ((w64 (1 + y1)) + 1), 20, ([] : List Seg), ([] : List Seg)⟩ : Device)] : List Device).length 1, .slice none 0 0, .int .i64 0, .int .i64 0, .int .i64 0, .int .i64 0, .slice none 0 0, .int .i64 (w64 ((w64 (1 + y1)) + 2))] ⟨rfl, rfl, rfl⟩ rfl rfl rfl rfl rfl rfl rfl rfl ?_
 intro w8 x8 h17
 have h18 : Box w8.heap b5 61 [.slice (some ⟨b4, 0, none⟩) ([(⟨w64 ((w64 (1 + y1)) + 1), 20, ([] : List Seg), ([] : List Seg)⟩ : Device)] : List Device).length 1, .slice none 0 0, .int .i64 0, .int .i64 0, .int .i64 0, .int .i64 0, .slice none 0 0, .int .i64 (w64 ((w64 (1 + y1)) + 2))] := h17
 have sx8 := x8.size
 refine RW.done ?_
 refine NW.next ?_
 refine CW.seq ?_
 refine CW.seq ?_
 refine CW.lex [.W] rfl ?_
 refine RW.pure tabOk 1 rfl ?_
 refine RW.done ?_
 refine NW.next ?_
 refine CW.block ?_
 refine CW.loop (fun n1 a w9 => ∃ (it6_0 : Int) (lb3_1_0 : List Table) (Ab3_1_0 : Option Addr) (cb3_1_0 : Nat) (lb5_1_0 : List Table) (Ab5_1_0 : Option Addr) (cb5_1_0 : Nat), Sat 110 [(3, .int .i64 (w64 (1 + y1))), (4, .pointer (some ⟨b3, 0, none⟩)), (5, .pointer (some ⟨b5, 0, none⟩)), (6, .int .i64 it6_0)] a ∧ w8.heap.size ≤ w9.heap.size ∧ Ow kTableO 24 w9.heap (okL [(blk (w8.heap.size) Ab3_1_0 cb3_1_0, some (blk (w8.heap.size) Ab3_1_0 cb3_1_0 + min cb3_1_0 1), some 24)]) (okL [(w8.heap.size, none, some 45)]) Ab3_1_0 cb3_1_0 lb3_1_0 ∧ Ow kDeviceO 67 w9.heap (okL [(w2.heap.size, some w3.heap.size, some 67)]) (okL []) (some ⟨b2, 0, none⟩) 1 ([(⟨w64 ((w64 (1 + y1)) + 1), 20, ([] : List Seg), ([] : List Seg)⟩ : Device)] : List Device) ∧ Ow kTableO 24 w9.heap (okL [(blk (w8.heap.size) Ab5_1_0 cb5_1_0, some (blk (w8.heap.size) Ab5_1_0 cb5_1_0 + min cb5_1_0 1), some 24)]) (okL [(w8.heap.size, none, some 45)]) Ab5_1_0 cb5_1_0 lb5_1_0 ∧ Ow kDeviceO 67 w9.heap (okL [(w5.heap.size, some w6.heap.size, some 67)]) (okL []) (some ⟨b4, 0, none⟩) 1 ([(⟨w64 ((w64 (1 + y1)) + 1), 20, ([] : List Seg), ([] : List Seg)⟩ : Device)] : List Device) ∧ Ext w w9 ∧ Box w9.heap b3 61 [.slice (some ⟨b2, 0, none⟩) ([(⟨w64 ((w64 (1 + y1)) + 1), 20, ([] : List Seg), ([] : List Seg)⟩ : Device)] : List Device).length 1, .slice Ab3_1_0 lb3_1_0.length cb3_1_0, .int .i64 0, .int .i64 0, .int .i64 0, .int .i64 0, .slice none 0 0, .int .i64 (w64 ((w64 (1 + y1)) + 2))] ∧ Box w9.heap b5 61 [.slice (some ⟨b4, 0, none⟩) ([(⟨w64 ((w64 (1 + y1)) + 1), 20, ([] : List Seg), ([] : List Seg)⟩ : Device)] : List Device).length 1, .slice Ab5_1_0 lb5_1_0.length cb5_1_0, .int .i64 0, .int .i64 0, .int .i64 0, .int .i64 0, .slice none 0 0, .int .i64 (w64 ((w64 (1 + y1)) + 2))] ∧ w8.heap.size ≤ blk (w8.heap.size) Ab3_1_0 cb3_1_0 ∧ w8.heap.size ≤ blk (w8.heap.size) Ab5_1_0 cb5_1_0 ∧ (blk (w8.heap.size) Ab5_1_0 cb5_1_0 ≠ blk (w8.heap.size) Ab3_1_0 cb3_1_0 ∨ cb5_1_0 = 0 ∨ cb3_1_0 = 0) ∧ hermitagelaw11_ForeDepth.l0 k y1 n1 it6_0 lb3_1_0 lb5_1_0 = some r) k ?_ ?_
 have h19 := (((h10.turnB x5 h8 ⟨.inl (show (67 : Nat) ≠ 61 by decide), trivial⟩ trivial).ext x6).ext x7).turnB x8 h14 ⟨.inl (show (67 : Nat) ≠ 61 by decide), trivial⟩ trivial
 have h20 := h16.turnB x8 h14 ⟨.inl (show (67 : Nat) ≠ 61 by decide), trivial⟩ trivial
 have h21 := Ext.turnB (Ext.trans (Ext.trans (Ext.turnB (Ext.trans (Ext.trans (Ext.trans (Ext.trans x0 x1) x2) x3) x4) x5 (by omega)) x6) x7) x8 (by omega)
 have h22 := ((h12.ext x6).ext x7).turnB x8 (by omega)
 · exact fun a ha => ⟨1, ([] : List Table), none, 0, ([] : List Table), none, 0, ha.sub ⟨rfl, rfl, rfl, rfl, trivial⟩, by omega, Ow.nil, h19, Ow.nil, h20, h21, h22, h18, (by first | omega | (simp only [blk_nil]; omega) | simp [blk_nil]), (by first | omega | (simp only [blk_nil]; omega) | simp [blk_nil]), (by first | omega | (simp only [blk_nil]; omega) | simp [blk_nil]), H⟩
 intro n1 a w9 hI hp
 obtain ⟨it6_0, lb3_1_0, Ab3_1_0, cb3_1_0, lb5_1_0, Ab5_1_0, cb5_1_0, hS, hle, fb3_1_0, gF5_0, fb5_1_0, gF6_0, x0_0, gb3_0, gb5_0, bl0_0, bl1_0, ap0_0, H⟩ := hI
 cases n1 with
 | zero => cases H
 | succ n1 =>
  have tb1 := fb3_1_0.blk_lt (w8.heap.size)
  have tb2 := fb5_1_0.blk_lt (w8.heap.size)
  rw [hermitagelaw11_ForeDepth.l0] at H
  refine CW.go hp hS ?_
  have h23 : Ow kTableO 24 w9.heap (okL [(blk (w8.heap.size) Ab3_1_0 cb3_1_0, some (blk (w8.heap.size) Ab3_1_0 cb3_1_0 + min cb3_1_0 1), some 24)]) (okL [(w8.heap.size, some w9.heap.size, some 45)]) Ab3_1_0 cb3_1_0 lb3_1_0 := fb3_1_0.close
  have h24 : Ow kTableO 24 w9.heap (okL [(blk (w8.heap.size) Ab5_1_0 cb5_1_0, some (blk (w8.heap.size) Ab5_1_0 cb5_1_0 + min cb5_1_0 1), some 24)]) (okL [(w8.heap.size, some w9.heap.size, some 45)]) Ab5_1_0 cb5_1_0 lb5_1_0 := fb5_1_0.close
  refine CW.seq ?_
  refine CW.seq ?_
  refine CW.lex [.W, .W, .W] rfl ?_
  refine RW.pure tabOk 3 rfl ?_
  refine RW.done ?_
  refine NW.next ?_
  by_cases c1 : it6_0 ≤ (w64 (1 + y1))
  ·
   rw [if_pos c1] at H
   refine CW.cond_t rfl (decide_eq_true c1) ?_
   refine CW.skip ?_
   refine NW.next ?_
   refine CW.seq ?_
   refine CW.block ?_
   refine CW.seq ?_
   refine CW.lex [.W, .L, .W, .W, .W, .W, .X, .W, .X, .M, .W, .M] rfl ?_
   refine RW.pure tabOk 1 rfl ?_
   refine RW.load tabOk [.slice Ab3_1_0 lb3_1_0.length cb3_1_0] ((gb3_0.at 1).take 1 rfl) ⟨rfl, rfl, rfl, rfl⟩ rfl rfl rfl rfl ?_
   refine RW.pure tabOk 4 rfl ?_
   refine RW.buildSlice (cs := [.int .i64 0, .int .i64 1, .int .i64 (w64 (it6_0 + 1)), .int .i64 0, .int .i64 0]) tabOk (.inl rfl) ⟨rfl, rfl, rfl, rfl⟩ rfl rfl rfl rfl rfl rfl rfl ?_
   intro b6 w10 x9 l6 h25
   have sx9 := x9.size
   have ltb6 := h25.lt
   refine RW.pure tabOk 1 rfl ?_
   refine RW.buildSlice (cs := [.int .i64 it6_0, .int .i64 9, .slice (some ⟨b6, 0, none⟩) 1 1]) tabOk (.inl rfl) ⟨rfl, rfl, rfl, rfl⟩ rfl rfl rfl rfl rfl rfl rfl ?_
   intro b7 w11 x10 l7 h26
   have sx10 := x10.size
   have ltb7 := h26.lt
   have h27 := h25.ext x10
   have h28 : Ow kEntry 45 w11.heap (okL [(w9.heap.size, some w10.heap.size, some 45)]) (okL []) (some ⟨b6, 0, none⟩) 1 ([(⟨0, 1, w64 (it6_0 + 1), 0, 0⟩ : Entry)] : List Entry) := Ow.of_box h27 (.inl ⟨l6, ltb6, rfl⟩) (Nat.le_of_ble_eq_true rfl) (Ch.cons (d := kEntry) (cs := [.int .i64 0, .int .i64 1, .int .i64 (w64 (it6_0 + 1)), .int .i64 0, .int .i64 0]) (x := (⟨0, 1, w64 (it6_0 + 1), 0, 0⟩ : Entry)) (kEntry_mk (⟨0, 1, w64 (it6_0 + 1), 0, 0⟩ : Entry)) Ch.nil)
   have h29 := (h23.ext x9).ext x10
   obtain ⟨g1, H⟩ := guard_some H
   refine RW.append1L (d := kTableO) (v := (⟨it6_0, 9, ([(⟨0, 1, w64 (it6_0 + 1), 0, 0⟩ : Entry)] : List Entry)⟩ : Table)) (l := [(blk (w8.heap.size) Ab3_1_0 cb3_1_0, some (blk (w8.heap.size) Ab3_1_0 cb3_1_0 + min cb3_1_0 1), some 24)]) (li := [(w8.heap.size, some w9.heap.size, some 45)]) (ly := [(w9.heap.size, some w10.heap.size, some 45)]) (xs := lb3_1_0) tabOk h29 h26 (kTableO_mk (⟨it6_0, 9, ([(⟨0, 1, w64 (it6_0 + 1), 0, 0⟩ : Entry)] : List Entry)⟩ : Table) (h28.sub (l' := [(w9.heap.size, some w10.heap.size, some 45)]) (li' := [(w9.heap.size, some w10.heap.size, some 45)]) ⟨(.inl ⟨by omega, by omega, rfl⟩), trivial⟩ trivial)) ⟨⟨.inl (show (45 : Nat) ≠ 24 by decide), trivial⟩, trivial⟩ (by simp only [maxLen]; omega) g1 ⟨rfl, rfl, rfl, rfl⟩ rfl rfl rfl rfl rfl rfl rfl ?_
   intro A5 c_5 w12 x11 h30
   have sx11 := x11.size
   have h31 := h30.close.sub (l' := [(blk (w8.heap.size) Ab3_1_0 cb3_1_0, some (blk (w8.heap.size) Ab3_1_0 cb3_1_0 + min cb3_1_0 1), some 24), (w11.heap.size, some w12.heap.size, some 24)]) (li' := [(w8.heap.size, some w10.heap.size, some 45)]) ⟨(.inl ⟨by omega, by omega, rfl⟩), ⟨(.inr (.inl ⟨by omega, by omega, rfl⟩)), trivial⟩⟩ ⟨(.inl ⟨by omega, by omega, rfl⟩), ⟨(.inl ⟨by omega, by omega, rfl⟩), trivial⟩⟩
   refine RW.pure tabOk 1 rfl ?_
   have h32 := ((gb3_0.ext x9).ext x10).turnL x11 (.inl (by decide))
   refine RW.storeBox tabOk h32 [.slice A5 (lb3_1_0 ++ [(⟨it6_0, 9, ([(⟨0, 1, w64 (it6_0 + 1), 0, 0⟩ : Entry)] : List Entry)⟩ : Table)]).length c_5] ⟨rfl, rfl, rfl⟩ rfl rfl rfl rfl rfl rfl rfl rfl ?_
   intro w13 x12 h33
   have h34 : Box w13.heap b3 61 [.slice (some ⟨b2, 0, none⟩) ([(⟨w64 ((w64 (1 + y1)) + 1), 20, ([] : List Seg), ([] : List Seg)⟩ : Device)] : List Device).length 1, .slice A5 (lb3_1_0 ++ [(⟨it6_0, 9, ([(⟨0, 1, w64 (it6_0 + 1), 0, 0⟩ : Entry)] : List Entry)⟩ : Table)]).length c_5, .int .i64 0, .int .i64 0, .int .i64 0, .int .i64 0, .slice none 0 0, .int .i64 (w64 ((w64 (1 + y1)) + 2))] := h33
   have sx12 := x12.size
   refine RW.done ?_
   refine NW.next ?_
   refine CW.lex [.W, .L, .W, .W, .W, .W, .W, .W, .W, .X, .W, .X, .M, .W, .M] rfl ?_
   refine RW.pure tabOk 1 rfl ?_
   have h35 := (((gb5_0.ext x9).ext x10).turnL x11 (.inl (by decide))).turnB x12 (by omega)
   refine RW.load tabOk [.slice Ab5_1_0 lb5_1_0.length cb5_1_0] ((h35.at 1).take 1 rfl) ⟨rfl, rfl, rfl, rfl⟩ rfl rfl rfl rfl ?_
   refine RW.pure tabOk 2 rfl ?_
   refine RW.div (by decide) ⟨rfl, rfl, rfl, rfl⟩ rfl rfl rfl rfl ?_
   refine RW.pure tabOk 4 rfl ?_
   refine RW.buildSlice (cs := [.int .i64 (it6_0.tmod 9), .int .i64 1, .int .i64 (w64 ((w64 (1 + y1)) + 1)), .int .i64 it6_0, .int .i64 0]) tabOk (.inl rfl) ⟨rfl, rfl, rfl, rfl⟩ rfl rfl rfl rfl rfl rfl rfl ?_
   intro b8 w14 x13 l8 h36
   have sx13 := x13.size
   have ltb8 := h36.lt
   refine RW.pure tabOk 1 rfl ?_
   refine RW.buildSlice (cs := [.int .i64 it6_0, .int .i64 9, .slice (some ⟨b8, 0, none⟩) 1 1]) tabOk (.inl rfl) ⟨rfl, rfl, rfl, rfl⟩ rfl rfl rfl rfl rfl rfl rfl ?_
   intro b9 w15 x14 l9 h37
   have sx14 := x14.size
   have ltb9 := h37.lt
   have h38 := h36.ext x14
   have h39 : Ow kEntry 45 w15.heap (okL [(w13.heap.size, some w14.heap.size, some 45)]) (okL []) (some ⟨b8, 0, none⟩) 1 ([(⟨it6_0.tmod 9, 1, w64 ((w64 (1 + y1)) + 1), it6_0, 0⟩ : Entry)] : List Entry) := Ow.of_box h38 (.inl ⟨l8, ltb8, rfl⟩) (Nat.le_of_ble_eq_true rfl) (Ch.cons (d := kEntry) (cs := [.int .i64 (it6_0.tmod 9), .int .i64 1, .int .i64 (w64 ((w64 (1 + y1)) + 1)), .int .i64 it6_0, .int .i64 0]) (x := (⟨it6_0.tmod 9, 1, w64 ((w64 (1 + y1)) + 1), it6_0, 0⟩ : Entry)) (kEntry_mk (⟨it6_0.tmod 9, 1, w64 ((w64 (1 + y1)) + 1), it6_0, 0⟩ : Entry)) Ch.nil)
   have h40 := (((((h24.ext x9).ext x10).turnL x11 ⟨⟨disjE (by omega), trivial⟩, trivial⟩ ⟨⟨.inl (show (45 : Nat) ≠ 24 by decide), trivial⟩, trivial⟩).turnB x12 h32 ⟨.inl (show (24 : Nat) ≠ 61 by decide), trivial⟩ ⟨.inl (show (45 : Nat) ≠ 61 by decide), trivial⟩).ext x13).ext x14
   obtain ⟨g2, H⟩ := guard_some H
   refine RW.append1L (d := kTableO) (v := (⟨it6_0, 9, ([(⟨it6_0.tmod 9, 1, w64 ((w64 (1 + y1)) + 1), it6_0, 0⟩ : Entry)] : List Entry)⟩ : Table)) (l := [(blk (w8.heap.size) Ab5_1_0 cb5_1_0, some (blk (w8.heap.size) Ab5_1_0 cb5_1_0 + min cb5_1_0 1), some 24)]) (li := [(w8.heap.size, some w9.heap.size, some 45)]) (ly := [(w13.heap.size, some w14.heap.size, some 45)]) (xs := lb5_1_0) tabOk h40 h37 (kTableO_mk (⟨it6_0, 9, ([(⟨it6_0.tmod 9, 1, w64 ((w64 (1 + y1)) + 1), it6_0, 0⟩ : Entry)] : List Entry)⟩ : Table) (h39.sub (l' := [(w13.heap.size, some w14.heap.size, some 45)]) (li' := [(w13.heap.size, some w14.heap.size, some 45)]) ⟨(.inl ⟨by omega, by omega, rfl⟩), trivial⟩ trivial)) ⟨⟨.inl (show (45 : Nat) ≠ 24 by decide), trivial⟩, trivial⟩ (by simp only [maxLen]; omega) g2 ⟨rfl, rfl, rfl, rfl⟩ rfl rfl rfl rfl rfl rfl rfl ?_
   intro A6 c_6 w16 x15 h41
   have sx15 := x15.size
   have h42 := h41.close.sub (l' := [(blk (w8.heap.size) Ab5_1_0 cb5_1_0, some (blk (w8.heap.size) Ab5_1_0 cb5_1_0 + min cb5_1_0 1), some 24), (w15.heap.size, some w16.heap.size, some 24)]) (li' := [(w8.heap.size, some w14.heap.size, some 45)]) ⟨(.inl ⟨by omega, by omega, rfl⟩), ⟨(.inr (.inl ⟨by omega, by omega, rfl⟩)), trivial⟩⟩ ⟨(.inl ⟨by omega, by omega, rfl⟩), ⟨(.inl ⟨by omega, by omega, rfl⟩), trivial⟩⟩
   refine RW.pure tabOk 1 rfl ?_
   have h43 := ((h35.ext x13).ext x14).turnL x15 (.inl (by decide))
   refine RW.storeBox tabOk h43 [.slice A6 (lb5_1_0 ++ [(⟨it6_0, 9, ([(⟨it6_0.tmod 9, 1, w64 ((w64 (1 + y1)) + 1), it6_0, 0⟩ : Entry)] : List Entry)⟩ : Table)]).length c_6] ⟨rfl, rfl, rfl⟩ rfl rfl rfl rfl rfl rfl rfl rfl ?_
   intro w17 x16 h44
   have h45 : Box w17.heap b5 61 [.slice (some ⟨b4, 0, none⟩) ([(⟨w64 ((w64 (1 + y1)) + 1), 20, ([] : List Seg), ([] : List Seg)⟩ : Device)] : List Device).length 1, .slice A6 (lb5_1_0 ++ [(⟨it6_0, 9, ([(⟨it6_0.tmod 9, 1, w64 ((w64 (1 + y1)) + 1), it6_0, 0⟩ : Entry)] : List Entry)⟩ : Table)]).length c_6, .int .i64 0, .int .i64 0, .int .i64 0, .int .i64 0, .slice none 0 0, .int .i64 (w64 ((w64 (1 + y1)) + 2))] := h44
   have sx16 := x16.size
   refine RW.done ?_
   refine NW.norm_block (NW.next ?_)
   refine CW.lex [.W, .W, .W] rfl ?_
   refine RW.pure tabOk 3 rfl ?_
   refine RW.done ?_
   have h46 := ((((h31.turnB x12 h32 ⟨.inl (show (24 : Nat) ≠ 61 by decide), ⟨.inl (show (24 : Nat) ≠ 61 by decide), trivial⟩⟩ ⟨.inl (show (45 : Nat) ≠ 61 by decide), trivial⟩).ext x13).ext x14).turnL x15 ⟨⟨disjE (by omega), trivial⟩, ⟨⟨disjE (by omega), trivial⟩, trivial⟩⟩ ⟨⟨.inl (show (45 : Nat) ≠ 24 by decide), trivial⟩, trivial⟩).turnB x16 h43 ⟨.inl (show (24 : Nat) ≠ 61 by decide), ⟨.inl (show (24 : Nat) ≠ 61 by decide), trivial⟩⟩ ⟨.inl (show (45 : Nat) ≠ 61 by decide), trivial⟩
   have h47 := (((((((gF5_0.ext x9).ext x10).turnL x11 ⟨⟨.inl (show (67 : Nat) ≠ 24 by decide), trivial⟩, trivial⟩ trivial).turnB x12 h32 ⟨.inl (show (67 : Nat) ≠ 61 by decide), trivial⟩ trivial).ext x13).ext x14).turnL x15 ⟨⟨.inl (show (67 : Nat) ≠ 24 by decide), trivial⟩, trivial⟩ trivial).turnB x16 h43 ⟨.inl (show (67 : Nat) ≠ 61 by decide), trivial⟩ trivial
   have h48 := h42.turnB x16 h43 ⟨.inl (show (24 : Nat) ≠ 61 by decide), ⟨.inl (show (24 : Nat) ≠ 61 by decide), trivial⟩⟩ ⟨.inl (show (45 : Nat) ≠ 61 by decide), trivial⟩
   have h49 := (((((((gF6_0.ext x9).ext x10).turnL x11 ⟨⟨.inl (show (67 : Nat) ≠ 24 by decide), trivial⟩, trivial⟩ trivial).turnB x12 h32 ⟨.inl (show (67 : Nat) ≠ 61 by decide), trivial⟩ trivial).ext x13).ext x14).turnL x15 ⟨⟨.inl (show (67 : Nat) ≠ 24 by decide), trivial⟩, trivial⟩ trivial).turnB x16 h43 ⟨.inl (show (67 : Nat) ≠ 61 by decide), trivial⟩ trivial
   have h50 := Ext.turnB (Ext.turn (Ext.trans (Ext.trans (Ext.turnB (Ext.turn (Ext.trans (Ext.trans x0_0 x9) x10) x11 ⟨by omega, trivial⟩) x12 (by omega)) x13) x14) x15 ⟨by omega, trivial⟩) x16 (by omega)
   have h51 := (((h34.ext x13).ext x14).turnL x15 (.inl (by decide))).turnB x16 (by omega)
   have tk1 := h46.blk_in (w8.heap.size)
   simp only [okL, inS, or_false, and_true] at tk1
   have tk2 := h48.blk_in (w8.heap.size)
   simp only [okL, inS, or_false, and_true] at tk2
   exact NW.J fun a ha => ⟨n1, Nat.lt_succ_self n1, (w64 (it6_0 + 1)), (lb3_1_0 ++ [(⟨it6_0, 9, ([(⟨0, 1, w64 (it6_0 + 1), 0, 0⟩ : Entry)] : List Entry)⟩ : Table)]), A5, c_5, (lb5_1_0 ++ [(⟨it6_0, 9, ([(⟨it6_0.tmod 9, 1, w64 ((w64 (1 + y1)) + 1), it6_0, 0⟩ : Entry)] : List Entry)⟩ : Table)]), A6, c_6, ha.sub ⟨rfl, rfl, rfl, rfl, trivial⟩, by omega, ((h46.tight (w8.heap.size)).subI ⟨(.inl ⟨by omega, trivial, rfl⟩), trivial⟩), h47, ((h48.tight (w8.heap.size)).subI ⟨(.inl ⟨by omega, trivial, rfl⟩), trivial⟩), h49, h50, h51, h45, (by first | omega | (simp only [blk_nil]; omega) | simp [blk_nil]), (by first | omega | (simp only [blk_nil]; omega) | simp [blk_nil]), (by first | omega | (simp only [blk_nil]; omega) | simp [blk_nil]), H⟩
  ·
   rw [if_neg c1] at H
   refine CW.cond_f rfl (decide_eq_false c1) ?_
   refine CW.exit ?_
   refine NW.exit_then (NW.exit_then (NW.exit_hit ?_))
   refine NW.next ?_
   refine CW.seq ?_
   refine CW.lex [.L, .X, .W, .W, .W, .W, .W] rfl ?_
   refine RW.load tabOk [.slice (some ⟨b2, 0, none⟩) ([(⟨w64 ((w64 (1 + y1)) + 1), 20, ([] : List Seg), ([] : List Seg)⟩ : Device)] : List Device).length 1, .slice Ab3_1_0 lb3_1_0.length cb3_1_0, .int .i64 0, .int .i64 0, .int .i64 0, .int .i64 0, .slice none 0 0, .int .i64 (w64 ((w64 (1 + y1)) + 2))] (gb3_0.at 0) ⟨rfl, rfl, rfl, rfl⟩ rfl rfl rfl rfl ?_
   obtain ⟨y2, h52, H⟩ := bind_some H
   refine RW.callF (.inl rfl) ent24 ⟨rfl, rfl, rfl, rfl⟩ rfl rfl (fore_Depth.calls k (⟨([(⟨w64 ((w64 (1 + y1)) + 1), 20, ([] : List Seg), ([] : List Seg)⟩ : Device)] : List Device), lb3_1_0, (⟨0, 0, (⟨0, 0, ([] : List Entry)⟩ : Table)⟩ : Job), w64 ((w64 (1 + y1)) + 2)⟩ : Pool) (some ⟨b2, 0, none⟩) 1 Ab3_1_0 cb3_1_0 none 0 _ _ (gF5_0.all.to kDevice_ro rfl) gF5_0.len (h23.all.to kTable_ro rfl) h23.len Sl.nil (Nat.le_refl 0) h52) ?_
   rintro _ w18 ⟨rfl, x17⟩
   refine ⟨_, rfl, x17, ?_⟩
   have sx17 := x17.size
   refine RW.pure tabOk 5 rfl ?_
   refine RW.done ?_
   refine NW.next ?_
   refine CW.seq ?_
   refine CW.lex [.L, .X, .W, .W, .W, .W, .W] rfl ?_
   have h53 := gb5_0.ext x17
   refine RW.load tabOk [.slice (some ⟨b4, 0, none⟩) ([(⟨w64 ((w64 (1 + y1)) + 1), 20, ([] : List Seg), ([] : List Seg)⟩ : Device)] : List Device).length 1, .slice Ab5_1_0 lb5_1_0.length cb5_1_0, .int .i64 0, .int .i64 0, .int .i64 0, .int .i64 0, .slice none 0 0, .int .i64 (w64 ((w64 (1 + y1)) + 2))] (h53.at 0) ⟨rfl, rfl, rfl, rfl⟩ rfl rfl rfl rfl ?_
   have h54 := gF6_0.ext x17
   have h55 := h24.ext x17
   obtain ⟨y3, h56, H⟩ := bind_some H
   refine RW.callF (.inl rfl) ent24 ⟨rfl, rfl, rfl, rfl⟩ rfl rfl (fore_Depth.calls k (⟨([(⟨w64 ((w64 (1 + y1)) + 1), 20, ([] : List Seg), ([] : List Seg)⟩ : Device)] : List Device), lb5_1_0, (⟨0, 0, (⟨0, 0, ([] : List Entry)⟩ : Table)⟩ : Job), w64 ((w64 (1 + y1)) + 2)⟩ : Pool) (some ⟨b4, 0, none⟩) 1 Ab5_1_0 cb5_1_0 none 0 _ _ (h54.all.to kDevice_ro rfl) h54.len (h55.all.to kTable_ro rfl) h55.len Sl.nil (Nat.le_refl 0) h56) ?_
   rintro _ w19 ⟨rfl, x18⟩
   refine ⟨_, rfl, x18, ?_⟩
   have sx18 := x18.size
   refine RW.pure tabOk 5 rfl ?_
   refine RW.done ?_
   refine NW.next ?_
   refine CW.seq ?_
   refine CW.lex [.W, .L, .W, .L, .W, .X, .W, .W, .W, .W, .W] rfl ?_
   refine RW.pure tabOk 1 rfl ?_
   have h57 := (gb3_0.ext x17).ext x18
   refine RW.load tabOk [.slice (some ⟨b2, 0, none⟩) ([(⟨w64 ((w64 (1 + y1)) + 1), 20, ([] : List Seg), ([] : List Seg)⟩ : Device)] : List Device).length 1] ((h57.at 0).take 1 rfl) ⟨rfl, rfl, rfl, rfl⟩ rfl rfl rfl rfl ?_
   refine RW.pure tabOk 1 rfl ?_
   refine RW.load tabOk [.int .i64 (w64 ((w64 (1 + y1)) + 2))] (h57.at 7) ⟨rfl, rfl, rfl, rfl⟩ rfl rfl rfl rfl ?_
   refine RW.pure tabOk 1 rfl ?_
   have h58 := (gF5_0.ext x17).ext x18
   obtain ⟨y4, h59, H⟩ := bind_some H
   refine RW.callF (.inl rfl) ent24 ⟨rfl, rfl, rfl, rfl⟩ rfl rfl (fore_Depth.calls k (⟨([(⟨w64 ((w64 (1 + y1)) + 1), 20, ([] : List Seg), ([] : List Seg)⟩ : Device)] : List Device), ([] : List Table), (⟨0, 0, (⟨0, 0, ([] : List Entry)⟩ : Table)⟩ : Job), w64 ((w64 (1 + y1)) + 2)⟩ : Pool) (some ⟨b2, 0, none⟩) 1 none 0 none 0 _ _ (h58.all.to kDevice_ro rfl) h58.len Sl.nil (Nat.le_refl 0) Sl.nil (Nat.le_refl 0) h59) ?_
   rintro _ w20 ⟨rfl, x19⟩
   refine ⟨_, rfl, x19, ?_⟩
   have sx19 := x19.size
   refine RW.pure tabOk 5 rfl ?_
   refine RW.done ?_
   refine NW.next ?_
   refine CW.seq ?_
   refine CW.lex [.W, .X, .W, .W, .W, .X, .W, .W, .W, .W, .X, .W, .W, .W, .W, .W, .W, .W, .W, .W, .W, .W, .W, .W, .W, .W, .W, .X, .W, .W] rfl ?_
   refine RW.pure tabOk 1 rfl ?_
   obtain ⟨y5, h60, H⟩ := bind_some H
   refine RW.callF (.inl rfl) ent25 ⟨rfl, rfl, rfl, rfl⟩ rfl rfl (hermitagelaw11_num.calls y2.2 _ _ h60) ?_
   rintro _ w21 ⟨rfl, x20⟩
   refine ⟨_, rfl, x20, ?_⟩
   have sx20 := x20.size
   refine RW.pure tabOk 2 rfl ?_
   by_cases c2 : y5 = 0
   ·
    rw [if_pos c2] at H
    refine RW.bool 84 (b' := true) (beq_t c2) rfl ?_
    refine RW.pure tabOk 1 rfl ?_
    obtain ⟨y6, h61, H⟩ := bind_some H
    refine RW.callF (.inl rfl) ent25 ⟨rfl, rfl, rfl, rfl⟩ rfl rfl (hermitagelaw11_num.calls y3.2 _ _ h61) ?_
    rintro _ w22 ⟨rfl, x21⟩
    refine ⟨_, rfl, x21, ?_⟩
    have sx21 := x21.size
    refine RW.pure tabOk 3 rfl ?_
    by_cases c3 : y6 = 0
    ·
     rw [if_pos c3] at H
     refine RW.bool 89 (b' := true) (beq_t c3) rfl ?_
     refine RW.pure tabOk 1 rfl ?_
     obtain ⟨y7, h62, H⟩ := bind_some H
     refine RW.callF (.inl rfl) ent25 ⟨rfl, rfl, rfl, rfl⟩ rfl rfl (hermitagelaw11_num.calls y4.2 _ _ h62) ?_
     rintro _ w23 ⟨rfl, x22⟩
     refine ⟨_, rfl, x22, ?_⟩
     have sx22 := x22.size
     refine RW.pure tabOk 3 rfl ?_
     by_cases c4 : y7 = 0
     ·
      rw [if_pos c4] at H
      refine RW.bool 94 (b' := true) (beq_t c4) rfl ?_
      refine RW.pure tabOk 5 rfl ?_
      by_cases c5 : y2.1 = w64 (1 + y1)
      ·
       rw [if_pos c5] at H
       refine RW.bool 99 (b' := true) (beq_t c5) rfl ?_
       refine RW.pure tabOk 4 rfl ?_
       by_cases c6 : y3.1 = 1
       ·
        rw [if_pos c6] at H
        refine RW.bool 103 (b' := true) (beq_t c6) rfl ?_
        refine RW.pure tabOk 4 rfl ?_
        by_cases c7 : y4.1 = 0
        ·
         rw [if_pos c7] at H
         refine RW.bool 107 (b' := true) (beq_t c7) rfl ?_
         obtain ⟨y8, h63, H⟩ := bind_some H
         refine RW.callF (.inl rfl) ent26 ⟨rfl, rfl, rfl, rfl⟩ rfl rfl (hermitagelaw11_wakes.calls k _ _ h63) ?_
         rintro _ w24 ⟨rfl, x23⟩
         refine ⟨_, rfl, x23, ?_⟩
         have sx23 := x23.size
         refine RW.pure tabOk 2 rfl ?_
         refine RW.done ?_
         refine NW.next ?_
         refine CW.ret ?_
         obtain rfl := Option.some.inj H
         have h64 := Ext.trans (Ext.trans (Ext.trans (Ext.trans (Ext.trans (Ext.trans (Ext.trans x0_0 x17) x18) x19) x20) x21) x22) x23
         exact NW.ret1 rfl (by rfl) ⟨rfl, h64⟩
        ·
         rw [if_neg c7] at H
         refine RW.bool 107 (b' := false) (beq_f c7) rfl ?_
         refine RW.pure tabOk 3 rfl ?_
         refine RW.done ?_
         refine NW.next ?_
         refine CW.ret ?_
         obtain rfl := Option.some.inj H
         have h65 := Ext.trans (Ext.trans (Ext.trans (Ext.trans (Ext.trans (Ext.trans x0_0 x17) x18) x19) x20) x21) x22
         exact NW.ret1 rfl (by rfl) ⟨rfl, h65⟩
       ·
        rw [if_neg c6] at H
        refine RW.bool 103 (b' := false) (beq_f c6) rfl ?_
        refine RW.pure tabOk 7 rfl ?_
        refine RW.done ?_
        refine NW.next ?_
        refine CW.ret ?_
        obtain rfl := Option.some.inj H
        have h66 := Ext.trans (Ext.trans (Ext.trans (Ext.trans (Ext.trans (Ext.trans x0_0 x17) x18) x19) x20) x21) x22
        exact NW.ret1 rfl (by rfl) ⟨rfl, h66⟩
      ·
       rw [if_neg c5] at H
       refine RW.bool 99 (b' := false) (beq_f c5) rfl ?_
       refine RW.pure tabOk 11 rfl ?_
       refine RW.done ?_
       refine NW.next ?_
       refine CW.ret ?_
       obtain rfl := Option.some.inj H
       have h67 := Ext.trans (Ext.trans (Ext.trans (Ext.trans (Ext.trans (Ext.trans x0_0 x17) x18) x19) x20) x21) x22
       exact NW.ret1 rfl (by rfl) ⟨rfl, h67⟩
     ·
      rw [if_neg c4] at H
      refine RW.bool 94 (b' := false) (beq_f c4) rfl ?_
      refine RW.pure tabOk 16 rfl ?_
      refine RW.done ?_
      refine NW.next ?_
      refine CW.ret ?_
      obtain rfl := Option.some.inj H
      have h68 := Ext.trans (Ext.trans (Ext.trans (Ext.trans (Ext.trans (Ext.trans x0_0 x17) x18) x19) x20) x21) x22
      exact NW.ret1 rfl (by rfl) ⟨rfl, h68⟩
    ·
     rw [if_neg c3] at H
     refine RW.bool 89 (b' := false) (beq_f c3) rfl ?_
     refine RW.pure tabOk 21 rfl ?_
     refine RW.done ?_
     refine NW.next ?_
     refine CW.ret ?_
     obtain rfl := Option.some.inj H
     have h69 := Ext.trans (Ext.trans (Ext.trans (Ext.trans (Ext.trans x0_0 x17) x18) x19) x20) x21
     exact NW.ret1 rfl (by rfl) ⟨rfl, h69⟩
   ·
    rw [if_neg c2] at H
    refine RW.bool 84 (b' := false) (beq_f c2) rfl ?_
    refine RW.pure tabOk 26 rfl ?_
    refine RW.done ?_
    refine NW.next ?_
    refine CW.ret ?_
    obtain rfl := Option.some.inj H
    have h70 := Ext.trans (Ext.trans (Ext.trans (Ext.trans x0_0 x17) x18) x19) x20
    exact NW.ret1 rfl (by rfl) ⟨rfl, h70⟩

set_option maxHeartbeats 4000000 in
set_option maxRecDepth 100000 in
theorem hermitagelaw0_DevicesWeight.calls (k : Nat) (A1 : Option Addr) (c_1 : Nat) (p0 : List Device) (r : Int) (w : World) (hs1 : Sl kDeviceR w.heap okAll A1 p0) (hl1 : p0.length ≤ c_1) (H : hermitagelaw0_DevicesWeight.f k p0 = some r) :
    Calls Try.prog 94 #[.slice A1 p0.length c_1] w fun e w' => e = .returned (.int .i64 r) ∧ Ext w w' := by
 have h1 : Sl kDeviceR w.heap (okL [(0, some w.heap.size, none)]) A1 p0 := hs1.old _ rfl
 have x0 : Ext w w := Upd.refl _ w
 unfold hermitagelaw0_DevicesWeight.f at H
 refine calls_start Try.func94 rfl 33 rfl [.slice A1 p0.length c_1] rfl ?_
 refine CW.seq ?_
 refine CW.lex [.W] rfl ?_
 refine RW.pure tabOk 1 rfl ?_
 refine RW.done ?_
 refine NW.next ?_
 refine CW.seq ?_
 refine CW.lex [.W, .W, .W] rfl ?_
 refine RW.pure tabOk 3 rfl ?_
 refine RW.done ?_
 refine NW.next ?_
 refine CW.seq ?_
 refine CW.seq ?_
 refine CW.lex [.W] rfl ?_
 refine RW.pure tabOk 1 rfl ?_
 refine RW.done ?_
 refine NW.next ?_
 refine CW.block ?_
 refine CW.loop (fun n1 a w1 => ∃ (it3_0 : Int) (it4_0 : Int), Sat 33 [(0, .slice A1 p0.length c_1), (3, .int .i64 it3_0), (4, .int .i64 it4_0)] a ∧ w.heap.size ≤ w1.heap.size ∧ Sl kDeviceR w1.heap (okL [(0, some w.heap.size, none)]) A1 p0 ∧ Ext w w1 ∧ hermitagelaw0_DevicesWeight.l0 p0 n1 it3_0 it4_0 = some r) k ?_ ?_
 · exact fun a ha => ⟨(p0.length : Int), 0, ha.sub ⟨rfl, rfl, rfl, trivial⟩, by omega, h1, x0, H⟩
 intro n1 a w1 hI hp
 obtain ⟨it3_0, it4_0, hS, hle, gF1_0, x0_0, H⟩ := hI
 cases n1 with
 | zero => cases H
 | succ n1 =>
  rw [hermitagelaw0_DevicesWeight.l0] at H
  refine CW.go hp hS ?_
  refine CW.seq ?_
  refine CW.seqJ (fun a w2 => ∃ (bt14_1 : Bool), Sat 33 [(0, .slice A1 p0.length c_1), (3, .int .i64 it3_0), (4, .int .i64 it4_0), (14, .bool bt14_1)] a ∧ w1.heap.size ≤ w2.heap.size ∧ Sl kDeviceR w2.heap (okL [(0, some w.heap.size, none)]) A1 p0 ∧ Ext w w2 ∧ hermitagelaw0_DevicesWeight.j0 p0 it3_0 it4_0 (hermitagelaw0_DevicesWeight.l0 p0 n1) bt14_1 = some r) ?_ ?_
  ·
   refine CW.lex [.W, .W, .W, .W, .W, .W, .W, .W] rfl ?_
   refine RW.pure tabOk 5 rfl ?_
   by_cases c1 : it4_0 < (p0.length : Int)
   ·
    rw [if_pos c1] at H
    refine RW.bool 11 (b' := true) (decide_eq_true c1) rfl ?_
    refine RW.pure tabOk 3 rfl ?_
    refine RW.done ?_
    exact NW.J fun a ha => ⟨(decide (it3_0 < 1048576)), ha.sub ⟨rfl, rfl, rfl, rfl, trivial⟩, by omega, gF1_0, x0_0, H⟩
   ·
    rw [if_neg c1] at H
    refine RW.bool 11 (b' := false) (decide_eq_false c1) rfl ?_
    refine RW.pure tabOk 3 rfl ?_
    refine RW.done ?_
    exact NW.J fun a ha => ⟨false, ha.sub ⟨rfl, rfl, rfl, rfl, trivial⟩, by omega, gF1_0, x0_0, H⟩
  intro a w2 hJ hp
  obtain ⟨bt14_1, hS, hle, gF1_1, x0_1, H⟩ := hJ
  unfold hermitagelaw0_DevicesWeight.j0 at H
  refine CW.go hp hS ?_
  by_cases c2 : bt14_1 = true
  ·
   rw [if_pos c2] at H
   refine CW.cond_t rfl (c2) ?_
   refine CW.skip ?_
   refine NW.next ?_
   refine CW.seq ?_
   refine CW.block ?_
   refine CW.ord [0, 0, 0, 6, 14, 30, 62, 127, 0, 0, 768, 1792, 3840, 7936, 16383, 32767] (ofL [(0, .W), (1, .W), (2, .W), (3, .W), (4, .W), (8, .W), (9, .W), (10, .W), (11, .W), (5, .L), (6, .W), (7, .W), (12, .L), (13, .W), (14, .W), (15, .W)] .nil) mixed (by kernel_rfl) ?_
   intro w3 x1
   have sx1 := x1.size
   refine RW.pure tabOk 3 rfl ?_
   obtain ⟨g1, H⟩ := guard_some H
   have h2 := gF1_1.ext x1
   obtain ⟨ad1, A2, c_2, A3, c_3, e1, a1, l1, h3, l2, h4⟩ := kDeviceR_at h2 g1.1 g1.2
   refine RW.index tabOk g1.1 g1.2 e1 ⟨rfl, rfl, rfl, rfl⟩ rfl rfl rfl rfl rfl rfl ?_
   refine RW.pure tabOk 3 rfl ?_
   obtain ⟨g2, H⟩ := guard_some H
   obtain ⟨ad2, A4, c_4, A5, c_5, e2, a2, l3, h5, l4, h6⟩ := kDeviceR_at h2 g2.1 g2.2
   refine RW.index tabOk g2.1 g2.2 e2 ⟨rfl, rfl, rfl, rfl⟩ rfl rfl rfl rfl rfl rfl ?_
   refine RW.pure tabOk 1 rfl ?_
   refine RW.load tabOk [.slice A2 ((rd p0 it4_0).Free).length c_2] ((a1.fld 2).take 1 rfl) ⟨rfl, rfl, rfl, rfl⟩ rfl rfl rfl rfl ?_
   refine RW.pure tabOk 2 rfl ?_
   refine RW.load tabOk [.slice A5 ((rd p0 it4_0).Late).length c_5] (a2.fld 3) ⟨rfl, rfl, rfl, rfl⟩ rfl rfl rfl rfl ?_
   refine RW.pure tabOk 3 rfl ?_
   refine RW.done ?_
   refine NW.norm_block (NW.next ?_)
   refine CW.lex [.W, .W, .W] rfl ?_
   refine RW.pure tabOk 3 rfl ?_
   refine RW.done ?_
   have h7 := Ext.trans x0_1 x1
   exact NW.J fun a ha => ⟨n1, Nat.lt_succ_self n1, (w64 ((w64 (it3_0 + (((rd p0 it4_0).Free).length : Int))) + (((rd p0 it4_0).Late).length : Int))), (w64 (it4_0 + 1)), ha.sub ⟨rfl, rfl, rfl, trivial⟩, by omega, h2, h7, H⟩
  ·
   rw [if_neg c2] at H
   refine CW.cond_f rfl (bool_f c2) ?_
   refine CW.exit ?_
   refine NW.exit_then (NW.exit_then (NW.exit_hit ?_))
   refine NW.next ?_
   refine CW.seq ?_
   refine CW.lex [.W, .W] rfl ?_
   refine RW.pure tabOk 2 rfl ?_
   refine RW.done ?_
   refine NW.next ?_
   refine CW.ret ?_
   obtain rfl := Option.some.inj H
   exact NW.ret1 rfl (by rfl) ⟨rfl, x0_1⟩

set_option maxHeartbeats 4000000 in
set_option maxRecDepth 100000 in
theorem hermitagelaw0_PoolWeight.calls (k : Nat) (p0 : Pool) (A1 : Option Addr) (c_1 : Nat) (A2 : Option Addr) (c_2 : Nat) (A3 : Option Addr) (c_3 : Nat) (r : Int) (w : World) (hs1 : Sl kDeviceR w.heap okAll A1 p0.Devices) (hl1 : p0.Devices.length ≤ c_1) (hs2 : Sl kTableR w.heap okAll A2 p0.Tables) (hl2 : p0.Tables.length ≤ c_2) (hs3 : Sl kEntry w.heap okAll A3 p0.Job.Table.List_) (hl3 : p0.Job.Table.List_.length ≤ c_3) (H : hermitagelaw0_PoolWeight.f k p0 = some r) :
    Calls Try.prog 66 #[.agg #[.slice A1 p0.Devices.length c_1, .slice A2 p0.Tables.length c_2, .int .i64 p0.Job.Dev, .int .i64 p0.Job.At, .int .i64 p0.Job.Table.Dev, .int .i64 p0.Job.Table.Size, .slice A3 p0.Job.Table.List_.length c_3, .int .i64 p0.Next]] w fun e w' => e = .returned (.int .i64 r) ∧ Ext w w' := by
 have h1 : Sl kDeviceR w.heap (okL [(0, some w.heap.size, none)]) A1 p0.Devices := hs1.old _ rfl
 have h2 : Sl kTableR w.heap (okL [(0, some w.heap.size, none)]) A2 p0.Tables := hs2.old _ rfl
 have h3 : Sl kEntry w.heap (okL [(0, some w.heap.size, none)]) A3 p0.Job.Table.List_ := hs3.old _ rfl
 have x0 : Ext w w := Upd.refl _ w
 unfold hermitagelaw0_PoolWeight.f at H
 refine calls_start Try.func66 rfl 39 rfl [.agg #[.slice A1 p0.Devices.length c_1, .slice A2 p0.Tables.length c_2, .int .i64 p0.Job.Dev, .int .i64 p0.Job.At, .int .i64 p0.Job.Table.Dev, .int .i64 p0.Job.Table.Size, .slice A3 p0.Job.Table.List_.length c_3, .int .i64 p0.Next]] rfl ?_
 refine CW.seq ?_
 refine CW.lex [.X, .W] rfl ?_
 refine RW.box (cs := [.slice A1 p0.Devices.length c_1, .slice A2 p0.Tables.length c_2, .int .i64 p0.Job.Dev, .int .i64 p0.Job.At, .int .i64 p0.Job.Table.Dev, .int .i64 p0.Job.Table.Size, .slice A3 p0.Job.Table.List_.length c_3, .int .i64 p0.Next]) (.inl rfl) ⟨rfl, rfl, rfl, rfl⟩ rfl rfl rfl ?_
 intro b1 w1 x1 l1 h4
 have sx1 := x1.size
 have ltb1 := h4.lt
 refine RW.pure tabOk 1 rfl ?_
 refine RW.done ?_
 refine NW.next ?_
 refine CW.seq ?_
 refine CW.ord [0, 1, 3, 0, 8, 24, 63, 0, 128, 384, 896, 1920, 4095, 8191] (ofL [(0, .W), (3, .W), (7, .W), (8, .W), (9, .W), (1, .L), (4, .L), (5, .W), (10, .L), (11, .W), (2, .X), (6, .W), (12, .W), (13, .W)] .nil) mixed (by kernel_rfl) ?_
 intro w2 x2
 have sx2 := x2.size
 refine RW.pure tabOk 5 rfl ?_
 have h5 := h4.ext x2
 refine RW.load tabOk [.slice A1 p0.Devices.length c_1] ((h5.at 0).take 1 rfl) ⟨rfl, rfl, rfl, rfl⟩ rfl rfl rfl rfl ?_
 refine RW.load tabOk [.slice A2 p0.Tables.length c_2] ((h5.at 1).take 1 rfl) ⟨rfl, rfl, rfl, rfl⟩ rfl rfl rfl rfl ?_
 refine RW.pure tabOk 1 rfl ?_
 refine RW.load tabOk [.slice A3 p0.Job.Table.List_.length c_3] ((h5.at 6).take 1 rfl) ⟨rfl, rfl, rfl, rfl⟩ rfl rfl rfl rfl ?_
 refine RW.pure tabOk 1 rfl ?_
 have h6 := (h1.ext x1).ext x2
 obtain ⟨y1, h7, H⟩ := bind_some H
 refine RW.callF (.inl rfl) ent94 ⟨rfl, rfl, rfl, rfl⟩ rfl rfl (hermitagelaw0_DevicesWeight.calls k A1 c_1 p0.Devices _ _ h6.all hl1 h7) ?_
 rintro _ w3 ⟨rfl, x3⟩
 refine ⟨_, rfl, x3, ?_⟩
 have sx3 := x3.size
 refine RW.pure tabOk 3 rfl ?_
 refine RW.done ?_
 refine NW.next ?_
 refine CW.seq ?_
 refine CW.seq ?_
 refine CW.lex [.W] rfl ?_
 refine RW.pure tabOk 1 rfl ?_
 refine RW.done ?_
 refine NW.next ?_
 refine CW.block ?_
 refine CW.loop (fun n1 a w4 => ∃ (it3_0 : Int) (it4_0 : Int), Sat 39 [(1, .pointer (some ⟨b1, 0, none⟩)), (3, .int .i64 it3_0), (4, .int .i64 it4_0)] a ∧ w3.heap.size ≤ w4.heap.size ∧ Sl kDeviceR w4.heap (okL [(0, some w.heap.size, none)]) A1 p0.Devices ∧ Sl kTableR w4.heap (okL [(0, some w.heap.size, none)]) A2 p0.Tables ∧ Sl kEntry w4.heap (okL [(0, some w.heap.size, none)]) A3 p0.Job.Table.List_ ∧ Ext w w4 ∧ Box w4.heap b1 61 [.slice A1 p0.Devices.length c_1, .slice A2 p0.Tables.length c_2, .int .i64 p0.Job.Dev, .int .i64 p0.Job.At, .int .i64 p0.Job.Table.Dev, .int .i64 p0.Job.Table.Size, .slice A3 p0.Job.Table.List_.length c_3, .int .i64 p0.Next] ∧ hermitagelaw0_PoolWeight.l0 p0 n1 it3_0 it4_0 = some r) k ?_ ?_
 have h8 := h6.ext x3
 have h9 := ((h2.ext x1).ext x2).ext x3
 have h10 := ((h3.ext x1).ext x2).ext x3
 have h11 := Ext.trans (Ext.trans (Ext.trans x0 x1) x2) x3
 have h12 := h5.ext x3
 · exact fun a ha => ⟨(w64 ((w64 (y1 + (p0.Tables.length : Int))) + (p0.Job.Table.List_.length : Int))), 0, ha.sub ⟨rfl, rfl, rfl, trivial⟩, by omega, h8, h9, h10, h11, h12, H⟩
 intro n1 a w4 hI hp
 obtain ⟨it3_0, it4_0, hS, hle, gF1_0, gF2_0, gF3_0, x0_0, gb1_0, H⟩ := hI
 cases n1 with
 | zero => cases H
 | succ n1 =>
  rw [hermitagelaw0_PoolWeight.l0] at H
  refine CW.go hp hS ?_
  refine CW.seq ?_
  refine CW.seqJ (fun a w5 => ∃ (bt26_1 : Bool), Sat 39 [(1, .pointer (some ⟨b1, 0, none⟩)), (3, .int .i64 it3_0), (4, .int .i64 it4_0), (26, .bool bt26_1)] a ∧ w4.heap.size ≤ w5.heap.size ∧ Sl kDeviceR w5.heap (okL [(0, some w.heap.size, none)]) A1 p0.Devices ∧ Sl kTableR w5.heap (okL [(0, some w.heap.size, none)]) A2 p0.Tables ∧ Sl kEntry w5.heap (okL [(0, some w.heap.size, none)]) A3 p0.Job.Table.List_ ∧ Ext w w5 ∧ Box w5.heap b1 61 [.slice A1 p0.Devices.length c_1, .slice A2 p0.Tables.length c_2, .int .i64 p0.Job.Dev, .int .i64 p0.Job.At, .int .i64 p0.Job.Table.Dev, .int .i64 p0.Job.Table.Size, .slice A3 p0.Job.Table.List_.length c_3, .int .i64 p0.Next] ∧ hermitagelaw0_PoolWeight.j0 p0 it3_0 it4_0 (hermitagelaw0_PoolWeight.l0 p0 n1) bt26_1 = some r) ?_ ?_
  ·
   refine CW.lex [.W, .W, .L, .W, .W, .W, .W, .W, .W] rfl ?_
   refine RW.pure tabOk 2 rfl ?_
   refine RW.load tabOk [.slice A2 p0.Tables.length c_2] ((gb1_0.at 1).take 1 rfl) ⟨rfl, rfl, rfl, rfl⟩ rfl rfl rfl rfl ?_
   refine RW.pure tabOk 3 rfl ?_
   by_cases c1 : it4_0 < (p0.Tables.length : Int)
   ·
    rw [if_pos c1] at H
    refine RW.bool 23 (b' := true) (decide_eq_true c1) rfl ?_
    refine RW.pure tabOk 3 rfl ?_
    refine RW.done ?_
    exact NW.J fun a ha => ⟨(decide (it3_0 < 1048576)), ha.sub ⟨rfl, rfl, rfl, rfl, trivial⟩, by omega, gF1_0, gF2_0, gF3_0, x0_0, gb1_0, H⟩
   ·
    rw [if_neg c1] at H
    refine RW.bool 23 (b' := false) (decide_eq_false c1) rfl ?_
    refine RW.pure tabOk 3 rfl ?_
    refine RW.done ?_
    exact NW.J fun a ha => ⟨false, ha.sub ⟨rfl, rfl, rfl, rfl, trivial⟩, by omega, gF1_0, gF2_0, gF3_0, x0_0, gb1_0, H⟩
  intro a w5 hJ hp
  obtain ⟨bt26_1, hS, hle, gF1_1, gF2_1, gF3_1, x0_1, gb1_1, H⟩ := hJ
  unfold hermitagelaw0_PoolWeight.j0 at H
  refine CW.go hp hS ?_
  by_cases c2 : bt26_1 = true
  ·
   rw [if_pos c2] at H
   refine CW.cond_t rfl (c2) ?_
   refine CW.skip ?_
   refine NW.next ?_
   refine CW.seq ?_
   refine CW.block ?_
   refine CW.lex [.W, .W, .L, .W, .W, .W, .L, .W, .W, .W] rfl ?_
   refine RW.pure tabOk 2 rfl ?_
   refine RW.load tabOk [.slice A2 p0.Tables.length c_2] ((gb1_1.at 1).take 1 rfl) ⟨rfl, rfl, rfl, rfl⟩ rfl rfl rfl rfl ?_
   refine RW.pure tabOk 1 rfl ?_
   obtain ⟨g1, H⟩ := guard_some H
   obtain ⟨ad1, A4, c_4, e1, a1, l2, h13⟩ := kTableR_at gF2_1 g1.1 g1.2
   refine RW.index tabOk g1.1 g1.2 e1 ⟨rfl, rfl, rfl, rfl⟩ rfl rfl rfl rfl rfl rfl ?_
   refine RW.pure tabOk 1 rfl ?_
   refine RW.load tabOk [.slice A4 ((rd p0.Tables it4_0).List_).length c_4] (a1.fld 2) ⟨rfl, rfl, rfl, rfl⟩ rfl rfl rfl rfl ?_
   refine RW.pure tabOk 3 rfl ?_
   refine RW.done ?_
   refine NW.norm_block (NW.next ?_)
   refine CW.lex [.W, .W, .W] rfl ?_
   refine RW.pure tabOk 3 rfl ?_
   refine RW.done ?_
   exact NW.J fun a ha => ⟨n1, Nat.lt_succ_self n1, (w64 (it3_0 + (((rd p0.Tables it4_0).List_).length : Int))), (w64 (it4_0 + 1)), ha.sub ⟨rfl, rfl, rfl, trivial⟩, by omega, gF1_1, gF2_1, gF3_1, x0_1, gb1_1, H⟩
  ·
   rw [if_neg c2] at H
   refine CW.cond_f rfl (bool_f c2) ?_
   refine CW.exit ?_
   refine NW.exit_then (NW.exit_then (NW.exit_hit ?_))
   refine NW.next ?_
   refine CW.seq ?_
   refine CW.lex [.W, .W] rfl ?_
   refine RW.pure tabOk 2 rfl ?_
   refine RW.done ?_
   refine NW.next ?_
   refine CW.ret ?_
   obtain rfl := Option.some.inj H
   exact NW.ret1 rfl (by rfl) ⟨rfl, x0_1⟩

set_option maxHeartbeats 4000000 in
set_option maxRecDepth 100000 in
theorem hermitagelaw10_Heavy.calls (k : Nat) (p0 : hermitagelaw10Script) (A1 : Option Addr) (c_1 : Nat) (A2 : Option Addr) (c_2 : Nat) (A3 : Option Addr) (c_3 : Nat) (A4 : Option Addr) (c_4 : Nat) (r : Bool) (w : World) (hs1 : Sl kDeviceR w.heap okAll A1 p0.P.Devices) (hl1 : p0.P.Devices.length ≤ c_1) (hs2 : Sl kTableR w.heap okAll A2 p0.P.Tables) (hl2 : p0.P.Tables.length ≤ c_2) (hs3 : Sl kEntry w.heap okAll A3 p0.P.Job.Table.List_) (hl3 : p0.P.Job.Table.List_.length ≤ c_3) (hs4 : Sl khermitagelaw10ActR w.heap okAll A4 p0.A) (hl4 : p0.A.length ≤ c_4) (H : hermitagelaw10_Heavy.f k p0 = some r) :
    Calls Try.prog 27 #[.agg #[.slice A1 p0.P.Devices.length c_1, .slice A2 p0.P.Tables.length c_2, .int .i64 p0.P.Job.Dev, .int .i64 p0.P.Job.At, .int .i64 p0.P.Job.Table.Dev, .int .i64 p0.P.Job.Table.Size, .slice A3 p0.P.Job.Table.List_.length c_3, .int .i64 p0.P.Next, .slice A4 p0.A.length c_4]] w fun e w' => e = .returned (.bool r) ∧ Ext w w' := by
 have h1 : Sl kDeviceR w.heap (okL [(0, some w.heap.size, none)]) A1 p0.P.Devices := hs1.old _ rfl
 have h2 : Sl kTableR w.heap (okL [(0, some w.heap.size, none)]) A2 p0.P.Tables := hs2.old _ rfl
 have h3 : Sl kEntry w.heap (okL [(0, some w.heap.size, none)]) A3 p0.P.Job.Table.List_ := hs3.old _ rfl
 have h4 : Sl khermitagelaw10ActR w.heap (okL [(0, some w.heap.size, none)]) A4 p0.A := hs4.old _ rfl
 have x0 : Ext w w := Upd.refl _ w
 unfold hermitagelaw10_Heavy.f at H
 refine calls_start Try.func27 rfl 34 rfl [.agg #[.slice A1 p0.P.Devices.length c_1, .slice A2 p0.P.Tables.length c_2, .int .i64 p0.P.Job.Dev, .int .i64 p0.P.Job.At, .int .i64 p0.P.Job.Table.Dev, .int .i64 p0.P.Job.Table.Size, .slice A3 p0.P.Job.Table.List_.length c_3, .int .i64 p0.P.Next, .slice A4 p0.A.length c_4]] rfl ?_
 refine CW.seq ?_
 refine CW.lex [.X, .W] rfl ?_
 refine RW.box (cs := [.slice A1 p0.P.Devices.length c_1, .slice A2 p0.P.Tables.length c_2, .int .i64 p0.P.Job.Dev, .int .i64 p0.P.Job.At, .int .i64 p0.P.Job.Table.Dev, .int .i64 p0.P.Job.Table.Size, .slice A3 p0.P.Job.Table.List_.length c_3, .int .i64 p0.P.Next, .slice A4 p0.A.length c_4]) (.inl rfl) ⟨rfl, rfl, rfl, rfl⟩ rfl rfl rfl ?_
 intro b1 w1 x1 l1 h5
 have sx1 := x1.size
 have ltb1 := h5.lt
 refine RW.pure tabOk 1 rfl ?_
 refine RW.done ?_
 refine NW.next ?_
 refine CW.seq ?_
 refine CW.ord [0, 1, 3, 0, 8, 24, 63, 127] (ofL [(0, .W), (3, .W), (1, .L), (4, .L), (5, .W), (2, .X), (6, .W), (7, .W)] .nil) mixed (by kernel_rfl) ?_
 intro w2 x2
 have sx2 := x2.size
 refine RW.pure tabOk 2 rfl ?_
 have h6 := h5.ext x2
 refine RW.load tabOk [.slice A1 p0.P.Devices.length c_1, .slice A2 p0.P.Tables.length c_2, .int .i64 p0.P.Job.Dev, .int .i64 p0.P.Job.At, .int .i64 p0.P.Job.Table.Dev, .int .i64 p0.P.Job.Table.Size, .slice A3 p0.P.Job.Table.List_.length c_3, .int .i64 p0.P.Next] ((h6.at 0).take 8 rfl) ⟨rfl, rfl, rfl, rfl⟩ rfl rfl rfl rfl ?_
 refine RW.load tabOk [.slice A4 p0.A.length c_4] (h6.at 8) ⟨rfl, rfl, rfl, rfl⟩ rfl rfl rfl rfl ?_
 refine RW.pure tabOk 1 rfl ?_
 have h7 := (h1.ext x1).ext x2
 have h8 := (h2.ext x1).ext x2
 have h9 := (h3.ext x1).ext x2
 obtain ⟨y1, h10, H⟩ := bind_some H
 refine RW.callF (.inl rfl) ent66 ⟨rfl, rfl, rfl, rfl⟩ rfl rfl (hermitagelaw0_PoolWeight.calls k p0.P A1 c_1 A2 c_2 A3 c_3 _ _ h7.all hl1 h8.all hl2 h9.all hl3 h10) ?_
 rintro _ w3 ⟨rfl, x3⟩
 refine ⟨_, rfl, x3, ?_⟩
 have sx3 := x3.size
 refine RW.pure tabOk 2 rfl ?_
 refine RW.done ?_
 refine NW.next ?_
 refine CW.seq ?_
 refine CW.seq ?_
 refine CW.lex [.W] rfl ?_
 refine RW.pure tabOk 1 rfl ?_
 refine RW.done ?_
 refine NW.next ?_
 refine CW.block ?_
 refine CW.loop (fun n1 a w4 => ∃ (it3_0 : Int) (it4_0 : Int), Sat 34 [(1, .pointer (some ⟨b1, 0, none⟩)), (3, .int .i64 it3_0), (4, .int .i64 it4_0)] a ∧ w3.heap.size ≤ w4.heap.size ∧ Sl kDeviceR w4.heap (okL [(0, some w.heap.size, none)]) A1 p0.P.Devices ∧ Sl kTableR w4.heap (okL [(0, some w.heap.size, none)]) A2 p0.P.Tables ∧ Sl kEntry w4.heap (okL [(0, some w.heap.size, none)]) A3 p0.P.Job.Table.List_ ∧ Sl khermitagelaw10ActR w4.heap (okL [(0, some w.heap.size, none)]) A4 p0.A ∧ Ext w w4 ∧ Box w4.heap b1 64 [.slice A1 p0.P.Devices.length c_1, .slice A2 p0.P.Tables.length c_2, .int .i64 p0.P.Job.Dev, .int .i64 p0.P.Job.At, .int .i64 p0.P.Job.Table.Dev, .int .i64 p0.P.Job.Table.Size, .slice A3 p0.P.Job.Table.List_.length c_3, .int .i64 p0.P.Next, .slice A4 p0.A.length c_4] ∧ hermitagelaw10_Heavy.l0 p0 n1 it3_0 it4_0 = some r) k ?_ ?_
 have h11 := h7.ext x3
 have h12 := h8.ext x3
 have h13 := h9.ext x3
 have h14 := ((h4.ext x1).ext x2).ext x3
 have h15 := Ext.trans (Ext.trans (Ext.trans x0 x1) x2) x3
 have h16 := h6.ext x3
 · exact fun a ha => ⟨(w64 (y1 + (p0.A.length : Int))), 0, ha.sub ⟨rfl, rfl, rfl, trivial⟩, by omega, h11, h12, h13, h14, h15, h16, H⟩
 intro n1 a w4 hI hp
 obtain ⟨it3_0, it4_0, hS, hle, gF1_0, gF2_0, gF3_0, gF4_0, x0_0, gb1_0, H⟩ := hI
 cases n1 with
 | zero => cases H
 | succ n1 =>
  rw [hermitagelaw10_Heavy.l0] at H
  refine CW.go hp hS ?_
  refine CW.seq ?_
  refine CW.seqJ (fun a w5 => ∃ (bt20_1 : Bool), Sat 34 [(1, .pointer (some ⟨b1, 0, none⟩)), (3, .int .i64 it3_0), (4, .int .i64 it4_0), (20, .bool bt20_1)] a ∧ w4.heap.size ≤ w5.heap.size ∧ Sl kDeviceR w5.heap (okL [(0, some w.heap.size, none)]) A1 p0.P.Devices ∧ Sl kTableR w5.heap (okL [(0, some w.heap.size, none)]) A2 p0.P.Tables ∧ Sl kEntry w5.heap (okL [(0, some w.heap.size, none)]) A3 p0.P.Job.Table.List_ ∧ Sl khermitagelaw10ActR w5.heap (okL [(0, some w.heap.size, none)]) A4 p0.A ∧ Ext w w5 ∧ Box w5.heap b1 64 [.slice A1 p0.P.Devices.length c_1, .slice A2 p0.P.Tables.length c_2, .int .i64 p0.P.Job.Dev, .int .i64 p0.P.Job.At, .int .i64 p0.P.Job.Table.Dev, .int .i64 p0.P.Job.Table.Size, .slice A3 p0.P.Job.Table.List_.length c_3, .int .i64 p0.P.Next, .slice A4 p0.A.length c_4] ∧ hermitagelaw10_Heavy.j0 p0 it3_0 it4_0 (hermitagelaw10_Heavy.l0 p0 n1) bt20_1 = some r) ?_ ?_
  ·
   refine CW.lex [.W, .W, .L, .W, .W, .W, .W, .W, .W] rfl ?_
   refine RW.pure tabOk 2 rfl ?_
   refine RW.load tabOk [.slice A4 p0.A.length c_4] (gb1_0.at 8) ⟨rfl, rfl, rfl, rfl⟩ rfl rfl rfl rfl ?_
   refine RW.pure tabOk 3 rfl ?_
   by_cases c1 : it4_0 < (p0.A.length : Int)
   ·
    rw [if_pos c1] at H
    refine RW.bool 17 (b' := true) (decide_eq_true c1) rfl ?_
    refine RW.pure tabOk 3 rfl ?_
    refine RW.done ?_
    exact NW.J fun a ha => ⟨(decide (it3_0 < 1048576)), ha.sub ⟨rfl, rfl, rfl, rfl, trivial⟩, by omega, gF1_0, gF2_0, gF3_0, gF4_0, x0_0, gb1_0, H⟩
   ·
    rw [if_neg c1] at H
    refine RW.bool 17 (b' := false) (decide_eq_false c1) rfl ?_
    refine RW.pure tabOk 3 rfl ?_
    refine RW.done ?_
    exact NW.J fun a ha => ⟨false, ha.sub ⟨rfl, rfl, rfl, rfl, trivial⟩, by omega, gF1_0, gF2_0, gF3_0, gF4_0, x0_0, gb1_0, H⟩
  intro a w5 hJ hp
  obtain ⟨bt20_1, hS, hle, gF1_1, gF2_1, gF3_1, gF4_1, x0_1, gb1_1, H⟩ := hJ
  unfold hermitagelaw10_Heavy.j0 at H
  refine CW.go hp hS ?_
  by_cases c2 : bt20_1 = true
  ·
   rw [if_pos c2] at H
   refine CW.cond_t rfl (c2) ?_
   refine CW.skip ?_
   refine NW.next ?_
   refine CW.seq ?_
   refine CW.block ?_
   refine CW.lex [.W, .W, .L, .W, .W, .W, .L, .W, .W, .W] rfl ?_
   refine RW.pure tabOk 2 rfl ?_
   refine RW.load tabOk [.slice A4 p0.A.length c_4] (gb1_1.at 8) ⟨rfl, rfl, rfl, rfl⟩ rfl rfl rfl rfl ?_
   refine RW.pure tabOk 1 rfl ?_
   obtain ⟨g1, H⟩ := guard_some H
   obtain ⟨ad1, A5, c_5, e1, a1, l2, h17⟩ := khermitagelaw10ActR_at gF4_1 g1.1 g1.2
   refine RW.index tabOk g1.1 g1.2 e1 ⟨rfl, rfl, rfl, rfl⟩ rfl rfl rfl rfl rfl rfl ?_
   refine RW.pure tabOk 1 rfl ?_
   refine RW.load tabOk [.slice A5 ((rd p0.A it4_0).Q).length c_5] (a1.fld 2) ⟨rfl, rfl, rfl, rfl⟩ rfl rfl rfl rfl ?_
   refine RW.pure tabOk 3 rfl ?_
   refine RW.done ?_
   refine NW.norm_block (NW.next ?_)
   refine CW.lex [.W, .W, .W] rfl ?_
   refine RW.pure tabOk 3 rfl ?_
   refine RW.done ?_
   exact NW.J fun a ha => ⟨n1, Nat.lt_succ_self n1, (w64 (it3_0 + (((rd p0.A it4_0).Q).length : Int))), (w64 (it4_0 + 1)), ha.sub ⟨rfl, rfl, rfl, trivial⟩, by omega, gF1_1, gF2_1, gF3_1, gF4_1, x0_1, gb1_1, H⟩
  ·
   rw [if_neg c2] at H
   refine CW.cond_f rfl (bool_f c2) ?_
   refine CW.exit ?_
   refine NW.exit_then (NW.exit_then (NW.exit_hit ?_))
   refine NW.next ?_
   refine CW.seq ?_
   refine CW.lex [.W, .W, .W] rfl ?_
   refine RW.pure tabOk 3 rfl ?_
   refine RW.done ?_
   refine NW.next ?_
   refine CW.ret ?_
   obtain rfl := Option.some.inj H
   exact NW.ret1 rfl (by rfl) ⟨rfl, x0_1⟩

set_option maxHeartbeats 4000000 in
set_option maxRecDepth 100000 in
theorem hermitageref0_CopyEntries.calls (k : Nat) (A1 : Option Addr) (c_1 : Nat) (p0 : List Entry) (r : (List Entry)) (w : World) (hs1 : Sl kEntry w.heap okAll A1 p0) (hl1 : p0.length ≤ c_1) (H : hermitageref0_CopyEntries.f k p0 = some r) :
    Calls Try.prog 51 #[.slice A1 p0.length c_1] w fun e w' => ∃ (B1 : Option Addr) (d1 : Nat), e = .returned (.slice B1 r.length d1) ∧ Ext w w' ∧ Ow kEntry 45 w'.heap (okL [(w.heap.size, none, some 45)]) (okL []) B1 d1 r := by
 have h1 : Sl kEntry w.heap (okL [(0, some w.heap.size, none)]) A1 p0 := hs1.old _ rfl
 have x0 : Ext w w := Upd.refl _ w
 unfold hermitageref0_CopyEntries.f at H
 refine calls_start Try.func51 rfl 19 rfl [.slice A1 p0.length c_1] rfl ?_
 refine CW.seq ?_
 refine CW.lex [.W] rfl ?_
 refine RW.pure tabOk 1 rfl ?_
 refine RW.done ?_
 refine NW.next ?_
 refine CW.seq ?_
 refine CW.lex [.W] rfl ?_
 refine RW.pure tabOk 1 rfl ?_
 refine RW.done ?_
 refine NW.next ?_
 refine CW.seq ?_
 refine CW.seq ?_
 refine CW.lex [.W] rfl ?_
 refine RW.pure tabOk 1 rfl ?_
 refine RW.done ?_
 refine NW.next ?_
 refine CW.block ?_
 refine CW.loop (fun n1 a w1 => ∃ (lt3_0 : List Entry) (At3_0 : Option Addr) (ct3_0 : Nat) (it4_0 : Int), Sat 19 [(0, .slice A1 p0.length c_1), (3, .slice At3_0 lt3_0.length ct3_0), (4, .int .i64 it4_0)] a ∧ w.heap.size ≤ w1.heap.size ∧ Ow kEntry 45 w1.heap (okL [(w.heap.size, none, some 45)]) (okL []) At3_0 ct3_0 lt3_0 ∧ Sl kEntry w1.heap (okL [(0, some w.heap.size, none)]) A1 p0 ∧ Ext w w1 ∧ hermitageref0_CopyEntries.l0 p0 n1 lt3_0 it4_0 = some r) k ?_ ?_
 · exact fun a ha => ⟨([] : List Entry), none, 0, 0, ha.sub ⟨rfl, rfl, rfl, trivial⟩, by omega, Ow.nil, h1, x0, H⟩
 intro n1 a w1 hI hp
 obtain ⟨lt3_0, At3_0, ct3_0, it4_0, hS, hle, ft3_0, gF1_0, x0_0, H⟩ := hI
 cases n1 with
 | zero => cases H
 | succ n1 =>
  rw [hermitageref0_CopyEntries.l0] at H
  refine CW.go hp hS ?_
  have h2 : Ow kEntry 45 w1.heap (okL [(w.heap.size, some w1.heap.size, some 45)]) (okL []) At3_0 ct3_0 lt3_0 := ft3_0.close
  refine CW.seq ?_
  refine CW.seq ?_
  refine CW.lex [.W, .W, .W, .W] rfl ?_
  refine RW.pure tabOk 4 rfl ?_
  refine RW.done ?_
  refine NW.next ?_
  by_cases c1 : it4_0 < (p0.length : Int)
  ·
   rw [if_pos c1] at H
   refine CW.cond_t rfl (decide_eq_true c1) ?_
   refine CW.skip ?_
   refine NW.next ?_
   refine CW.seq ?_
   refine CW.block ?_
   refine CW.lex [.W, .W, .W, .W, .L, .X, .M, .W] rfl ?_
   refine RW.pure tabOk 3 rfl ?_
   obtain ⟨g1, H⟩ := guard_some H
   obtain ⟨ad1, e1, a1⟩ := kEntry_at gF1_0 g1.1 g1.2
   refine RW.index tabOk g1.1 g1.2 e1 ⟨rfl, rfl, rfl, rfl⟩ rfl rfl rfl rfl rfl rfl ?_
   refine RW.load tabOk [.int .i64 ((rd p0 it4_0).From), .int .i64 ((rd p0 it4_0).Len), .int .i64 ((rd p0 it4_0).Dev), .int .i64 ((rd p0 it4_0).To), .int .i64 ((rd p0 it4_0).Stale)] a1 ⟨rfl, rfl, rfl, rfl⟩ rfl rfl rfl rfl ?_
   refine RW.buildSlice (cs := [.int .i64 ((rd p0 it4_0).From), .int .i64 ((rd p0 it4_0).Len), .int .i64 ((rd p0 it4_0).Dev), .int .i64 ((rd p0 it4_0).To), .int .i64 ((rd p0 it4_0).Stale)]) tabOk (.inl rfl) ⟨rfl, rfl, rfl, rfl⟩ rfl rfl rfl rfl rfl rfl rfl ?_
   intro b1 w2 x1 l1 h3
   have sx1 := x1.size
   have ltb1 := h3.lt
   have h4 := h2.ext x1
   obtain ⟨g2, H⟩ := guard_some H
   refine RW.append1L (d := kEntry) (v := (rd p0 it4_0)) (l := [(w.heap.size, some w1.heap.size, some 45)]) (li := []) (ly := []) (xs := lt3_0) tabOk h4 h3 (kEntry_mk (rd p0 it4_0)) trivial (by simp only [maxLen]; omega) g2 ⟨rfl, rfl, rfl, rfl⟩ rfl rfl rfl rfl rfl rfl rfl ?_
   intro A2 c_2 w3 x2 h5
   have sx2 := x2.size
   have h6 := h5.close.sub (l' := [(w.heap.size, some w3.heap.size, some 45)]) (li' := []) ⟨(.inl ⟨by omega, by omega, rfl⟩), ⟨(.inl ⟨by omega, by omega, rfl⟩), trivial⟩⟩ trivial
   refine RW.pure tabOk 1 rfl ?_
   refine RW.done ?_
   refine NW.norm_block (NW.next ?_)
   refine CW.lex [.W, .W, .W] rfl ?_
   refine RW.pure tabOk 3 rfl ?_
   refine RW.done ?_
   have h7 := (gF1_0.ext x1).turnL x2 ⟨⟨.inr (.inl (by omega)), trivial⟩, trivial⟩
   have h8 := Ext.turn (Ext.trans x0_0 x1) x2 ⟨by omega, trivial⟩
   exact NW.J fun a ha => ⟨n1, Nat.lt_succ_self n1, (lt3_0 ++ [(rd p0 it4_0)]), A2, c_2, (w64 (it4_0 + 1)), ha.sub ⟨rfl, rfl, rfl, trivial⟩, by omega, (h6.sub ⟨(.inl ⟨by omega, trivial, rfl⟩), trivial⟩ trivial), h7, h8, H⟩
  ·
   rw [if_neg c1] at H
   refine CW.cond_f rfl (decide_eq_false c1) ?_
   refine CW.exit ?_
   refine NW.exit_then (NW.exit_then (NW.exit_hit ?_))
   refine NW.next ?_
   refine CW.seq ?_
   refine CW.lex [.W, .W] rfl ?_
   refine RW.pure tabOk 2 rfl ?_
   refine RW.done ?_
   refine NW.next ?_
   refine CW.ret ?_
   obtain rfl := Option.some.inj H
   exact NW.ret1 rfl (by rfl) ⟨At3_0, ct3_0, rfl, x0_0, (h2.sub (l' := [(w.heap.size, none, some 45)]) (li' := []) ⟨(.inl ⟨by omega, trivial, rfl⟩), trivial⟩ trivial)⟩

set_option maxHeartbeats 4000000 in
set_option maxRecDepth 100000 in
theorem hermitageref0_CopyTable.calls (k : Nat) (p0 : Table) (A1 : Option Addr) (c_1 : Nat) (r : Table) (w : World) (hs1 : Sl kEntry w.heap okAll A1 p0.List_) (hl1 : p0.List_.length ≤ c_1) (H : hermitageref0_CopyTable.f k p0 = some r) :
    Calls Try.prog 21 #[.agg #[.int .i64 p0.Dev, .int .i64 p0.Size, .slice A1 p0.List_.length c_1]] w fun e w' => ∃ (B1 : Option Addr) (d1 : Nat), e = .returned (.agg #[.int .i64 r.Dev, .int .i64 r.Size, .slice B1 r.List_.length d1]) ∧ Ext w w' ∧ Ow kEntry 45 w'.heap (okL [(w.heap.size, none, some 45)]) (okL []) B1 d1 r.List_ := by
 have h1 : Sl kEntry w.heap (okL [(0, some w.heap.size, none)]) A1 p0.List_ := hs1.old _ rfl
 have x0 : Ext w w := Upd.refl _ w
 unfold hermitageref0_CopyTable.f at H
 refine calls_start Try.func21 rfl 10 rfl [.agg #[.int .i64 p0.Dev, .int .i64 p0.Size, .slice A1 p0.List_.length c_1]] rfl ?_
 refine CW.seq ?_
 refine CW.lex [.X, .X] rfl ?_
 refine RW.box (cs := [.int .i64 p0.Dev, .int .i64 p0.Size, .slice A1 p0.List_.length c_1]) (.inl rfl) ⟨rfl, rfl, rfl, rfl⟩ rfl rfl rfl ?_
 intro b1 w1 x1 l1 h2
 have sx1 := x1.size
 have ltb1 := h2.lt
 refine RW.alloc tabOk (.inl rfl) ⟨rfl, rfl, rfl, rfl⟩ rfl rfl ?_
 intro b2 w2 x2 l2 h3
 have sx2 := x2.size
 have ltb2 := h3.lt
 refine RW.done ?_
 refine NW.next ?_
 refine CW.seq ?_
 refine CW.lex [.L, .X, .M] rfl ?_
 have h4 := h2.ext x2
 refine RW.load tabOk [.int .i64 p0.Dev, .int .i64 p0.Size, .slice A1 p0.List_.length c_1] (h4.at 0) ⟨rfl, rfl, rfl, rfl⟩ rfl rfl rfl rfl ?_
 refine RW.alloc tabOk (.inl rfl) ⟨rfl, rfl, rfl, rfl⟩ rfl rfl ?_
 intro b3 w3 x3 l3 h5
 have sx3 := x3.size
 have ltb3 := h5.lt
 refine RW.storeBox tabOk h5 [.int .i64 p0.Dev, .int .i64 p0.Size, .slice A1 p0.List_.length c_1] ⟨rfl, rfl, rfl⟩ rfl rfl rfl rfl rfl rfl rfl rfl ?_
 intro w4 x4 h6
 have h7 : Box w4.heap b3 24 [.int .i64 p0.Dev, .int .i64 p0.Size, .slice A1 p0.List_.length c_1] := h6
 have sx4 := x4.size
 refine RW.done ?_
 refine NW.next ?_
 refine CW.seq ?_
 refine CW.lex [.W, .L, .X, .W, .M] rfl ?_
 refine RW.pure tabOk 1 rfl ?_
 have h8 := (h4.ext x3).turnB x4 (by omega)
 refine RW.load tabOk [.slice A1 p0.List_.length c_1] (h8.at 2) ⟨rfl, rfl, rfl, rfl⟩ rfl rfl rfl rfl ?_
 have h9 := (((h1.ext x1).ext x2).ext x3).turnB x4 h5 ⟨.inr (by omega), trivial⟩
 obtain ⟨y1, h10, H⟩ := bind_some H
 refine RW.callF (.inl rfl) ent51 ⟨rfl, rfl, rfl, rfl⟩ rfl rfl (hermitageref0_CopyEntries.calls k A1 c_1 p0.List_ _ _ h9.all hl1 h10) ?_
 rintro _ w5 ⟨A2, c_2, rfl, x5, h11⟩
 refine ⟨_, rfl, x5, ?_⟩
 have sx5 := x5.size
 have h12 : Ow kEntry 45 w5.heap (okL [(w4.heap.size, some w5.heap.size, some 45)]) (okL []) A2 c_2 y1 := h11.close
 refine RW.pure tabOk 1 rfl ?_
 have h13 := h7.ext x5
 refine RW.storeBox tabOk h13 [.slice A2 y1.length c_2] ⟨rfl, rfl, rfl⟩ rfl rfl rfl rfl rfl rfl rfl rfl ?_
 intro w6 x6 h14
 have h15 : Box w6.heap b3 24 [.int .i64 p0.Dev, .int .i64 p0.Size, .slice A2 y1.length c_2] := h14
 have sx6 := x6.size
 refine RW.done ?_
 refine NW.next ?_
 refine CW.seq ?_
 refine CW.lex [.L, .M] rfl ?_
 refine RW.load tabOk [.int .i64 p0.Dev, .int .i64 p0.Size, .slice A2 y1.length c_2] (h15.at 0) ⟨rfl, rfl, rfl, rfl⟩ rfl rfl rfl rfl ?_
 have h16 := (((h3.ext x3).turnB x4 (by omega)).ext x5).turnB x6 (by omega)
 refine RW.storeBox tabOk h16 [.int .i64 p0.Dev, .int .i64 p0.Size, .slice A2 y1.length c_2] ⟨rfl, rfl, rfl⟩ rfl rfl rfl rfl rfl rfl rfl rfl ?_
 intro w7 x7 h17
 have h18 : Box w7.heap b2 24 [.int .i64 p0.Dev, .int .i64 p0.Size, .slice A2 y1.length c_2] := h17
 have sx7 := x7.size
 refine RW.done ?_
 refine NW.next ?_
 refine CW.ret ?_
 have h19 := (h12.turnB x6 h13 ⟨.inl (show (45 : Nat) ≠ 24 by decide), trivial⟩ trivial).turnB x7 h16 ⟨.inl (show (45 : Nat) ≠ 24 by decide), trivial⟩ trivial
 obtain rfl := Option.some.inj H
 have h20 := Ext.turnB (Ext.turnB (Ext.trans (Ext.turnB (Ext.trans (Ext.trans (Ext.trans x0 x1) x2) x3) x4 (by omega)) x5) x6 (by omega)) x7 (by omega)
 exact NW.ret1 rfl (resOne_cell tabOk (h18.at 0) rfl rfl rfl) ⟨A2, c_2, rfl, h20, (h19.sub (l' := [(w.heap.size, none, some 45)]) (li' := []) ⟨(.inl ⟨by omega, trivial, rfl⟩), trivial⟩ trivial)⟩

set_option maxHeartbeats 4000000 in
set_option maxRecDepth 100000 in
theorem hermitageref0_CopySegs.calls (k : Nat) (A1 : Option Addr) (c_1 : Nat) (p0 : List Seg) (r : (List Seg)) (w : World) (hs1 : Sl kSeg w.heap okAll A1 p0) (hl1 : p0.length ≤ c_1) (H : hermitageref0_CopySegs.f k p0 = some r) :
    Calls Try.prog 117 #[.slice A1 p0.length c_1] w fun e w' => ∃ (B1 : Option Addr) (d1 : Nat), e = .returned (.slice B1 r.length d1) ∧ Ext w w' ∧ Ow kSeg 132 w'.heap (okL [(w.heap.size, none, some 132)]) (okL []) B1 d1 r := by
 have h1 : Sl kSeg w.heap (okL [(0, some w.heap.size, none)]) A1 p0 := hs1.old _ rfl
 have x0 : Ext w w := Upd.refl _ w
 unfold hermitageref0_CopySegs.f at H
 refine calls_start Try.func117 rfl 19 rfl [.slice A1 p0.length c_1] rfl ?_
 refine CW.seq ?_
 refine CW.lex [.W] rfl ?_
 refine RW.pure tabOk 1 rfl ?_
 refine RW.done ?_
 refine NW.next ?_
 refine CW.seq ?_
 refine CW.lex [.W] rfl ?_
 refine RW.pure tabOk 1 rfl ?_
 refine RW.done ?_
 refine NW.next ?_
 refine CW.seq ?_
 refine CW.seq ?_
 refine CW.lex [.W] rfl ?_
 refine RW.pure tabOk 1 rfl ?_
 refine RW.done ?_
 refine NW.next ?_
 refine CW.block ?_
 refine CW.loop (fun n1 a w1 => ∃ (lt3_0 : List Seg) (At3_0 : Option Addr) (ct3_0 : Nat) (it4_0 : Int), Sat 19 [(0, .slice A1 p0.length c_1), (3, .slice At3_0 lt3_0.length ct3_0), (4, .int .i64 it4_0)] a ∧ w.heap.size ≤ w1.heap.size ∧ Ow kSeg 132 w1.heap (okL [(w.heap.size, none, some 132)]) (okL []) At3_0 ct3_0 lt3_0 ∧ Sl kSeg w1.heap (okL [(0, some w.heap.size, none)]) A1 p0 ∧ Ext w w1 ∧ hermitageref0_CopySegs.l0 p0 n1 lt3_0 it4_0 = some r) k ?_ ?_
 · exact fun a ha => ⟨([] : List Seg), none, 0, 0, ha.sub ⟨rfl, rfl, rfl, trivial⟩, by omega, Ow.nil, h1, x0, H⟩
 intro n1 a w1 hI hp
 obtain ⟨lt3_0, At3_0, ct3_0, it4_0, hS, hle, ft3_0, gF1_0, x0_0, H⟩ := hI
 cases n1 with
 | zero => cases H
 | succ n1 =>
  rw [hermitageref0_CopySegs.l0] at H
  refine CW.go hp hS ?_
  have h2 : Ow kSeg 132 w1.heap (okL [(w.heap.size, some w1.heap.size, some 132)]) (okL []) At3_0 ct3_0 lt3_0 := ft3_0.close
  refine CW.seq ?_
  refine CW.seq ?_
  refine CW.lex [.W, .W, .W, .W] rfl ?_
  refine RW.pure tabOk 4 rfl ?_
  refine RW.done ?_
  refine NW.next ?_
  by_cases c1 : it4_0 < (p0.length : Int)
  ·
   rw [if_pos c1] at H
   refine CW.cond_t rfl (decide_eq_true c1) ?_
   refine CW.skip ?_
   refine NW.next ?_
   refine CW.seq ?_
   refine CW.block ?_
   refine CW.lex [.W, .W, .W, .W, .L, .X, .M, .W] rfl ?_
   refine RW.pure tabOk 3 rfl ?_
   obtain ⟨g1, H⟩ := guard_some H
   obtain ⟨ad1, e1, a1⟩ := kSeg_at gF1_0 g1.1 g1.2
   refine RW.index tabOk g1.1 g1.2 e1 ⟨rfl, rfl, rfl, rfl⟩ rfl rfl rfl rfl rfl rfl ?_
   refine RW.load tabOk [.int .i64 ((rd p0 it4_0).At), .int .i64 ((rd p0 it4_0).Len)] a1 ⟨rfl, rfl, rfl, rfl⟩ rfl rfl rfl rfl ?_
   refine RW.buildSlice (cs := [.int .i64 ((rd p0 it4_0).At), .int .i64 ((rd p0 it4_0).Len)]) tabOk (.inl rfl) ⟨rfl, rfl, rfl, rfl⟩ rfl rfl rfl rfl rfl rfl rfl ?_
   intro b1 w2 x1 l1 h3
   have sx1 := x1.size
   have ltb1 := h3.lt
   have h4 := h2.ext x1
   obtain ⟨g2, H⟩ := guard_some H
   refine RW.append1L (d := kSeg) (v := (rd p0 it4_0)) (l := [(w.heap.size, some w1.heap.size, some 132)]) (li := []) (ly := []) (xs := lt3_0) tabOk h4 h3 (kSeg_mk (rd p0 it4_0)) trivial (by simp only [maxLen]; omega) g2 ⟨rfl, rfl, rfl, rfl⟩ rfl rfl rfl rfl rfl rfl rfl ?_
   intro A2 c_2 w3 x2 h5
   have sx2 := x2.size
   have h6 := h5.close.sub (l' := [(w.heap.size, some w3.heap.size, some 132)]) (li' := []) ⟨(.inl ⟨by omega, by omega, rfl⟩), ⟨(.inl ⟨by omega, by omega, rfl⟩), trivial⟩⟩ trivial
   refine RW.pure tabOk 1 rfl ?_
   refine RW.done ?_
   refine NW.norm_block (NW.next ?_)
   refine CW.lex [.W, .W, .W] rfl ?_
   refine RW.pure tabOk 3 rfl ?_
   refine RW.done ?_
   have h7 := (gF1_0.ext x1).turnL x2 ⟨⟨.inr (.inl (by omega)), trivial⟩, trivial⟩
   have h8 := Ext.turn (Ext.trans x0_0 x1) x2 ⟨by omega, trivial⟩
   exact NW.J fun a ha => ⟨n1, Nat.lt_succ_self n1, (lt3_0 ++ [(rd p0 it4_0)]), A2, c_2, (w64 (it4_0 + 1)), ha.sub ⟨rfl, rfl, rfl, trivial⟩, by omega, (h6.sub ⟨(.inl ⟨by omega, trivial, rfl⟩), trivial⟩ trivial), h7, h8, H⟩
  ·
   rw [if_neg c1] at H
   refine CW.cond_f rfl (decide_eq_false c1) ?_
   refine CW.exit ?_
   refine NW.exit_then (NW.exit_then (NW.exit_hit ?_))
   refine NW.next ?_
   refine CW.seq ?_
   refine CW.lex [.W, .W] rfl ?_
   refine RW.pure tabOk 2 rfl ?_
   refine RW.done ?_
   refine NW.next ?_
   refine CW.ret ?_
   obtain rfl := Option.some.inj H
   exact NW.ret1 rfl (by rfl) ⟨At3_0, ct3_0, rfl, x0_0, (h2.sub (l' := [(w.heap.size, none, some 132)]) (li' := []) ⟨(.inl ⟨by omega, trivial, rfl⟩), trivial⟩ trivial)⟩

set_option maxHeartbeats 4000000 in
set_option maxRecDepth 100000 in
theorem hermitageref0_CopyDevice.calls (k : Nat) (p0 : Device) (A1 : Option Addr) (c_1 : Nat) (A2 : Option Addr) (c_2 : Nat) (r : Device) (w : World) (hs1 : Sl kSeg w.heap okAll A1 p0.Free) (hl1 : p0.Free.length ≤ c_1) (hs2 : Sl kSeg w.heap okAll A2 p0.Late) (hl2 : p0.Late.length ≤ c_2) (H : hermitageref0_CopyDevice.f k p0 = some r) :
    Calls Try.prog 95 #[.agg #[.int .i64 p0.ID, .int .i64 p0.Size, .slice A1 p0.Free.length c_1, .slice A2 p0.Late.length c_2]] w fun e w' => ∃ (B1 : Option Addr) (d1 : Nat) (B2 : Option Addr) (d2 : Nat), e = .returned (.agg #[.int .i64 r.ID, .int .i64 r.Size, .slice B1 r.Free.length d1, .slice B2 r.Late.length d2]) ∧ Ext w w' ∧ Ow kSeg 132 w'.heap (okL [(w.heap.size, none, some 132)]) (okL []) B1 d1 r.Free ∧ Ow kSeg 132 w'.heap (okL [(w.heap.size, none, some 132)]) (okL []) B2 d2 r.Late := by
 have h1 : Sl kSeg w.heap (okL [(0, some w.heap.size, none)]) A1 p0.Free := hs1.old _ rfl
 have h2 : Sl kSeg w.heap (okL [(0, some w.heap.size, none)]) A2 p0.Late := hs2.old _ rfl
 have x0 : Ext w w := Upd.refl _ w
 unfold hermitageref0_CopyDevice.f at H
 refine calls_start Try.func95 rfl 14 rfl [.agg #[.int .i64 p0.ID, .int .i64 p0.Size, .slice A1 p0.Free.length c_1, .slice A2 p0.Late.length c_2]] rfl ?_
 refine CW.seq ?_
 refine CW.lex [.X, .X] rfl ?_
 refine RW.box (cs := [.int .i64 p0.ID, .int .i64 p0.Size, .slice A1 p0.Free.length c_1, .slice A2 p0.Late.length c_2]) (.inl rfl) ⟨rfl, rfl, rfl, rfl⟩ rfl rfl rfl ?_
 intro b1 w1 x1 l1 h3
 have sx1 := x1.size
 have ltb1 := h3.lt
 refine RW.alloc tabOk (.inl rfl) ⟨rfl, rfl, rfl, rfl⟩ rfl rfl ?_
 intro b2 w2 x2 l2 h4
 have sx2 := x2.size
 have ltb2 := h4.lt
 refine RW.done ?_
 refine NW.next ?_
 refine CW.seq ?_
 refine CW.lex [.L, .X, .M] rfl ?_
 have h5 := h3.ext x2
 refine RW.load tabOk [.int .i64 p0.ID, .int .i64 p0.Size, .slice A1 p0.Free.length c_1, .slice A2 p0.Late.length c_2] (h5.at 0) ⟨rfl, rfl, rfl, rfl⟩ rfl rfl rfl rfl ?_
 refine RW.alloc tabOk (.inl rfl) ⟨rfl, rfl, rfl, rfl⟩ rfl rfl ?_
 intro b3 w3 x3 l3 h6
 have sx3 := x3.size
 have ltb3 := h6.lt
 refine RW.storeBox tabOk h6 [.int .i64 p0.ID, .int .i64 p0.Size, .slice A1 p0.Free.length c_1, .slice A2 p0.Late.length c_2] ⟨rfl, rfl, rfl⟩ rfl rfl rfl rfl rfl rfl rfl rfl ?_
 intro w4 x4 h7
 have h8 : Box w4.heap b3 67 [.int .i64 p0.ID, .int .i64 p0.Size, .slice A1 p0.Free.length c_1, .slice A2 p0.Late.length c_2] := h7
 have sx4 := x4.size
 refine RW.done ?_
 refine NW.next ?_
 refine CW.seq ?_
 refine CW.lex [.W, .L, .X, .W, .M] rfl ?_
 refine RW.pure tabOk 1 rfl ?_
 have h9 := (h5.ext x3).turnB x4 (by omega)
 refine RW.load tabOk [.slice A1 p0.Free.length c_1] ((h9.at 2).take 1 rfl) ⟨rfl, rfl, rfl, rfl⟩ rfl rfl rfl rfl ?_
 have h10 := (((h1.ext x1).ext x2).ext x3).turnB x4 h6 ⟨.inr (by omega), trivial⟩
 obtain ⟨y1, h11, H⟩ := bind_some H
 refine RW.callF (.inl rfl) ent117 ⟨rfl, rfl, rfl, rfl⟩ rfl rfl (hermitageref0_CopySegs.calls k A1 c_1 p0.Free _ _ h10.all hl1 h11) ?_
 rintro _ w5 ⟨A3, c_3, rfl, x5, h12⟩
 refine ⟨_, rfl, x5, ?_⟩
 have sx5 := x5.size
 have h13 : Ow kSeg 132 w5.heap (okL [(w4.heap.size, some w5.heap.size, some 132)]) (okL []) A3 c_3 y1 := h12.close
 refine RW.pure tabOk 1 rfl ?_
 have h14 := h8.ext x5
 refine RW.storeBox tabOk h14 [.slice A3 y1.length c_3] ⟨rfl, rfl, rfl⟩ rfl rfl rfl rfl rfl rfl rfl rfl ?_
 intro w6 x6 h15
 have h16 : Box w6.heap b3 67 [.int .i64 p0.ID, .int .i64 p0.Size, .slice A3 y1.length c_3, .slice A2 p0.Late.length c_2] := h15
 have sx6 := x6.size
 refine RW.done ?_
 refine NW.next ?_
 refine CW.seq ?_
 refine CW.lex [.W, .L, .X, .W, .M] rfl ?_
 refine RW.pure tabOk 1 rfl ?_
 have h17 := (h9.ext x5).turnB x6 (by omega)
 refine RW.load tabOk [.slice A2 p0.Late.length c_2] (h17.at 3) ⟨rfl, rfl, rfl, rfl⟩ rfl rfl rfl rfl ?_
 have h18 := (((((h2.ext x1).ext x2).ext x3).turnB x4 h6 ⟨.inr (by omega), trivial⟩).ext x5).turnB x6 h14 ⟨.inr (by omega), trivial⟩
 obtain ⟨y2, h19, H⟩ := bind_some H
 refine RW.callF (.inl rfl) ent117 ⟨rfl, rfl, rfl, rfl⟩ rfl rfl (hermitageref0_CopySegs.calls k A2 c_2 p0.Late _ _ h18.all hl2 h19) ?_
 rintro _ w7 ⟨A4, c_4, rfl, x7, h20⟩
 refine ⟨_, rfl, x7, ?_⟩
 have sx7 := x7.size
 have h21 : Ow kSeg 132 w7.heap (okL [(w6.heap.size, some w7.heap.size, some 132)]) (okL []) A4 c_4 y2 := h20.close
 refine RW.pure tabOk 1 rfl ?_
 have h22 := h16.ext x7
 refine RW.storeBox tabOk h22 [.slice A4 y2.length c_4] ⟨rfl, rfl, rfl⟩ rfl rfl rfl rfl rfl rfl rfl rfl ?_
 intro w8 x8 h23
 have h24 : Box w8.heap b3 67 [.int .i64 p0.ID, .int .i64 p0.Size, .slice A3 y1.length c_3, .slice A4 y2.length c_4] := h23
 have sx8 := x8.size
 refine RW.done ?_
 refine NW.next ?_
 refine CW.seq ?_
 refine CW.lex [.L, .M] rfl ?_
 refine RW.load tabOk [.int .i64 p0.ID, .int .i64 p0.Size, .slice A3 y1.length c_3, .slice A4 y2.length c_4] (h24.at 0) ⟨rfl, rfl, rfl, rfl⟩ rfl rfl rfl rfl ?_
 have h25 := (((((h4.ext x3).turnB x4 (by omega)).ext x5).turnB x6 (by omega)).ext x7).turnB x8 (by omega)
 refine RW.storeBox tabOk h25 [.int .i64 p0.ID, .int .i64 p0.Size, .slice A3 y1.length c_3, .slice A4 y2.length c_4] ⟨rfl, rfl, rfl⟩ rfl rfl rfl rfl rfl rfl rfl rfl ?_
 intro w9 x9 h26
 have h27 : Box w9.heap b2 67 [.int .i64 p0.ID, .int .i64 p0.Size, .slice A3 y1.length c_3, .slice A4 y2.length c_4] := h26
 have sx9 := x9.size
 refine RW.done ?_
 refine NW.next ?_
 refine CW.ret ?_
 have h28 := (((h13.turnB x6 h14 ⟨.inl (show (132 : Nat) ≠ 67 by decide), trivial⟩ trivial).ext x7).turnB x8 h22 ⟨.inl (show (132 : Nat) ≠ 67 by decide), trivial⟩ trivial).turnB x9 h25 ⟨.inl (show (132 : Nat) ≠ 67 by decide), trivial⟩ trivial
 have h29 := (h21.turnB x8 h22 ⟨.inl (show (132 : Nat) ≠ 67 by decide), trivial⟩ trivial).turnB x9 h25 ⟨.inl (show (132 : Nat) ≠ 67 by decide), trivial⟩ trivial
 obtain rfl := Option.some.inj H
 have h30 := Ext.turnB (Ext.turnB (Ext.trans (Ext.turnB (Ext.trans (Ext.turnB (Ext.trans (Ext.trans (Ext.trans x0 x1) x2) x3) x4 (by omega)) x5) x6 (by omega)) x7) x8 (by omega)) x9 (by omega)
 exact NW.ret1 rfl (resOne_cell tabOk (h27.at 0) rfl rfl rfl) ⟨A3, c_3, A4, c_4, rfl, h30, (h28.sub (l' := [(w.heap.size, none, some 132)]) (li' := []) ⟨(.inl ⟨by omega, trivial, rfl⟩), trivial⟩ trivial), (h29.sub (l' := [(w.heap.size, none, some 132)]) (li' := []) ⟨(.inl ⟨by omega, trivial, rfl⟩), trivial⟩ trivial)⟩

set_option maxHeartbeats 4000000 in
set_option maxRecDepth 100000 in
theorem hermitageref0_CopyDevices.calls (k : Nat) (A1 : Option Addr) (c_1 : Nat) (p0 : List Device) (r : (List Device)) (w : World) (hs1 : Sl kDeviceR w.heap okAll A1 p0) (hl1 : p0.length ≤ c_1) (H : hermitageref0_CopyDevices.f k p0 = some r) :
    Calls Try.prog 67 #[.slice A1 p0.length c_1] w fun e w' => ∃ (B1 : Option Addr) (d1 : Nat), e = .returned (.slice B1 r.length d1) ∧ Ext w w' ∧ Ow kDeviceO 67 w'.heap (okL [(w.heap.size, none, some 67)]) (okL [(w.heap.size, none, some 132)]) B1 d1 r := by
 have h1 : Sl kDeviceR w.heap (okL [(0, some w.heap.size, none)]) A1 p0 := hs1.old _ rfl
 have x0 : Ext w w := Upd.refl _ w
 unfold hermitageref0_CopyDevices.f at H
 refine calls_start Try.func67 rfl 20 rfl [.slice A1 p0.length c_1] rfl ?_
 refine CW.seq ?_
 refine CW.lex [.W] rfl ?_
 refine RW.pure tabOk 1 rfl ?_
 refine RW.done ?_
 refine NW.next ?_
 refine CW.seq ?_
 refine CW.lex [.W] rfl ?_
 refine RW.pure tabOk 1 rfl ?_
 refine RW.done ?_
 refine NW.next ?_
 refine CW.seq ?_
 refine CW.seq ?_
 refine CW.lex [.W] rfl ?_
 refine RW.pure tabOk 1 rfl ?_
 refine RW.done ?_
 refine NW.next ?_
 refine CW.block ?_
 refine CW.loop (fun n1 a w1 => ∃ (lt3_0 : List Device) (At3_0 : Option Addr) (ct3_0 : Nat) (it4_0 : Int), Sat 20 [(0, .slice A1 p0.length c_1), (3, .slice At3_0 lt3_0.length ct3_0), (4, .int .i64 it4_0)] a ∧ w.heap.size ≤ w1.heap.size ∧ Ow kDeviceO 67 w1.heap (okL [(w.heap.size, none, some 67)]) (okL [(w.heap.size, none, some 132)]) At3_0 ct3_0 lt3_0 ∧ Sl kDeviceR w1.heap (okL [(0, some w.heap.size, none)]) A1 p0 ∧ Ext w w1 ∧ hermitageref0_CopyDevices.l0 p0 k n1 lt3_0 it4_0 = some r) k ?_ ?_
 · exact fun a ha => ⟨([] : List Device), none, 0, 0, ha.sub ⟨rfl, rfl, rfl, trivial⟩, by omega, Ow.nil, h1, x0, H⟩
 intro n1 a w1 hI hp
 obtain ⟨lt3_0, At3_0, ct3_0, it4_0, hS, hle, ft3_0, gF1_0, x0_0, H⟩ := hI
 cases n1 with
 | zero => cases H
 | succ n1 =>
  rw [hermitageref0_CopyDevices.l0] at H
  refine CW.go hp hS ?_
  have h2 : Ow kDeviceO 67 w1.heap (okL [(w.heap.size, some w1.heap.size, some 67)]) (okL [(w.heap.size, some w1.heap.size, some 132)]) At3_0 ct3_0 lt3_0 := ft3_0.close
  refine CW.seq ?_
  refine CW.seq ?_
  refine CW.lex [.W, .W, .W, .W] rfl ?_
  refine RW.pure tabOk 4 rfl ?_
  refine RW.done ?_
  refine NW.next ?_
  by_cases c1 : it4_0 < (p0.length : Int)
  ·
   rw [if_pos c1] at H
   refine CW.cond_t rfl (decide_eq_true c1) ?_
   refine CW.skip ?_
   refine NW.next ?_
   refine CW.seq ?_
   refine CW.block ?_
   refine CW.lex [.W, .W, .W, .W, .L, .X, .X, .M, .W] rfl ?_
   refine RW.pure tabOk 3 rfl ?_
   obtain ⟨g1, H⟩ := guard_some H
   obtain ⟨ad1, A2, c_2, A3, c_3, e1, a1, l1, h3, l2, h4⟩ := kDeviceR_at gF1_0 g1.1 g1.2
   refine RW.index tabOk g1.1 g1.2 e1 ⟨rfl, rfl, rfl, rfl⟩ rfl rfl rfl rfl rfl rfl ?_
   refine RW.load tabOk [.int .i64 ((rd p0 it4_0).ID), .int .i64 ((rd p0 it4_0).Size), .slice A2 ((rd p0 it4_0).Free).length c_2, .slice A3 ((rd p0 it4_0).Late).length c_3] a1 ⟨rfl, rfl, rfl, rfl⟩ rfl rfl rfl rfl ?_
   obtain ⟨y1, h5, H⟩ := bind_some H
   refine RW.callF (.inl rfl) ent95 ⟨rfl, rfl, rfl, rfl⟩ rfl rfl (hermitageref0_CopyDevice.calls k (rd p0 it4_0) A2 c_2 A3 c_3 _ _ h3.all l1 h4.all l2 h5) ?_
   rintro _ w2 ⟨A4, c_4, A5, c_5, rfl, x1, h6, h7⟩
   refine ⟨_, rfl, x1, ?_⟩
   have sx1 := x1.size
   have h8 : Ow kSeg 132 w2.heap (okL [(w1.heap.size, some w2.heap.size, some 132)]) (okL []) A4 c_4 y1.Free := h6.close
   have h9 : Ow kSeg 132 w2.heap (okL [(w1.heap.size, some w2.heap.size, some 132)]) (okL []) A5 c_5 y1.Late := h7.close
   refine RW.buildSlice (cs := [.int .i64 y1.ID, .int .i64 y1.Size, .slice A4 y1.Free.length c_4, .slice A5 y1.Late.length c_5]) tabOk (.inl rfl) ⟨rfl, rfl, rfl, rfl⟩ rfl rfl rfl rfl rfl rfl rfl ?_
   intro b1 w3 x2 l3 h10
   have sx2 := x2.size
   have ltb1 := h10.lt
   have h11 := (h2.ext x1).ext x2
   have h12 := h8.ext x2
   have h13 := h9.ext x2
   obtain ⟨g2, H⟩ := guard_some H
   refine RW.append1L (d := kDeviceO) (v := y1) (l := [(w.heap.size, some w1.heap.size, some 67)]) (li := [(w.heap.size, some w1.heap.size, some 132)]) (ly := [(w1.heap.size, some w2.heap.size, some 132)]) (xs := lt3_0) tabOk h11 h10 (kDeviceO_mk y1 (h12.sub (l' := [(w1.heap.size, some w2.heap.size, some 132)]) (li' := [(w1.heap.size, some w2.heap.size, some 132)]) ⟨(.inl ⟨by omega, by omega, rfl⟩), trivial⟩ trivial) (h13.sub (l' := [(w1.heap.size, some w2.heap.size, some 132)]) (li' := [(w1.heap.size, some w2.heap.size, some 132)]) ⟨(.inl ⟨by omega, by omega, rfl⟩), trivial⟩ trivial)) ⟨⟨.inl (show (132 : Nat) ≠ 67 by decide), trivial⟩, trivial⟩ (by simp only [maxLen]; omega) g2 ⟨rfl, rfl, rfl, rfl⟩ rfl rfl rfl rfl rfl rfl rfl ?_
   intro A6 c_6 w4 x3 h14
   have sx3 := x3.size
   have h15 := h14.close.sub (l' := [(w.heap.size, some w4.heap.size, some 67)]) (li' := [(w.heap.size, some w2.heap.size, some 132)]) ⟨(.inl ⟨by omega, by omega, rfl⟩), ⟨(.inl ⟨by omega, by omega, rfl⟩), trivial⟩⟩ ⟨(.inl ⟨by omega, by omega, rfl⟩), ⟨(.inl ⟨by omega, by omega, rfl⟩), trivial⟩⟩
   refine RW.pure tabOk 1 rfl ?_
   refine RW.done ?_
   refine NW.norm_block (NW.next ?_)
   refine CW.lex [.W, .W, .W] rfl ?_
   refine RW.pure tabOk 3 rfl ?_
   refine RW.done ?_
   have h16 := ((gF1_0.ext x1).ext x2).turnL x3 ⟨⟨.inr (.inl (by omega)), trivial⟩, trivial⟩
   have h17 := Ext.turn (Ext.trans (Ext.trans x0_0 x1) x2) x3 ⟨by omega, trivial⟩
   exact NW.J fun a ha => ⟨n1, Nat.lt_succ_self n1, (lt3_0 ++ [y1]), A6, c_6, (w64 (it4_0 + 1)), ha.sub ⟨rfl, rfl, rfl, trivial⟩, by omega, (h15.sub ⟨(.inl ⟨by omega, trivial, rfl⟩), trivial⟩ ⟨(.inl ⟨by omega, trivial, rfl⟩), trivial⟩), h16, h17, H⟩
  ·
   rw [if_neg c1] at H
   refine CW.cond_f rfl (decide_eq_false c1) ?_
   refine CW.exit ?_
   refine NW.exit_then (NW.exit_then (NW.exit_hit ?_))
   refine NW.next ?_
   refine CW.seq ?_
   refine CW.lex [.W, .W] rfl ?_
   refine RW.pure tabOk 2 rfl ?_
   refine RW.done ?_
   refine NW.next ?_
   refine CW.ret ?_
   obtain rfl := Option.some.inj H
   exact NW.ret1 rfl (by rfl) ⟨At3_0, ct3_0, rfl, x0_0, (h2.sub (l' := [(w.heap.size, none, some 67)]) (li' := [(w.heap.size, none, some 132)]) ⟨(.inl ⟨by omega, trivial, rfl⟩), trivial⟩ ⟨(.inl ⟨by omega, trivial, rfl⟩), trivial⟩)⟩

set_option maxHeartbeats 4000000 in
set_option maxRecDepth 100000 in
theorem hermitageref0_CopyTables.calls (k : Nat) (A1 : Option Addr) (c_1 : Nat) (p0 : List Table) (r : (List Table)) (w : World) (hs1 : Sl kTableR w.heap okAll A1 p0) (hl1 : p0.length ≤ c_1) (H : hermitageref0_CopyTables.f k p0 = some r) :
    Calls Try.prog 68 #[.slice A1 p0.length c_1] w fun e w' => ∃ (B1 : Option Addr) (d1 : Nat), e = .returned (.slice B1 r.length d1) ∧ Ext w w' ∧ Ow kTableO 24 w'.heap (okL [(w.heap.size, none, some 24)]) (okL [(w.heap.size, none, some 45)]) B1 d1 r := by
 have h1 : Sl kTableR w.heap (okL [(0, some w.heap.size, none)]) A1 p0 := hs1.old _ rfl
 have x0 : Ext w w := Upd.refl _ w
 unfold hermitageref0_CopyTables.f at H
 refine calls_start Try.func68 rfl 20 rfl [.slice A1 p0.length c_1] rfl ?_
 refine CW.seq ?_
 refine CW.lex [.W] rfl ?_
 refine RW.pure tabOk 1 rfl ?_
 refine RW.done ?_
 refine NW.next ?_
 refine CW.seq ?_
 refine CW.lex [.W] rfl ?_
 refine RW.pure tabOk 1 rfl ?_
 refine RW.done ?_
 refine NW.next ?_
 refine CW.seq ?_
 refine CW.seq ?_
 refine CW.lex [.W] rfl ?_
 refine RW.pure tabOk 1 rfl ?_
 refine RW.done ?_
 refine NW.next ?_
 refine CW.block ?_
 refine CW.loop (fun n1 a w1 => ∃ (lt3_0 : List Table) (At3_0 : Option Addr) (ct3_0 : Nat) (it4_0 : Int), Sat 20 [(0, .slice A1 p0.length c_1), (3, .slice At3_0 lt3_0.length ct3_0), (4, .int .i64 it4_0)] a ∧ w.heap.size ≤ w1.heap.size ∧ Ow kTableO 24 w1.heap (okL [(w.heap.size, none, some 24)]) (okL [(w.heap.size, none, some 45)]) At3_0 ct3_0 lt3_0 ∧ Sl kTableR w1.heap (okL [(0, some w.heap.size, none)]) A1 p0 ∧ Ext w w1 ∧ hermitageref0_CopyTables.l0 p0 k n1 lt3_0 it4_0 = some r) k ?_ ?_
 · exact fun a ha => ⟨([] : List Table), none, 0, 0, ha.sub ⟨rfl, rfl, rfl, trivial⟩, by omega, Ow.nil, h1, x0, H⟩
 intro n1 a w1 hI hp
 obtain ⟨lt3_0, At3_0, ct3_0, it4_0, hS, hle, ft3_0, gF1_0, x0_0, H⟩ := hI
 cases n1 with
 | zero => cases H
 | succ n1 =>
  rw [hermitageref0_CopyTables.l0] at H
  refine CW.go hp hS ?_
  have h2 : Ow kTableO 24 w1.heap (okL [(w.heap.size, some w1.heap.size, some 24)]) (okL [(w.heap.size, some w1.heap.size, some 45)]) At3_0 ct3_0 lt3_0 := ft3_0.close
  refine CW.seq ?_
  refine CW.seq ?_
  refine CW.lex [.W, .W, .W, .W] rfl ?_
  refine RW.pure tabOk 4 rfl ?_
  refine RW.done ?_
  refine NW.next ?_
  by_cases c1 : it4_0 < (p0.length : Int)
  ·
   rw [if_pos c1] at H
   refine CW.cond_t rfl (decide_eq_true c1) ?_
   refine CW.skip ?_
   refine NW.next ?_
   refine CW.seq ?_
   refine CW.block ?_
   refine CW.lex [.W, .W, .W, .W, .L, .X, .X, .M, .W] rfl ?_
   refine RW.pure tabOk 3 rfl ?_
   obtain ⟨g1, H⟩ := guard_some H
   obtain ⟨ad1, A2, c_2, e1, a1, l1, h3⟩ := kTableR_at gF1_0 g1.1 g1.2
   refine RW.index tabOk g1.1 g1.2 e1 ⟨rfl, rfl, rfl, rfl⟩ rfl rfl rfl rfl rfl rfl ?_
   refine RW.load tabOk [.int .i64 ((rd p0 it4_0).Dev), .int .i64 ((rd p0 it4_0).Size), .slice A2 ((rd p0 it4_0).List_).length c_2] a1 ⟨rfl, rfl, rfl, rfl⟩ rfl rfl rfl rfl ?_
   obtain ⟨y1, h4, H⟩ := bind_some H
   refine RW.callF (.inl rfl) ent21 ⟨rfl, rfl, rfl, rfl⟩ rfl rfl (hermitageref0_CopyTable.calls k (rd p0 it4_0) A2 c_2 _ _ h3.all l1 h4) ?_
   rintro _ w2 ⟨A3, c_3, rfl, x1, h5⟩
   refine ⟨_, rfl, x1, ?_⟩
   have sx1 := x1.size
   have h6 : Ow kEntry 45 w2.heap (okL [(w1.heap.size, some w2.heap.size, some 45)]) (okL []) A3 c_3 y1.List_ := h5.close
   refine RW.buildSlice (cs := [.int .i64 y1.Dev, .int .i64 y1.Size, .slice A3 y1.List_.length c_3]) tabOk (.inl rfl) ⟨rfl, rfl, rfl, rfl⟩ rfl rfl rfl rfl rfl rfl rfl ?_
   intro b1 w3 x2 l2 h7
   have sx2 := x2.size
   have ltb1 := h7.lt
   have h8 := (h2.ext x1).ext x2
   have h9 := h6.ext x2
   obtain ⟨g2, H⟩ := guard_some H
   refine RW.append1L (d := kTableO) (v := y1) (l := [(w.heap.size, some w1.heap.size, some 24)]) (li := [(w.heap.size, some w1.heap.size, some 45)]) (ly := [(w1.heap.size, some w2.heap.size, some 45)]) (xs := lt3_0) tabOk h8 h7 (kTableO_mk y1 (h9.sub (l' := [(w1.heap.size, some w2.heap.size, some 45)]) (li' := [(w1.heap.size, some w2.heap.size, some 45)]) ⟨(.inl ⟨by omega, by omega, rfl⟩), trivial⟩ trivial)) ⟨⟨.inl (show (45 : Nat) ≠ 24 by decide), trivial⟩, trivial⟩ (by simp only [maxLen]; omega) g2 ⟨rfl, rfl, rfl, rfl⟩ rfl rfl rfl rfl rfl rfl rfl ?_
   intro A4 c_4 w4 x3 h10
   have sx3 := x3.size
   have h11 := h10.close.sub (l' := [(w.heap.size, some w4.heap.size, some 24)]) (li' := [(w.heap.size, some w2.heap.size, some 45)]) ⟨(.inl ⟨by omega, by omega, rfl⟩), ⟨(.inl ⟨by omega, by omega, rfl⟩), trivial⟩⟩ ⟨(.inl ⟨by omega, by omega, rfl⟩), ⟨(.inl ⟨by omega, by omega, rfl⟩), trivial⟩⟩
   refine RW.pure tabOk 1 rfl ?_
   refine RW.done ?_
   refine NW.norm_block (NW.next ?_)
   refine CW.lex [.W, .W, .W] rfl ?_
   refine RW.pure tabOk 3 rfl ?_
   refine RW.done ?_
   have h12 := ((gF1_0.ext x1).ext x2).turnL x3 ⟨⟨.inr (.inl (by omega)), trivial⟩, trivial⟩
   have h13 := Ext.turn (Ext.trans (Ext.trans x0_0 x1) x2) x3 ⟨by omega, trivial⟩
   exact NW.J fun a ha => ⟨n1, Nat.lt_succ_self n1, (lt3_0 ++ [y1]), A4, c_4, (w64 (it4_0 + 1)), ha.sub ⟨rfl, rfl, rfl, trivial⟩, by omega, (h11.sub ⟨(.inl ⟨by omega, trivial, rfl⟩), trivial⟩ ⟨(.inl ⟨by omega, trivial, rfl⟩), trivial⟩), h12, h13, H⟩
  ·
   rw [if_neg c1] at H
   refine CW.cond_f rfl (decide_eq_false c1) ?_
   refine CW.exit ?_
   refine NW.exit_then (NW.exit_then (NW.exit_hit ?_))
   refine NW.next ?_
   refine CW.seq ?_
   refine CW.lex [.W, .W] rfl ?_
   refine RW.pure tabOk 2 rfl ?_
   refine RW.done ?_
   refine NW.next ?_
   refine CW.ret ?_
   obtain rfl := Option.some.inj H
   exact NW.ret1 rfl (by rfl) ⟨At3_0, ct3_0, rfl, x0_0, (h2.sub (l' := [(w.heap.size, none, some 24)]) (li' := [(w.heap.size, none, some 45)]) ⟨(.inl ⟨by omega, trivial, rfl⟩), trivial⟩ ⟨(.inl ⟨by omega, trivial, rfl⟩), trivial⟩)⟩

set_option maxHeartbeats 4000000 in
set_option maxRecDepth 100000 in
theorem hermitageref0_CopyPool.calls (k : Nat) (p0 : Pool) (A1 : Option Addr) (c_1 : Nat) (A2 : Option Addr) (c_2 : Nat) (A3 : Option Addr) (c_3 : Nat) (r : Pool) (w : World) (hs1 : Sl kDeviceR w.heap okAll A1 p0.Devices) (hl1 : p0.Devices.length ≤ c_1) (hs2 : Sl kTableR w.heap okAll A2 p0.Tables) (hl2 : p0.Tables.length ≤ c_2) (hs3 : Sl kEntry w.heap okAll A3 p0.Job.Table.List_) (hl3 : p0.Job.Table.List_.length ≤ c_3) (H : hermitageref0_CopyPool.f k p0 = some r) :
    Calls Try.prog 28 #[.agg #[.slice A1 p0.Devices.length c_1, .slice A2 p0.Tables.length c_2, .int .i64 p0.Job.Dev, .int .i64 p0.Job.At, .int .i64 p0.Job.Table.Dev, .int .i64 p0.Job.Table.Size, .slice A3 p0.Job.Table.List_.length c_3, .int .i64 p0.Next]] w fun e w' => ∃ (B1 : Option Addr) (d1 : Nat) (B2 : Option Addr) (d2 : Nat) (B3 : Option Addr) (d3 : Nat), e = .returned (.agg #[.slice B1 r.Devices.length d1, .slice B2 r.Tables.length d2, .int .i64 r.Job.Dev, .int .i64 r.Job.At, .int .i64 r.Job.Table.Dev, .int .i64 r.Job.Table.Size, .slice B3 r.Job.Table.List_.length d3, .int .i64 r.Next]) ∧ Ext w w' ∧ Ow kDeviceO 67 w'.heap (okL [(w.heap.size, none, some 67)]) (okL [(w.heap.size, none, some 132)]) B1 d1 r.Devices ∧ Ow kTableO 24 w'.heap (okL [(w.heap.size, none, some 24)]) (okL [(w.heap.size, none, some 45)]) B2 d2 r.Tables ∧ Ow kEntry 45 w'.heap (okL [(w.heap.size, none, some 45)]) (okL []) B3 d3 r.Job.Table.List_ := by
 have h1 : Sl kDeviceR w.heap (okL [(0, some w.heap.size, none)]) A1 p0.Devices := hs1.old _ rfl
 have h2 : Sl kTableR w.heap (okL [(0, some w.heap.size, none)]) A2 p0.Tables := hs2.old _ rfl
 have h3 : Sl kEntry w.heap (okL [(0, some w.heap.size, none)]) A3 p0.Job.Table.List_ := hs3.old _ rfl
 have x0 : Ext w w := Upd.refl _ w
 unfold hermitageref0_CopyPool.f at H
 refine calls_start Try.func28 rfl 20 rfl [.agg #[.slice A1 p0.Devices.length c_1, .slice A2 p0.Tables.length c_2, .int .i64 p0.Job.Dev, .int .i64 p0.Job.At, .int .i64 p0.Job.Table.Dev, .int .i64 p0.Job.Table.Size, .slice A3 p0.Job.Table.List_.length c_3, .int .i64 p0.Next]] rfl ?_
 refine CW.seq ?_
 refine CW.lex [.X, .X] rfl ?_
 refine RW.box (cs := [.slice A1 p0.Devices.length c_1, .slice A2 p0.Tables.length c_2, .int .i64 p0.Job.Dev, .int .i64 p0.Job.At, .int .i64 p0.Job.Table.Dev, .int .i64 p0.Job.Table.Size, .slice A3 p0.Job.Table.List_.length c_3, .int .i64 p0.Next]) (.inl rfl) ⟨rfl, rfl, rfl, rfl⟩ rfl rfl rfl ?_
 intro b1 w1 x1 l1 h4
 have sx1 := x1.size
 have ltb1 := h4.lt
 refine RW.alloc tabOk (.inl rfl) ⟨rfl, rfl, rfl, rfl⟩ rfl rfl ?_
 intro b2 w2 x2 l2 h5
 have sx2 := x2.size
 have ltb2 := h5.lt
 refine RW.done ?_
 refine NW.next ?_
 refine CW.seq ?_
 refine CW.lex [.L, .X, .M] rfl ?_
 have h6 := h4.ext x2
 refine RW.load tabOk [.slice A1 p0.Devices.length c_1, .slice A2 p0.Tables.length c_2, .int .i64 p0.Job.Dev, .int .i64 p0.Job.At, .int .i64 p0.Job.Table.Dev, .int .i64 p0.Job.Table.Size, .slice A3 p0.Job.Table.List_.length c_3, .int .i64 p0.Next] (h6.at 0) ⟨rfl, rfl, rfl, rfl⟩ rfl rfl rfl rfl ?_
 refine RW.alloc tabOk (.inl rfl) ⟨rfl, rfl, rfl, rfl⟩ rfl rfl ?_
 intro b3 w3 x3 l3 h7
 have sx3 := x3.size
 have ltb3 := h7.lt
 refine RW.storeBox tabOk h7 [.slice A1 p0.Devices.length c_1, .slice A2 p0.Tables.length c_2, .int .i64 p0.Job.Dev, .int .i64 p0.Job.At, .int .i64 p0.Job.Table.Dev, .int .i64 p0.Job.Table.Size, .slice A3 p0.Job.Table.List_.length c_3, .int .i64 p0.Next] ⟨rfl, rfl, rfl⟩ rfl rfl rfl rfl rfl rfl rfl rfl ?_
 intro w4 x4 h8
 have h9 : Box w4.heap b3 61 [.slice A1 p0.Devices.length c_1, .slice A2 p0.Tables.length c_2, .int .i64 p0.Job.Dev, .int .i64 p0.Job.At, .int .i64 p0.Job.Table.Dev, .int .i64 p0.Job.Table.Size, .slice A3 p0.Job.Table.List_.length c_3, .int .i64 p0.Next] := h8
 have sx4 := x4.size
 refine RW.done ?_
 refine NW.next ?_
 refine CW.seq ?_
 refine CW.lex [.W, .L, .X, .W, .M] rfl ?_
 refine RW.pure tabOk 1 rfl ?_
 have h10 := (h6.ext x3).turnB x4 (by omega)
 refine RW.load tabOk [.slice A1 p0.Devices.length c_1] ((h10.at 0).take 1 rfl) ⟨rfl, rfl, rfl, rfl⟩ rfl rfl rfl rfl ?_
 have h11 := (((h1.ext x1).ext x2).ext x3).turnB x4 h7 ⟨.inr (by omega), trivial⟩
 obtain ⟨y1, h12, H⟩ := bind_some H
 refine RW.callF (.inl rfl) ent67 ⟨rfl, rfl, rfl, rfl⟩ rfl rfl (hermitageref0_CopyDevices.calls k A1 c_1 p0.Devices _ _ h11.all hl1 h12) ?_
 rintro _ w5 ⟨A4, c_4, rfl, x5, h13⟩
 refine ⟨_, rfl, x5, ?_⟩
 have sx5 := x5.size
 have h14 : Ow kDeviceO 67 w5.heap (okL [(w4.heap.size, some w5.heap.size, some 67)]) (okL [(w4.heap.size, some w5.heap.size, some 132)]) A4 c_4 y1 := h13.close
 refine RW.pure tabOk 1 rfl ?_
 have h15 := h9.ext x5
 refine RW.storeBox tabOk h15 [.slice A4 y1.length c_4] ⟨rfl, rfl, rfl⟩ rfl rfl rfl rfl rfl rfl rfl rfl ?_
 intro w6 x6 h16
 have h17 : Box w6.heap b3 61 [.slice A4 y1.length c_4, .slice A2 p0.Tables.length c_2, .int .i64 p0.Job.Dev, .int .i64 p0.Job.At, .int .i64 p0.Job.Table.Dev, .int .i64 p0.Job.Table.Size, .slice A3 p0.Job.Table.List_.length c_3, .int .i64 p0.Next] := h16
 have sx6 := x6.size
 refine RW.done ?_
 refine NW.next ?_
 refine CW.seq ?_
 refine CW.lex [.W, .L, .X, .W, .M] rfl ?_
 refine RW.pure tabOk 1 rfl ?_
 have h18 := (h10.ext x5).turnB x6 (by omega)
 refine RW.load tabOk [.slice A2 p0.Tables.length c_2] ((h18.at 1).take 1 rfl) ⟨rfl, rfl, rfl, rfl⟩ rfl rfl rfl rfl ?_
 have h19 := (((((h2.ext x1).ext x2).ext x3).turnB x4 h7 ⟨.inr (by omega), trivial⟩).ext x5).turnB x6 h15 ⟨.inr (by omega), trivial⟩
 obtain ⟨y2, h20, H⟩ := bind_some H
 refine RW.callF (.inl rfl) ent68 ⟨rfl, rfl, rfl, rfl⟩ rfl rfl (hermitageref0_CopyTables.calls k A2 c_2 p0.Tables _ _ h19.all hl2 h20) ?_
 rintro _ w7 ⟨A5, c_5, rfl, x7, h21⟩
 refine ⟨_, rfl, x7, ?_⟩
 have sx7 := x7.size
 have h22 : Ow kTableO 24 w7.heap (okL [(w6.heap.size, some w7.heap.size, some 24)]) (okL [(w6.heap.size, some w7.heap.size, some 45)]) A5 c_5 y2 := h21.close
 refine RW.pure tabOk 1 rfl ?_
 have h23 := h17.ext x7
 refine RW.storeBox tabOk h23 [.slice A5 y2.length c_5] ⟨rfl, rfl, rfl⟩ rfl rfl rfl rfl rfl rfl rfl rfl ?_
 intro w8 x8 h24
 have h25 : Box w8.heap b3 61 [.slice A4 y1.length c_4, .slice A5 y2.length c_5, .int .i64 p0.Job.Dev, .int .i64 p0.Job.At, .int .i64 p0.Job.Table.Dev, .int .i64 p0.Job.Table.Size, .slice A3 p0.Job.Table.List_.length c_3, .int .i64 p0.Next] := h24
 have sx8 := x8.size
 refine RW.done ?_
 refine NW.next ?_
 refine CW.seq ?_
 refine CW.lex [.W, .W, .L, .X, .W, .W, .M] rfl ?_
 refine RW.pure tabOk 2 rfl ?_
 have h26 := (h18.ext x7).turnB x8 (by omega)
 refine RW.load tabOk [.int .i64 p0.Job.Table.Dev, .int .i64 p0.Job.Table.Size, .slice A3 p0.Job.Table.List_.length c_3] ((h26.at 4).take 3 rfl) ⟨rfl, rfl, rfl, rfl⟩ rfl rfl rfl rfl ?_
 have h27 := (((((((h3.ext x1).ext x2).ext x3).turnB x4 h7 ⟨.inr (by omega), trivial⟩).ext x5).turnB x6 h15 ⟨.inr (by omega), trivial⟩).ext x7).turnB x8 h23 ⟨.inr (by omega), trivial⟩
 obtain ⟨y3, h28, H⟩ := bind_some H
 refine RW.callF (.inl rfl) ent21 ⟨rfl, rfl, rfl, rfl⟩ rfl rfl (hermitageref0_CopyTable.calls k p0.Job.Table A3 c_3 _ _ h27.all hl3 h28) ?_
 rintro _ w9 ⟨A6, c_6, rfl, x9, h29⟩
 refine ⟨_, rfl, x9, ?_⟩
 have sx9 := x9.size
 have h30 : Ow kEntry 45 w9.heap (okL [(w8.heap.size, some w9.heap.size, some 45)]) (okL []) A6 c_6 y3.List_ := h29.close
 refine RW.pure tabOk 2 rfl ?_
 have h31 := h25.ext x9
 refine RW.storeBox tabOk h31 [.int .i64 y3.Dev, .int .i64 y3.Size, .slice A6 y3.List_.length c_6] ⟨rfl, rfl, rfl⟩ rfl rfl rfl rfl rfl rfl rfl rfl ?_
 intro w10 x10 h32
 have h33 : Box w10.heap b3 61 [.slice A4 y1.length c_4, .slice A5 y2.length c_5, .int .i64 p0.Job.Dev, .int .i64 p0.Job.At, .int .i64 y3.Dev, .int .i64 y3.Size, .slice A6 y3.List_.length c_6, .int .i64 p0.Next] := h32
 have sx10 := x10.size
 refine RW.done ?_
 refine NW.next ?_
 refine CW.seq ?_
 refine CW.lex [.L, .M] rfl ?_
 refine RW.load tabOk [.slice A4 y1.length c_4, .slice A5 y2.length c_5, .int .i64 p0.Job.Dev, .int .i64 p0.Job.At, .int .i64 y3.Dev, .int .i64 y3.Size, .slice A6 y3.List_.length c_6, .int .i64 p0.Next] (h33.at 0) ⟨rfl, rfl, rfl, rfl⟩ rfl rfl rfl rfl ?_
 have h34 := (((((((h5.ext x3).turnB x4 (by omega)).ext x5).turnB x6 (by omega)).ext x7).turnB x8 (by omega)).ext x9).turnB x10 (by omega)
 refine RW.storeBox tabOk h34 [.slice A4 y1.length c_4, .slice A5 y2.length c_5, .int .i64 p0.Job.Dev, .int .i64 p0.Job.At, .int .i64 y3.Dev, .int .i64 y3.Size, .slice A6 y3.List_.length c_6, .int .i64 p0.Next] ⟨rfl, rfl, rfl⟩ rfl rfl rfl rfl rfl rfl rfl rfl ?_
 intro w11 x11 h35
 have h36 : Box w11.heap b2 61 [.slice A4 y1.length c_4, .slice A5 y2.length c_5, .int .i64 p0.Job.Dev, .int .i64 p0.Job.At, .int .i64 y3.Dev, .int .i64 y3.Size, .slice A6 y3.List_.length c_6, .int .i64 p0.Next] := h35
 have sx11 := x11.size
 refine RW.done ?_
 refine NW.next ?_
 refine CW.ret ?_
 have h37 := (((((h14.turnB x6 h15 ⟨.inl (show (67 : Nat) ≠ 61 by decide), trivial⟩ ⟨.inl (show (132 : Nat) ≠ 61 by decide), trivial⟩).ext x7).turnB x8 h23 ⟨.inl (show (67 : Nat) ≠ 61 by decide), trivial⟩ ⟨.inl (show (132 : Nat) ≠ 61 by decide), trivial⟩).ext x9).turnB x10 h31 ⟨.inl (show (67 : Nat) ≠ 61 by decide), trivial⟩ ⟨.inl (show (132 : Nat) ≠ 61 by decide), trivial⟩).turnB x11 h34 ⟨.inl (show (67 : Nat) ≠ 61 by decide), trivial⟩ ⟨.inl (show (132 : Nat) ≠ 61 by decide), trivial⟩
 have h38 := (((h22.turnB x8 h23 ⟨.inl (show (24 : Nat) ≠ 61 by decide), trivial⟩ ⟨.inl (show (45 : Nat) ≠ 61 by decide), trivial⟩).ext x9).turnB x10 h31 ⟨.inl (show (24 : Nat) ≠ 61 by decide), trivial⟩ ⟨.inl (show (45 : Nat) ≠ 61 by decide), trivial⟩).turnB x11 h34 ⟨.inl (show (24 : Nat) ≠ 61 by decide), trivial⟩ ⟨.inl (show (45 : Nat) ≠ 61 by decide), trivial⟩
 have h39 := (h30.turnB x10 h31 ⟨.inl (show (45 : Nat) ≠ 61 by decide), trivial⟩ trivial).turnB x11 h34 ⟨.inl (show (45 : Nat) ≠ 61 by decide), trivial⟩ trivial
 obtain rfl := Option.some.inj H
 have h40 := Ext.turnB (Ext.turnB (Ext.trans (Ext.turnB (Ext.trans (Ext.turnB (Ext.trans (Ext.turnB (Ext.trans (Ext.trans (Ext.trans x0 x1) x2) x3) x4 (by omega)) x5) x6 (by omega)) x7) x8 (by omega)) x9) x10 (by omega)) x11 (by omega)
 exact NW.ret1 rfl (resOne_cell tabOk (h36.at 0) rfl rfl rfl) ⟨A4, c_4, A5, c_5, A6, c_6, rfl, h40, (h37.sub (l' := [(w.heap.size, none, some 67)]) (li' := [(w.heap.size, none, some 132)]) ⟨(.inl ⟨by omega, trivial, rfl⟩), trivial⟩ ⟨(.inl ⟨by omega, trivial, rfl⟩), trivial⟩), (h38.sub (l' := [(w.heap.size, none, some 24)]) (li' := [(w.heap.size, none, some 45)]) ⟨(.inl ⟨by omega, trivial, rfl⟩), trivial⟩ ⟨(.inl ⟨by omega, trivial, rfl⟩), trivial⟩), (h39.sub (l' := [(w.heap.size, none, some 45)]) (li' := []) ⟨(.inl ⟨by omega, trivial, rfl⟩), trivial⟩ trivial)⟩

set_option maxHeartbeats 4000000 in
set_option maxRecDepth 100000 in
theorem hermitageref0_Between.calls (p0 : Int) (p1 : Int) (p2 : Int) (r : Bool) (w : World) (H : hermitageref0_Between.f p0 p1 p2 = some r) :
    Calls Try.prog 37 #[.int .i64 p0, .int .i64 p1, .int .i64 p2] w fun e w' => e = .returned (.bool r) ∧ Ext w w' := by
 have x0 : Ext w w := Upd.refl _ w
 unfold hermitageref0_Between.f at H
 refine calls_start Try.func37 rfl 15 rfl [.int .i64 p0, .int .i64 p1, .int .i64 p2] rfl ?_
 refine CW.seq ?_
 refine CW.lex [.W] rfl ?_
 refine RW.pure tabOk 1 rfl ?_
 refine RW.done ?_
 refine NW.next ?_
 refine CW.seq ?_
 refine CW.lex [.W, .W, .W, .W, .W, .W, .W, .W, .W] rfl ?_
 refine RW.pure tabOk 4 rfl ?_
 by_cases c1 : p1 ≤ p0
 ·
  rw [if_pos c1] at H
  refine RW.bool 10 (b' := true) (decide_eq_true c1) rfl ?_
  refine RW.pure tabOk 5 rfl ?_
  refine RW.done ?_
  refine NW.next ?_
  refine CW.ret ?_
  obtain rfl := Option.some.inj H
  exact NW.ret1 rfl (by rfl) ⟨rfl, x0⟩
 ·
  rw [if_neg c1] at H
  refine RW.bool 10 (b' := false) (decide_eq_false c1) rfl ?_
  refine RW.pure tabOk 5 rfl ?_
  refine RW.done ?_
  refine NW.next ?_
  refine CW.ret ?_
  obtain rfl := Option.some.inj H
  exact NW.ret1 rfl (by rfl) ⟨rfl, x0⟩

set_option maxHeartbeats 4000000 in
set_option maxRecDepth 100000 in
theorem hermitageref7_Place.calls (p0 : Int) (p1 : Ptr) (p2 : Int) (r : Bool) (w : World) (H : hermitageref7_Place.f p0 p1 p2 = some r) :
    Calls Try.prog 49 #[.int .i64 p0, .agg #[.int .i64 p1.Dev, .int .i64 p1.At], .int .i64 p2] w fun e w' => e = .returned (.bool r) ∧ Ext w w' := by
 have x0 : Ext w w := Upd.refl _ w
 unfold hermitageref7_Place.f at H
 refine calls_start Try.func49 rfl 36 rfl [.int .i64 p0, .agg #[.int .i64 p1.Dev, .int .i64 p1.At], .int .i64 p2] rfl ?_
 refine CW.seq ?_
 refine CW.lex [.X, .W] rfl ?_
 refine RW.box (cs := [.int .i64 p1.Dev, .int .i64 p1.At]) (.inl rfl) ⟨rfl, rfl, rfl, rfl⟩ rfl rfl rfl ?_
 intro b1 w1 x1 l1 h1
 have sx1 := x1.size
 have ltb1 := h1.lt
 refine RW.pure tabOk 1 rfl ?_
 refine RW.done ?_
 refine NW.next ?_
 refine CW.seq ?_
 refine CW.lex [.W, .L, .X, .W, .W, .L, .W, .W, .W, .W, .W, .L, .W, .W, .W, .W, .W, .W, .W, .W, .W, .W, .W, .W, .L, .W, .W, .W, .W, .W] rfl ?_
 refine RW.pure tabOk 1 rfl ?_
 refine RW.load tabOk [.int .i64 p1.Dev] ((h1.at 0).take 1 rfl) ⟨rfl, rfl, rfl, rfl⟩ rfl rfl rfl rfl ?_
 obtain ⟨y1, h2, H⟩ := bind_some H
 refine RW.callF (.inl rfl) ent37 ⟨rfl, rfl, rfl, rfl⟩ rfl rfl (hermitageref0_Between.calls p1.Dev 1 40 _ _ h2) ?_
 rintro _ w2 ⟨rfl, x2⟩
 refine ⟨_, rfl, x2, ?_⟩
 have sx2 := x2.size
 refine RW.pure tabOk 1 rfl ?_
 by_cases c1 : y1 = true
 ·
  rw [if_pos c1] at H
  refine RW.bool 10 (b' := true) (c1) rfl ?_
  refine RW.pure tabOk 1 rfl ?_
  have h3 := h1.ext x2
  refine RW.load tabOk [.int .i64 p1.Dev] ((h3.at 0).take 1 rfl) ⟨rfl, rfl, rfl, rfl⟩ rfl rfl rfl rfl ?_
  refine RW.pure tabOk 4 rfl ?_
  by_cases c2 : p1.Dev = p0
  ·
   rw [if_pos c2] at H
   refine RW.bool 16 (b' := false) (bne_f c2) rfl ?_
   refine RW.pure tabOk 20 rfl ?_
   refine RW.done ?_
   refine NW.next ?_
   refine CW.ret ?_
   obtain rfl := Option.some.inj H
   have h4 := Ext.trans (Ext.trans x0 x1) x2
   exact NW.ret1 rfl (by rfl) ⟨rfl, h4⟩
  ·
   rw [if_neg c2] at H
   refine RW.bool 16 (b' := true) (bne_t c2) rfl ?_
   refine RW.pure tabOk 1 rfl ?_
   refine RW.load tabOk [.int .i64 p1.At] (h3.at 1) ⟨rfl, rfl, rfl, rfl⟩ rfl rfl rfl rfl ?_
   refine RW.pure tabOk 3 rfl ?_
   by_cases c3 : 0 ≤ p1.At
   ·
    rw [if_pos c3] at H
    refine RW.bool 21 (b' := true) (decide_eq_true c3) rfl ?_
    refine RW.pure tabOk 4 rfl ?_
    by_cases c4 : 1 ≤ p2
    ·
     rw [if_pos c4] at H
     refine RW.bool 25 (b' := true) (decide_eq_true c4) rfl ?_
     refine RW.pure tabOk 4 rfl ?_
     by_cases c5 : p2 ≤ 64
     ·
      rw [if_pos c5] at H
      refine RW.bool 29 (b' := true) (decide_eq_true c5) rfl ?_
      refine RW.pure tabOk 1 rfl ?_
      refine RW.load tabOk [.int .i64 p1.At] (h3.at 1) ⟨rfl, rfl, rfl, rfl⟩ rfl rfl rfl rfl ?_
      refine RW.pure tabOk 5 rfl ?_
      refine RW.done ?_
      refine NW.next ?_
      refine CW.ret ?_
      obtain rfl := Option.some.inj H
      have h5 := Ext.trans (Ext.trans x0 x1) x2
      exact NW.ret1 rfl (by rfl) ⟨rfl, h5⟩
     ·
      rw [if_neg c5] at H
      refine RW.bool 29 (b' := false) (decide_eq_false c5) rfl ?_
      refine RW.pure tabOk 7 rfl ?_
      refine RW.done ?_
      refine NW.next ?_
      refine CW.ret ?_
      obtain rfl := Option.some.inj H
      have h6 := Ext.trans (Ext.trans x0 x1) x2
      exact NW.ret1 rfl (by rfl) ⟨rfl, h6⟩
    ·
     rw [if_neg c4] at H
     refine RW.bool 25 (b' := false) (decide_eq_false c4) rfl ?_
     refine RW.pure tabOk 11 rfl ?_
     refine RW.done ?_
     refine NW.next ?_
     refine CW.ret ?_
     obtain rfl := Option.some.inj H
     have h7 := Ext.trans (Ext.trans x0 x1) x2
     exact NW.ret1 rfl (by rfl) ⟨rfl, h7⟩
   ·
    rw [if_neg c3] at H
    refine RW.bool 21 (b' := false) (decide_eq_false c3) rfl ?_
    refine RW.pure tabOk 15 rfl ?_
    refine RW.done ?_
    refine NW.next ?_
    refine CW.ret ?_
    obtain rfl := Option.some.inj H
    have h8 := Ext.trans (Ext.trans x0 x1) x2
    exact NW.ret1 rfl (by rfl) ⟨rfl, h8⟩
 ·
  rw [if_neg c1] at H
  refine RW.bool 10 (b' := false) (bool_f c1) rfl ?_
  refine RW.pure tabOk 26 rfl ?_
  refine RW.done ?_
  refine NW.next ?_
  refine CW.ret ?_
  obtain rfl := Option.some.inj H
  have h9 := Ext.trans (Ext.trans x0 x1) x2
  exact NW.ret1 rfl (by rfl) ⟨rfl, h9⟩

set_option maxHeartbeats 4000000 in
set_option maxRecDepth 100000 in
theorem hermitageref0_Num.calls (p0 : Int) (p1 : Int) (r : Bool) (w : World) (H : hermitageref0_Num.f p0 p1 = some r) :
    Calls Try.prog 50 #[.int .i64 p0, .int .i64 p1] w fun e w' => e = .returned (.bool r) ∧ Ext w w' := by
 have x0 : Ext w w := Upd.refl _ w
 unfold hermitageref0_Num.f at H
 refine calls_start Try.func50 rfl 12 rfl [.int .i64 p0, .int .i64 p1] rfl ?_
 refine CW.seq ?_
 refine CW.lex [.W] rfl ?_
 refine RW.pure tabOk 1 rfl ?_
 refine RW.done ?_
 refine NW.next ?_
 refine CW.seq ?_
 refine CW.lex [.W, .W, .W, .W, .W, .W, .W, .W] rfl ?_
 refine RW.pure tabOk 3 rfl ?_
 by_cases c1 : 0 ≤ p0
 ·
  rw [if_pos c1] at H
  refine RW.bool 7 (b' := true) (decide_eq_true c1) rfl ?_
  refine RW.pure tabOk 5 rfl ?_
  refine RW.done ?_
  refine NW.next ?_
  refine CW.ret ?_
  obtain rfl := Option.some.inj H
  exact NW.ret1 rfl (by rfl) ⟨rfl, x0⟩
 ·
  rw [if_neg c1] at H
  refine RW.bool 7 (b' := false) (decide_eq_false c1) rfl ?_
  refine RW.pure tabOk 5 rfl ?_
  refine RW.done ?_
  refine NW.next ?_
  refine CW.ret ?_
  obtain rfl := Option.some.inj H
  exact NW.ret1 rfl (by rfl) ⟨rfl, x0⟩

set_option maxHeartbeats 4000000 in
set_option maxRecDepth 100000 in
theorem hermitageref7_Table.calls (k : Nat) (p0 : Table) (A1 : Option Addr) (c_1 : Nat) (r : Bool) (w : World) (hs1 : Sl kEntry w.heap okAll A1 p0.List_) (hl1 : p0.List_.length ≤ c_1) (H : hermitageref7_Table.f k p0 = some r) :
    Calls Try.prog 19 #[.agg #[.int .i64 p0.Dev, .int .i64 p0.Size, .slice A1 p0.List_.length c_1]] w fun e w' => e = .returned (.bool r) ∧ Ext w w' := by
 have h1 : Sl kEntry w.heap (okL [(0, some w.heap.size, none)]) A1 p0.List_ := hs1.old _ rfl
 have x0 : Ext w w := Upd.refl _ w
 unfold hermitageref7_Table.f at H
 refine calls_start Try.func19 rfl 80 rfl [.agg #[.int .i64 p0.Dev, .int .i64 p0.Size, .slice A1 p0.List_.length c_1]] rfl ?_
 refine CW.seq ?_
 refine CW.lex [.X, .W] rfl ?_
 refine RW.box (cs := [.int .i64 p0.Dev, .int .i64 p0.Size, .slice A1 p0.List_.length c_1]) (.inl rfl) ⟨rfl, rfl, rfl, rfl⟩ rfl rfl rfl ?_
 intro b1 w1 x1 l1 h2
 have sx1 := x1.size
 have ltb1 := h2.lt
 refine RW.pure tabOk 1 rfl ?_
 refine RW.done ?_
 refine NW.next ?_
 refine CW.seq ?_
 refine CW.seqJ (fun a w2 => ∃ (bt15_0 : Bool), Sat 80 [(1, .pointer (some ⟨b1, 0, none⟩)), (15, .bool bt15_0)] a ∧ w1.heap.size ≤ w2.heap.size ∧ Sl kEntry w2.heap (okL [(0, some w.heap.size, none)]) A1 p0.List_ ∧ Ext w w2 ∧ Box w2.heap b1 24 [.int .i64 p0.Dev, .int .i64 p0.Size, .slice A1 p0.List_.length c_1] ∧ hermitageref7_Table.j0 p0 k bt15_0 = some r) ?_ ?_
 ·
  refine CW.lex [.W, .L, .X, .W, .W, .W, .L, .X, .W, .W] rfl ?_
  refine RW.pure tabOk 1 rfl ?_
  refine RW.load tabOk [.int .i64 p0.Dev] ((h2.at 0).take 1 rfl) ⟨rfl, rfl, rfl, rfl⟩ rfl rfl rfl rfl ?_
  obtain ⟨y1, h3, H⟩ := bind_some H
  refine RW.callF (.inl rfl) ent37 ⟨rfl, rfl, rfl, rfl⟩ rfl rfl (hermitageref0_Between.calls p0.Dev 1 40 _ _ h3) ?_
  rintro _ w3 ⟨rfl, x2⟩
  refine ⟨_, rfl, x2, ?_⟩
  have sx2 := x2.size
  refine RW.pure tabOk 2 rfl ?_
  by_cases c1 : y1 = true
  ·
   rw [if_pos c1] at H
   refine RW.bool 10 (b' := false) (not_f (c1)) rfl ?_
   refine RW.pure tabOk 1 rfl ?_
   have h4 := h2.ext x2
   refine RW.load tabOk [.int .i64 p0.Size] ((h4.at 1).take 1 rfl) ⟨rfl, rfl, rfl, rfl⟩ rfl rfl rfl rfl ?_
   obtain ⟨y2, h5, H⟩ := bind_some H
   refine RW.callF (.inl rfl) ent37 ⟨rfl, rfl, rfl, rfl⟩ rfl rfl (hermitageref0_Between.calls p0.Size 1 64 _ _ h5) ?_
   rintro _ w4 ⟨rfl, x3⟩
   refine ⟨_, rfl, x3, ?_⟩
   have sx3 := x3.size
   refine RW.pure tabOk 2 rfl ?_
   refine RW.done ?_
   have h6 := ((h1.ext x1).ext x2).ext x3
   have h7 := Ext.trans (Ext.trans (Ext.trans x0 x1) x2) x3
   have h8 := h4.ext x3
   exact NW.J fun a ha => ⟨(!y2), ha.sub ⟨rfl, rfl, trivial⟩, by omega, h6, h7, h8, H⟩
  ·
   rw [if_neg c1] at H
   refine RW.bool 10 (b' := true) (not_t (bool_f c1)) rfl ?_
   refine RW.pure tabOk 5 rfl ?_
   refine RW.done ?_
   have h9 := (h1.ext x1).ext x2
   have h10 := Ext.trans (Ext.trans x0 x1) x2
   have h11 := h2.ext x2
   exact NW.J fun a ha => ⟨true, ha.sub ⟨rfl, rfl, trivial⟩, by omega, h9, h10, h11, H⟩
 intro a w2 hJ hp
 obtain ⟨bt15_0, hS, hle, gF1_0, x0_0, gb1_0, H⟩ := hJ
 unfold hermitageref7_Table.j0 at H
 refine CW.go hp hS ?_
 by_cases c2 : bt15_0 = true
 ·
  rw [if_pos c2] at H
  refine CW.cond_t rfl (c2) ?_
  refine CW.seq ?_
  refine CW.lex [.W] rfl ?_
  refine RW.pure tabOk 1 rfl ?_
  refine RW.done ?_
  refine NW.next ?_
  refine CW.ret ?_
  refine NW.ret_then ?_
  obtain rfl := Option.some.inj H
  exact NW.ret1 rfl (by rfl) ⟨rfl, x0_0⟩
 ·
  rw [if_neg c2] at H
  refine CW.cond_f rfl (bool_f c2) ?_
  refine CW.skip ?_
  refine NW.next ?_
  refine CW.seq ?_
  refine CW.lex [.W] rfl ?_
  refine RW.pure tabOk 1 rfl ?_
  refine RW.done ?_
  refine NW.next ?_
  refine CW.seq ?_
  refine CW.seq ?_
  refine CW.lex [.W] rfl ?_
  refine RW.pure tabOk 1 rfl ?_
  refine RW.done ?_
  refine NW.next ?_
  refine CW.block ?_
  refine CW.loop (fun n1 a w5 => ∃ (it3_1 : Int) (it4_1 : Int), Sat 80 [(1, .pointer (some ⟨b1, 0, none⟩)), (3, .int .i64 it3_1), (4, .int .i64 it4_1)] a ∧ w2.heap.size ≤ w5.heap.size ∧ Sl kEntry w5.heap (okL [(0, some w.heap.size, none)]) A1 p0.List_ ∧ Ext w w5 ∧ Box w5.heap b1 24 [.int .i64 p0.Dev, .int .i64 p0.Size, .slice A1 p0.List_.length c_1] ∧ hermitageref7_Table.l0 p0 n1 it3_1 it4_1 = some r) k ?_ ?_
  · exact fun a ha => ⟨0, 0, ha.sub ⟨rfl, rfl, rfl, trivial⟩, by omega, gF1_0, x0_0, gb1_0, H⟩
  intro n1 a w5 hI hp
  obtain ⟨it3_1, it4_1, hS, hle, gF1_1, x0_1, gb1_1, H⟩ := hI
  cases n1 with
  | zero => cases H
  | succ n1 =>
   rw [hermitageref7_Table.l0] at H
   refine CW.go hp hS ?_
   refine CW.seq ?_
   refine CW.seq ?_
   refine CW.lex [.W, .W, .L, .W, .W] rfl ?_
   refine RW.pure tabOk 2 rfl ?_
   refine RW.load tabOk [.slice A1 p0.List_.length c_1] (gb1_1.at 2) ⟨rfl, rfl, rfl, rfl⟩ rfl rfl rfl rfl ?_
   refine RW.pure tabOk 2 rfl ?_
   refine RW.done ?_
   refine NW.next ?_
   by_cases c3 : it4_1 < (p0.List_.length : Int)
   ·
    rw [if_pos c3] at H
    refine CW.cond_t rfl (decide_eq_true c3) ?_
    refine CW.skip ?_
    refine NW.next ?_
    refine CW.seq ?_
    refine CW.block ?_
    refine CW.seq ?_
    refine CW.lex [.W, .L, .W, .W, .L, .X, .M] rfl ?_
    refine RW.pure tabOk 1 rfl ?_
    refine RW.load tabOk [.slice A1 p0.List_.length c_1] (gb1_1.at 2) ⟨rfl, rfl, rfl, rfl⟩ rfl rfl rfl rfl ?_
    refine RW.pure tabOk 1 rfl ?_
    obtain ⟨g1, H⟩ := guard_some H
    obtain ⟨ad1, e1, a1⟩ := kEntry_at gF1_1 g1.1 g1.2
    refine RW.index tabOk g1.1 g1.2 e1 ⟨rfl, rfl, rfl, rfl⟩ rfl rfl rfl rfl rfl rfl ?_
    refine RW.load tabOk [.int .i64 ((rd p0.List_ it4_1).From), .int .i64 ((rd p0.List_ it4_1).Len), .int .i64 ((rd p0.List_ it4_1).Dev), .int .i64 ((rd p0.List_ it4_1).To), .int .i64 ((rd p0.List_ it4_1).Stale)] a1 ⟨rfl, rfl, rfl, rfl⟩ rfl rfl rfl rfl ?_
    refine RW.alloc tabOk (.inl rfl) ⟨rfl, rfl, rfl, rfl⟩ rfl rfl ?_
    intro b2 w6 x4 l2 h12
    have sx4 := x4.size
    have ltb2 := h12.lt
    refine RW.storeBox tabOk h12 [.int .i64 ((rd p0.List_ it4_1).From), .int .i64 ((rd p0.List_ it4_1).Len), .int .i64 ((rd p0.List_ it4_1).Dev), .int .i64 ((rd p0.List_ it4_1).To), .int .i64 ((rd p0.List_ it4_1).Stale)] ⟨rfl, rfl, rfl⟩ rfl rfl rfl rfl rfl rfl rfl rfl ?_
    intro w7 x5 h13
    have h14 : Box w7.heap b2 45 [.int .i64 ((rd p0.List_ it4_1).From), .int .i64 ((rd p0.List_ it4_1).Len), .int .i64 ((rd p0.List_ it4_1).Dev), .int .i64 ((rd p0.List_ it4_1).To), .int .i64 ((rd p0.List_ it4_1).Stale)] := h13
    have sx5 := x5.size
    refine RW.done ?_
    refine NW.next ?_
    refine CW.seq ?_
    refine CW.seqJ (fun a w8 => ∃ (bt74_2 : Bool), Sat 80 [(1, .pointer (some ⟨b1, 0, none⟩)), (4, .int .i64 it4_1), (5, .pointer (some ⟨b2, 0, none⟩)), (74, .bool bt74_2)] a ∧ w7.heap.size ≤ w8.heap.size ∧ Sl kEntry w8.heap (okL [(0, some w.heap.size, none)]) A1 p0.List_ ∧ Ext w w8 ∧ Box w8.heap b1 24 [.int .i64 p0.Dev, .int .i64 p0.Size, .slice A1 p0.List_.length c_1] ∧ Box w8.heap b2 45 [.int .i64 ((rd p0.List_ it4_1).From), .int .i64 ((rd p0.List_ it4_1).Len), .int .i64 ((rd p0.List_ it4_1).Dev), .int .i64 ((rd p0.List_ it4_1).To), .int .i64 ((rd p0.List_ it4_1).Stale)] ∧ hermitageref7_Table.j1 p0 it4_1 (hermitageref7_Table.l0 p0 n1) bt74_2 = some r) ?_ ?_
    ·
     refine CW.lex [.W, .L, .W, .W, .W, .W, .L, .W, .W, .W, .W, .L, .W, .L, .W, .W, .W, .W, .L, .W, .L, .W, .L, .W, .W, .W, .W, .W, .L, .W, .L, .W, .L, .W, .W, .L, .X, .W, .W, .W, .W, .L, .W, .L, .X, .W, .W] rfl ?_
     refine RW.pure tabOk 1 rfl ?_
     refine RW.load tabOk [.int .i64 ((rd p0.List_ it4_1).From)] ((h14.at 0).take 1 rfl) ⟨rfl, rfl, rfl, rfl⟩ rfl rfl rfl rfl ?_
     refine RW.pure tabOk 3 rfl ?_
     by_cases c4 : ((rd p0.List_ it4_1).From) < it3_1
     ·
      rw [if_pos c4] at H
      refine RW.bool 32 (b' := true) (decide_eq_true c4) rfl ?_
      refine RW.pure tabOk 42 rfl ?_
      refine RW.done ?_
      have h15 := (gF1_1.ext x4).turnB x5 h12 ⟨.inr (by omega), trivial⟩
      have h16 := Ext.turnB (Ext.trans x0_1 x4) x5 (by omega)
      have h17 := (gb1_1.ext x4).turnB x5 (by omega)
      exact NW.J fun a ha => ⟨true, ha.sub ⟨rfl, rfl, rfl, rfl, trivial⟩, by omega, h15, h16, h17, h14, H⟩
     ·
      rw [if_neg c4] at H
      refine RW.bool 32 (b' := false) (decide_eq_false c4) rfl ?_
      refine RW.pure tabOk 1 rfl ?_
      refine RW.load tabOk [.int .i64 ((rd p0.List_ it4_1).Len)] ((h14.at 1).take 1 rfl) ⟨rfl, rfl, rfl, rfl⟩ rfl rfl rfl rfl ?_
      refine RW.pure tabOk 3 rfl ?_
      by_cases c5 : ((rd p0.List_ it4_1).Len) < 1
      ·
       rw [if_pos c5] at H
       refine RW.bool 37 (b' := true) (decide_eq_true c5) rfl ?_
       refine RW.pure tabOk 37 rfl ?_
       refine RW.done ?_
       have h18 := (gF1_1.ext x4).turnB x5 h12 ⟨.inr (by omega), trivial⟩
       have h19 := Ext.turnB (Ext.trans x0_1 x4) x5 (by omega)
       have h20 := (gb1_1.ext x4).turnB x5 (by omega)
       exact NW.J fun a ha => ⟨true, ha.sub ⟨rfl, rfl, rfl, rfl, trivial⟩, by omega, h18, h19, h20, h14, H⟩
      ·
       rw [if_neg c5] at H
       refine RW.bool 37 (b' := false) (decide_eq_false c5) rfl ?_
       refine RW.pure tabOk 1 rfl ?_
       refine RW.load tabOk [.int .i64 ((rd p0.List_ it4_1).Len)] ((h14.at 1).take 1 rfl) ⟨rfl, rfl, rfl, rfl⟩ rfl rfl rfl rfl ?_
       refine RW.pure tabOk 1 rfl ?_
       have h21 := (gb1_1.ext x4).turnB x5 (by omega)
       refine RW.load tabOk [.int .i64 p0.Size] ((h21.at 1).take 1 rfl) ⟨rfl, rfl, rfl, rfl⟩ rfl rfl rfl rfl ?_
       refine RW.pure tabOk 3 rfl ?_
       by_cases c6 : p0.Size < ((rd p0.List_ it4_1).Len)
       ·
        rw [if_pos c6] at H
        refine RW.bool 44 (b' := true) (decide_eq_true c6) rfl ?_
        refine RW.pure tabOk 30 rfl ?_
        refine RW.done ?_
        have h22 := (gF1_1.ext x4).turnB x5 h12 ⟨.inr (by omega), trivial⟩
        have h23 := Ext.turnB (Ext.trans x0_1 x4) x5 (by omega)
        exact NW.J fun a ha => ⟨true, ha.sub ⟨rfl, rfl, rfl, rfl, trivial⟩, by omega, h22, h23, h21, h14, H⟩
       ·
        rw [if_neg c6] at H
        refine RW.bool 44 (b' := false) (decide_eq_false c6) rfl ?_
        refine RW.pure tabOk 1 rfl ?_
        refine RW.load tabOk [.int .i64 ((rd p0.List_ it4_1).From)] ((h14.at 0).take 1 rfl) ⟨rfl, rfl, rfl, rfl⟩ rfl rfl rfl rfl ?_
        refine RW.pure tabOk 1 rfl ?_
        refine RW.load tabOk [.int .i64 p0.Size] ((h21.at 1).take 1 rfl) ⟨rfl, rfl, rfl, rfl⟩ rfl rfl rfl rfl ?_
        refine RW.pure tabOk 1 rfl ?_
        refine RW.load tabOk [.int .i64 ((rd p0.List_ it4_1).Len)] ((h14.at 1).take 1 rfl) ⟨rfl, rfl, rfl, rfl⟩ rfl rfl rfl rfl ?_
        refine RW.pure tabOk 4 rfl ?_
        by_cases c7 : (w64 (p0.Size - ((rd p0.List_ it4_1).Len))) < ((rd p0.List_ it4_1).From)
        ·
         rw [if_pos c7] at H
         refine RW.bool 54 (b' := true) (decide_eq_true c7) rfl ?_
         refine RW.pure tabOk 20 rfl ?_
         refine RW.done ?_
         have h24 := (gF1_1.ext x4).turnB x5 h12 ⟨.inr (by omega), trivial⟩
         have h25 := Ext.turnB (Ext.trans x0_1 x4) x5 (by omega)
         exact NW.J fun a ha => ⟨true, ha.sub ⟨rfl, rfl, rfl, rfl, trivial⟩, by omega, h24, h25, h21, h14, H⟩
        ·
         rw [if_neg c7] at H
         refine RW.bool 54 (b' := false) (decide_eq_false c7) rfl ?_
         refine RW.pure tabOk 1 rfl ?_
         refine RW.load tabOk [.int .i64 p0.Dev] ((h21.at 0).take 1 rfl) ⟨rfl, rfl, rfl, rfl⟩ rfl rfl rfl rfl ?_
         refine RW.pure tabOk 1 rfl ?_
         refine RW.load tabOk [.int .i64 ((rd p0.List_ it4_1).Dev)] ((h14.at 2).take 1 rfl) ⟨rfl, rfl, rfl, rfl⟩ rfl rfl rfl rfl ?_
         refine RW.pure tabOk 1 rfl ?_
         refine RW.load tabOk [.int .i64 ((rd p0.List_ it4_1).To)] ((h14.at 3).take 1 rfl) ⟨rfl, rfl, rfl, rfl⟩ rfl rfl rfl rfl ?_
         refine RW.pure tabOk 2 rfl ?_
         refine RW.load tabOk [.int .i64 ((rd p0.List_ it4_1).Len)] ((h14.at 1).take 1 rfl) ⟨rfl, rfl, rfl, rfl⟩ rfl rfl rfl rfl ?_
         obtain ⟨y3, h26, H⟩ := bind_some H
         refine RW.callF (.inl rfl) ent49 ⟨rfl, rfl, rfl, rfl⟩ rfl rfl (hermitageref7_Place.calls p0.Dev (⟨(rd p0.List_ it4_1).Dev, (rd p0.List_ it4_1).To⟩ : Ptr) ((rd p0.List_ it4_1).Len) _ _ h26) ?_
         rintro _ w9 ⟨rfl, x6⟩
         refine ⟨_, rfl, x6, ?_⟩
         have sx6 := x6.size
         refine RW.pure tabOk 3 rfl ?_
         by_cases c8 : y3 = true
         ·
          rw [if_pos c8] at H
          refine RW.bool 67 (b' := false) (not_f (c8)) rfl ?_
          refine RW.pure tabOk 1 rfl ?_
          have h27 := h14.ext x6
          refine RW.load tabOk [.int .i64 ((rd p0.List_ it4_1).Stale)] (h27.at 4) ⟨rfl, rfl, rfl, rfl⟩ rfl rfl rfl rfl ?_
          refine RW.pure tabOk 1 rfl ?_
          refine RW.load tabOk [.int .i64 ((rd p0.List_ it4_1).Len)] ((h27.at 1).take 1 rfl) ⟨rfl, rfl, rfl, rfl⟩ rfl rfl rfl rfl ?_
          obtain ⟨y4, h28, H⟩ := bind_some H
          refine RW.callF (.inl rfl) ent50 ⟨rfl, rfl, rfl, rfl⟩ rfl rfl (hermitageref0_Num.calls ((rd p0.List_ it4_1).Stale) ((rd p0.List_ it4_1).Len) _ _ h28) ?_
          rintro _ w10 ⟨rfl, x7⟩
          refine ⟨_, rfl, x7, ?_⟩
          have sx7 := x7.size
          refine RW.pure tabOk 2 rfl ?_
          refine RW.done ?_
          have h29 := (((gF1_1.ext x4).turnB x5 h12 ⟨.inr (by omega), trivial⟩).ext x6).ext x7
          have h30 := Ext.trans (Ext.trans (Ext.turnB (Ext.trans x0_1 x4) x5 (by omega)) x6) x7
          have h31 := (h21.ext x6).ext x7
          have h32 := h27.ext x7
          exact NW.J fun a ha => ⟨(!y4), ha.sub ⟨rfl, rfl, rfl, rfl, trivial⟩, by omega, h29, h30, h31, h32, H⟩
         ·
          rw [if_neg c8] at H
          refine RW.bool 67 (b' := true) (not_t (bool_f c8)) rfl ?_
          refine RW.pure tabOk 7 rfl ?_
          refine RW.done ?_
          have h33 := ((gF1_1.ext x4).turnB x5 h12 ⟨.inr (by omega), trivial⟩).ext x6
          have h34 := Ext.trans (Ext.turnB (Ext.trans x0_1 x4) x5 (by omega)) x6
          have h35 := h21.ext x6
          have h36 := h14.ext x6
          exact NW.J fun a ha => ⟨true, ha.sub ⟨rfl, rfl, rfl, rfl, trivial⟩, by omega, h33, h34, h35, h36, H⟩
    intro a w8 hJ hp
    obtain ⟨bt74_2, hS, hle, gF1_2, x0_2, gb1_2, gb2_2, H⟩ := hJ
    unfold hermitageref7_Table.j1 at H
    refine CW.go hp hS ?_
    by_cases c9 : bt74_2 = true
    ·
     rw [if_pos c9] at H
     refine CW.cond_t rfl (c9) ?_
     refine CW.seq ?_
     refine CW.lex [.W] rfl ?_
     refine RW.pure tabOk 1 rfl ?_
     refine RW.done ?_
     refine NW.next ?_
     refine CW.ret ?_
     refine NW.ret_then (NW.ret_block (NW.ret_then (NW.ret_then (NW.ret_block (NW.ret_then ?_)))))
     obtain rfl := Option.some.inj H
     exact NW.ret1 rfl (by rfl) ⟨rfl, x0_2⟩
    ·
     rw [if_neg c9] at H
     refine CW.cond_f rfl (bool_f c9) ?_
     refine CW.skip ?_
     refine NW.next ?_
     refine CW.lex [.W, .L, .W, .L, .W, .W] rfl ?_
     refine RW.pure tabOk 1 rfl ?_
     refine RW.load tabOk [.int .i64 ((rd p0.List_ it4_1).From)] ((gb2_2.at 0).take 1 rfl) ⟨rfl, rfl, rfl, rfl⟩ rfl rfl rfl rfl ?_
     refine RW.pure tabOk 1 rfl ?_
     refine RW.load tabOk [.int .i64 ((rd p0.List_ it4_1).Len)] ((gb2_2.at 1).take 1 rfl) ⟨rfl, rfl, rfl, rfl⟩ rfl rfl rfl rfl ?_
     refine RW.pure tabOk 2 rfl ?_
     refine RW.done ?_
     refine NW.norm_block (NW.next ?_)
     refine CW.lex [.W, .W, .W] rfl ?_
     refine RW.pure tabOk 3 rfl ?_
     refine RW.done ?_
     exact NW.J fun a ha => ⟨n1, Nat.lt_succ_self n1, (w64 (((rd p0.List_ it4_1).From) + ((rd p0.List_ it4_1).Len))), (w64 (it4_1 + 1)), ha.sub ⟨rfl, rfl, rfl, trivial⟩, by omega, gF1_2, x0_2, gb1_2, H⟩
   ·
    rw [if_neg c3] at H
    refine CW.cond_f rfl (decide_eq_false c3) ?_
    refine CW.exit ?_
    refine NW.exit_then (NW.exit_then (NW.exit_hit ?_))
    refine NW.next ?_
    refine CW.seq ?_
    refine CW.lex [.W] rfl ?_
    refine RW.pure tabOk 1 rfl ?_
    refine RW.done ?_
    refine NW.next ?_
    refine CW.ret ?_
    obtain rfl := Option.some.inj H
    exact NW.ret1 rfl (by rfl) ⟨rfl, x0_1⟩

set_option maxHeartbeats 4000000 in
set_option maxRecDepth 100000 in
theorem hermitageref7_At.calls (k : Nat) (A1 : Option Addr) (c_1 : Nat) (p0 : List Device) (p1 : Int) (r : Int) (w : World) (hs1 : Sl kDeviceR w.heap okAll A1 p0) (hl1 : p0.length ≤ c_1) (H : hermitageref7_At.f k p0 p1 = some r) :
    Calls Try.prog 35 #[.slice A1 p0.length c_1, .int .i64 p1] w fun e w' => e = .returned (.int .i64 r) ∧ Ext w w' := by
 have h1 : Sl kDeviceR w.heap (okL [(0, some w.heap.size, none)]) A1 p0 := hs1.old _ rfl
 have x0 : Ext w w := Upd.refl _ w
 unfold hermitageref7_At.f at H
 refine calls_start Try.func35 rfl 20 rfl [.slice A1 p0.length c_1, .int .i64 p1] rfl ?_
 refine CW.seq ?_
 refine CW.lex [.W] rfl ?_
 refine RW.pure tabOk 1 rfl ?_
 refine RW.done ?_
 refine NW.next ?_
 refine CW.seq ?_
 refine CW.seq ?_
 refine CW.lex [.W] rfl ?_
 refine RW.pure tabOk 1 rfl ?_
 refine RW.done ?_
 refine NW.next ?_
 refine CW.block ?_
 refine CW.loop (fun n1 a w1 => ∃ (it5_0 : Int), Sat 20 [(0, .slice A1 p0.length c_1), (1, .int .i64 p1), (5, .int .i64 it5_0)] a ∧ w.heap.size ≤ w1.heap.size ∧ Sl kDeviceR w1.heap (okL [(0, some w.heap.size, none)]) A1 p0 ∧ Ext w w1 ∧ hermitageref7_At.l0 p0 p1 n1 it5_0 = some r) k ?_ ?_
 · exact fun a ha => ⟨0, ha.sub ⟨rfl, rfl, rfl, trivial⟩, by omega, h1, x0, H⟩
 intro n1 a w1 hI hp
 obtain ⟨it5_0, hS, hle, gF1_0, x0_0, H⟩ := hI
 cases n1 with
 | zero => cases H
 | succ n1 =>
  rw [hermitageref7_At.l0] at H
  refine CW.go hp hS ?_
  refine CW.seq ?_
  refine CW.seq ?_
  refine CW.lex [.W, .W, .W, .W] rfl ?_
  refine RW.pure tabOk 4 rfl ?_
  refine RW.done ?_
  refine NW.next ?_
  by_cases c1 : it5_0 < (p0.length : Int)
  ·
   rw [if_pos c1] at H
   refine CW.cond_t rfl (decide_eq_true c1) ?_
   refine CW.skip ?_
   refine NW.next ?_
   refine CW.seq ?_
   refine CW.block ?_
   refine CW.seq ?_
   refine CW.lex [.W, .W, .W, .W, .L, .W, .W] rfl ?_
   refine RW.pure tabOk 2 rfl ?_
   obtain ⟨g1, H⟩ := guard_some H
   obtain ⟨ad1, A2, c_2, A3, c_3, e1, a1, l1, h2, l2, h3⟩ := kDeviceR_at gF1_0 g1.1 g1.2
   refine RW.index tabOk g1.1 g1.2 e1 ⟨rfl, rfl, rfl, rfl⟩ rfl rfl rfl rfl rfl rfl ?_
   refine RW.pure tabOk 1 rfl ?_
   refine RW.load tabOk [.int .i64 ((rd p0 it5_0).ID)] ((a1.fld 0).take 1 rfl) ⟨rfl, rfl, rfl, rfl⟩ rfl rfl rfl rfl ?_
   refine RW.pure tabOk 2 rfl ?_
   refine RW.done ?_
   refine NW.next ?_
   by_cases c2 : (rd p0 it5_0).ID = p1
   ·
    rw [if_pos c2] at H
    refine CW.cond_t rfl (beq_t c2) ?_
    refine CW.seq ?_
    refine CW.lex [.W, .W] rfl ?_
    refine RW.pure tabOk 2 rfl ?_
    refine RW.done ?_
    refine NW.next ?_
    refine CW.ret ?_
    refine NW.ret_block (NW.ret_then (NW.ret_then (NW.ret_block (NW.ret_then ?_))))
    obtain rfl := Option.some.inj H
    exact NW.ret1 rfl (by rfl) ⟨rfl, x0_0⟩
   ·
    rw [if_neg c2] at H
    refine CW.cond_f rfl (beq_f c2) ?_
    refine CW.skip ?_
    refine NW.norm_block (NW.next ?_)
    refine CW.lex [.W, .W, .W] rfl ?_
    refine RW.pure tabOk 3 rfl ?_
    refine RW.done ?_
    exact NW.J fun a ha => ⟨n1, Nat.lt_succ_self n1, (w64 (it5_0 + 1)), ha.sub ⟨rfl, rfl, rfl, trivial⟩, by omega, gF1_0, x0_0, H⟩
  ·
   rw [if_neg c1] at H
   refine CW.cond_f rfl (decide_eq_false c1) ?_
   refine CW.exit ?_
   refine NW.exit_then (NW.exit_then (NW.exit_hit ?_))
   refine NW.next ?_
   refine CW.seq ?_
   refine CW.lex [.W] rfl ?_
   refine RW.pure tabOk 1 rfl ?_
   refine RW.done ?_
   refine NW.next ?_
   refine CW.ret ?_
   obtain rfl := Option.some.inj H
   exact NW.ret1 rfl (by rfl) ⟨rfl, x0_0⟩

set_option maxHeartbeats 4000000 in
set_option maxRecDepth 100000 in
theorem hermitageref1_Segs.calls (k : Nat) (A1 : Option Addr) (c_1 : Nat) (p0 : List Seg) (r : Bool) (w : World) (hs1 : Sl kSeg w.heap okAll A1 p0) (hl1 : p0.length ≤ c_1) (H : hermitageref1_Segs.f k p0 = some r) :
    Calls Try.prog 118 #[.slice A1 p0.length c_1] w fun e w' => e = .returned (.bool r) ∧ Ext w w' := by
 have h1 : Sl kSeg w.heap (okL [(0, some w.heap.size, none)]) A1 p0 := hs1.old _ rfl
 have x0 : Ext w w := Upd.refl _ w
 unfold hermitageref1_Segs.f at H
 refine calls_start Try.func118 rfl 71 rfl [.slice A1 p0.length c_1] rfl ?_
 refine CW.seq ?_
 refine CW.lex [.W] rfl ?_
 refine RW.pure tabOk 1 rfl ?_
 refine RW.done ?_
 refine NW.next ?_
 refine CW.seq ?_
 refine CW.seq ?_
 refine CW.lex [.W] rfl ?_
 refine RW.pure tabOk 1 rfl ?_
 refine RW.done ?_
 refine NW.next ?_
 refine CW.block ?_
 refine CW.loop (fun n1 a w1 => ∃ (it3_0 : Int), Sat 71 [(0, .slice A1 p0.length c_1), (3, .int .i64 it3_0)] a ∧ w.heap.size ≤ w1.heap.size ∧ Sl kSeg w1.heap (okL [(0, some w.heap.size, none)]) A1 p0 ∧ Ext w w1 ∧ hermitageref1_Segs.l0 p0 n1 it3_0 = some r) k ?_ ?_
 · exact fun a ha => ⟨0, ha.sub ⟨rfl, rfl, trivial⟩, by omega, h1, x0, H⟩
 intro n1 a w1 hI hp
 obtain ⟨it3_0, hS, hle, gF1_0, x0_0, H⟩ := hI
 cases n1 with
 | zero => cases H
 | succ n1 =>
  rw [hermitageref1_Segs.l0] at H
  refine CW.go hp hS ?_
  refine CW.seq ?_
  refine CW.seq ?_
  refine CW.lex [.W, .W, .W, .W] rfl ?_
  refine RW.pure tabOk 4 rfl ?_
  refine RW.done ?_
  refine NW.next ?_
  by_cases c1 : it3_0 < (p0.length : Int)
  ·
   rw [if_pos c1] at H
   refine CW.cond_t rfl (decide_eq_true c1) ?_
   refine CW.skip ?_
   refine NW.next ?_
   refine CW.seq ?_
   refine CW.block ?_
   refine CW.seqJ (fun a w2 => ∃ (bt70_1 : Bool), Sat 71 [(0, .slice A1 p0.length c_1), (3, .int .i64 it3_0), (70, .bool bt70_1)] a ∧ w1.heap.size ≤ w2.heap.size ∧ Sl kSeg w2.heap (okL [(0, some w.heap.size, none)]) A1 p0 ∧ Ext w w2 ∧ hermitageref1_Segs.j0 it3_0 (hermitageref1_Segs.l0 p0 n1) bt70_1 = some r) ?_ ?_
   ·
    refine CW.ord [0, 0, 3, 7, 15, 31, 63, 127, 127, 511, 1023, 2047, 4095, 8191, 16383, 32767, 32767, 131071, 262143, 524287, 1048575, 2097151, 4194303, 8388607, 8388607, 33554431, 67108863, 134217727, 8388607, 8388607, 813694975, 1887436799, 4034920447, 8329887743, 17179869183, 34359738367, 68719476735, 137438953471, 274877906943, 549755813887, 1099511627775, 1099511627775, 3298534883327, 8796093022207, 17592186044415, 35184372088831, 1099511627775, 1099511627775, 141836999983103, 493680720871423, 1056630674292735, 2182530581135359, 4503599627370495, 1099511627775, 1099511627775, 27022697275850751, 63051494294814719, 135109088332742655, 288230376151711743, 576460752303423487, 1152921504606846975] (ofL [(0, .W), (1, .W), (2, .W), (3, .W), (4, .L), (5, .W), (6, .W), (7, .W), (8, .W), (9, .W), (10, .W), (11, .L), (12, .W), (13, .W), (14, .W), (15, .W), (16, .W), (17, .W), (18, .W), (19, .L), (20, .W), (21, .W), (22, .W), (23, .W), (24, .W), (25, .W), (26, .W), (28, .W), (29, .W), (30, .W), (31, .W), (27, .L), (32, .L), (33, .W), (34, .W), (35, .W), (36, .W), (37, .W), (38, .W), (39, .W), (40, .W), (41, .W), (42, .W), (43, .W), (44, .W), (46, .W), (47, .W), (48, .W), (49, .W), (50, .W), (53, .W), (54, .W), (55, .W), (56, .W), (45, .L), (51, .L), (52, .W), (57, .L), (58, .W), (59, .W), (60, .W)] .nil) mixed (by kernel_rfl) ?_
    intro w3 x1
    have sx1 := x1.size
    refine RW.pure tabOk 2 rfl ?_
    obtain ⟨g1, H⟩ := guard_some H
    have h2 := gF1_0.ext x1
    obtain ⟨ad1, e1, a1⟩ := kSeg_at h2 g1.1 g1.2
    refine RW.index tabOk g1.1 g1.2 e1 ⟨rfl, rfl, rfl, rfl⟩ rfl rfl rfl rfl rfl rfl ?_
    refine RW.pure tabOk 1 rfl ?_
    refine RW.load tabOk [.int .i64 ((rd p0 it3_0).At)] ((a1.fld 0).take 1 rfl) ⟨rfl, rfl, rfl, rfl⟩ rfl rfl rfl rfl ?_
    refine RW.pure tabOk 2 rfl ?_
    by_cases c2 : ((rd p0 it3_0).At) < 0
    ·
     rw [if_pos c2] at H
     refine RW.bool 16 (b' := true) (decide_eq_true c2) rfl ?_
     refine RW.pure tabOk 54 rfl ?_
     refine RW.done ?_
     have h3 := Ext.trans x0_0 x1
     exact NW.J fun a ha => ⟨true, ha.sub ⟨rfl, rfl, rfl, trivial⟩, by omega, h2, h3, H⟩
    ·
     rw [if_neg c2] at H
     refine RW.bool 16 (b' := false) (decide_eq_false c2) rfl ?_
     refine RW.pure tabOk 2 rfl ?_
     obtain ⟨g2, H⟩ := guard_some H
     obtain ⟨ad2, e2, a2⟩ := kSeg_at h2 g2.1 g2.2
     refine RW.index tabOk g2.1 g2.2 e2 ⟨rfl, rfl, rfl, rfl⟩ rfl rfl rfl rfl rfl rfl ?_
     refine RW.pure tabOk 1 rfl ?_
     refine RW.load tabOk [.int .i64 ((rd p0 it3_0).Len)] (a2.fld 1) ⟨rfl, rfl, rfl, rfl⟩ rfl rfl rfl rfl ?_
     refine RW.pure tabOk 3 rfl ?_
     by_cases c3 : ((rd p0 it3_0).Len) < 1
     ·
      rw [if_pos c3] at H
      refine RW.bool 24 (b' := true) (decide_eq_true c3) rfl ?_
      refine RW.pure tabOk 46 rfl ?_
      refine RW.done ?_
      have h4 := Ext.trans x0_0 x1
      exact NW.J fun a ha => ⟨true, ha.sub ⟨rfl, rfl, rfl, trivial⟩, by omega, h2, h4, H⟩
     ·
      rw [if_neg c3] at H
      refine RW.bool 24 (b' := false) (decide_eq_false c3) rfl ?_
      refine RW.pure tabOk 2 rfl ?_
      obtain ⟨g3, H⟩ := guard_some H
      obtain ⟨ad3, e3, a3⟩ := kSeg_at h2 g3.1 g3.2
      refine RW.index tabOk g3.1 g3.2 e3 ⟨rfl, rfl, rfl, rfl⟩ rfl rfl rfl rfl rfl rfl ?_
      refine RW.pure tabOk 1 rfl ?_
      refine RW.load tabOk [.int .i64 ((rd p0 it3_0).At)] ((a3.fld 0).take 1 rfl) ⟨rfl, rfl, rfl, rfl⟩ rfl rfl rfl rfl ?_
      refine RW.pure tabOk 3 rfl ?_
      by_cases c4 : 64 < ((rd p0 it3_0).At)
      ·
       rw [if_pos c4] at H
       refine RW.bool 32 (b' := true) (decide_eq_true c4) rfl ?_
       refine RW.pure tabOk 38 rfl ?_
       refine RW.done ?_
       have h5 := Ext.trans x0_0 x1
       exact NW.J fun a ha => ⟨true, ha.sub ⟨rfl, rfl, rfl, trivial⟩, by omega, h2, h5, H⟩
      ·
       rw [if_neg c4] at H
       refine RW.bool 32 (b' := false) (decide_eq_false c4) rfl ?_
       refine RW.pure tabOk 2 rfl ?_
       obtain ⟨g4, H⟩ := guard_some H
       obtain ⟨ad4, e4, a4⟩ := kSeg_at h2 g4.1 g4.2
       refine RW.index tabOk g4.1 g4.2 e4 ⟨rfl, rfl, rfl, rfl⟩ rfl rfl rfl rfl rfl rfl ?_
       refine RW.pure tabOk 3 rfl ?_
       obtain ⟨g5, H⟩ := guard_some H
       obtain ⟨ad5, e5, a5⟩ := kSeg_at h2 g5.1 g5.2
       refine RW.index tabOk g5.1 g5.2 e5 ⟨rfl, rfl, rfl, rfl⟩ rfl rfl rfl rfl rfl rfl ?_
       refine RW.pure tabOk 1 rfl ?_
       refine RW.load tabOk [.int .i64 ((rd p0 it3_0).Len)] (a4.fld 1) ⟨rfl, rfl, rfl, rfl⟩ rfl rfl rfl rfl ?_
       refine RW.load tabOk [.int .i64 ((rd p0 it3_0).At)] ((a5.fld 0).take 1 rfl) ⟨rfl, rfl, rfl, rfl⟩ rfl rfl rfl rfl ?_
       refine RW.pure tabOk 4 rfl ?_
       by_cases c5 : (w64 (64 - ((rd p0 it3_0).At))) < ((rd p0 it3_0).Len)
       ·
        rw [if_pos c5] at H
        refine RW.bool 46 (b' := true) (decide_eq_true c5) rfl ?_
        refine RW.pure tabOk 24 rfl ?_
        refine RW.done ?_
        have h6 := Ext.trans x0_0 x1
        exact NW.J fun a ha => ⟨true, ha.sub ⟨rfl, rfl, rfl, trivial⟩, by omega, h2, h6, H⟩
       ·
        rw [if_neg c5] at H
        refine RW.bool 46 (b' := false) (decide_eq_false c5) rfl ?_
        refine RW.pure tabOk 3 rfl ?_
        by_cases c6 : 0 < it3_0
        ·
         rw [if_pos c6] at H
         refine RW.bool 49 (b' := true) (decide_eq_true c6) rfl ?_
         refine RW.pure tabOk 3 rfl ?_
         obtain ⟨g6, H⟩ := guard_some H
         obtain ⟨ad6, e6, a6⟩ := kSeg_at h2 g6.1 g6.2
         refine RW.index tabOk g6.1 g6.2 e6 ⟨rfl, rfl, rfl, rfl⟩ rfl rfl rfl rfl rfl rfl ?_
         refine RW.pure tabOk 4 rfl ?_
         obtain ⟨g7, H⟩ := guard_some H
         obtain ⟨ad7, e7, a7⟩ := kSeg_at h2 g7.1 g7.2
         refine RW.index tabOk g7.1 g7.2 e7 ⟨rfl, rfl, rfl, rfl⟩ rfl rfl rfl rfl rfl rfl ?_
         refine RW.pure tabOk 3 rfl ?_
         obtain ⟨g8, H⟩ := guard_some H
         obtain ⟨ad8, e8, a8⟩ := kSeg_at h2 g8.1 g8.2
         refine RW.index tabOk g8.1 g8.2 e8 ⟨rfl, rfl, rfl, rfl⟩ rfl rfl rfl rfl rfl rfl ?_
         refine RW.pure tabOk 1 rfl ?_
         refine RW.load tabOk [.int .i64 ((rd p0 (w64 (it3_0 - 1))).At)] ((a6.fld 0).take 1 rfl) ⟨rfl, rfl, rfl, rfl⟩ rfl rfl rfl rfl ?_
         refine RW.load tabOk [.int .i64 ((rd p0 (w64 (it3_0 - 1))).Len)] (a7.fld 1) ⟨rfl, rfl, rfl, rfl⟩ rfl rfl rfl rfl ?_
         refine RW.pure tabOk 1 rfl ?_
         refine RW.load tabOk [.int .i64 ((rd p0 it3_0).At)] ((a8.fld 0).take 1 rfl) ⟨rfl, rfl, rfl, rfl⟩ rfl rfl rfl rfl ?_
         refine RW.pure tabOk 3 rfl ?_
         refine RW.done ?_
         have h7 := Ext.trans x0_0 x1
         exact NW.J fun a ha => ⟨(decide (((rd p0 it3_0).At) ≤ (w64 (((rd p0 (w64 (it3_0 - 1))).At) + ((rd p0 (w64 (it3_0 - 1))).Len))))), ha.sub ⟨rfl, rfl, rfl, trivial⟩, by omega, h2, h7, H⟩
        ·
         rw [if_neg c6] at H
         refine RW.bool 49 (b' := false) (decide_eq_false c6) rfl ?_
         refine RW.pure tabOk 21 rfl ?_
         refine RW.done ?_
         have h8 := Ext.trans x0_0 x1
         exact NW.J fun a ha => ⟨false, ha.sub ⟨rfl, rfl, rfl, trivial⟩, by omega, h2, h8, H⟩
   intro a w2 hJ hp
   obtain ⟨bt70_1, hS, hle, gF1_1, x0_1, H⟩ := hJ
   unfold hermitageref1_Segs.j0 at H
   refine CW.go hp hS ?_
   by_cases c7 : bt70_1 = true
   ·
    rw [if_pos c7] at H
    refine CW.cond_t rfl (c7) ?_
    refine CW.seq ?_
    refine CW.lex [.W] rfl ?_
    refine RW.pure tabOk 1 rfl ?_
    refine RW.done ?_
    refine NW.next ?_
    refine CW.ret ?_
    refine NW.ret_block (NW.ret_then (NW.ret_then (NW.ret_block (NW.ret_then ?_))))
    obtain rfl := Option.some.inj H
    exact NW.ret1 rfl (by rfl) ⟨rfl, x0_1⟩
   ·
    rw [if_neg c7] at H
    refine CW.cond_f rfl (bool_f c7) ?_
    refine CW.skip ?_
    refine NW.norm_block (NW.next ?_)
    refine CW.lex [.W, .W, .W] rfl ?_
    refine RW.pure tabOk 3 rfl ?_
    refine RW.done ?_
    exact NW.J fun a ha => ⟨n1, Nat.lt_succ_self n1, (w64 (it3_0 + 1)), ha.sub ⟨rfl, rfl, trivial⟩, by omega, gF1_1, x0_1, H⟩
  ·
   rw [if_neg c1] at H
   refine CW.cond_f rfl (decide_eq_false c1) ?_
   refine CW.exit ?_
   refine NW.exit_then (NW.exit_then (NW.exit_hit ?_))
   refine NW.next ?_
   refine CW.seq ?_
   refine CW.lex [.W] rfl ?_
   refine RW.pure tabOk 1 rfl ?_
   refine RW.done ?_
   refine NW.next ?_
   refine CW.ret ?_
   obtain rfl := Option.some.inj H
   exact NW.ret1 rfl (by rfl) ⟨rfl, x0_0⟩

set_option maxHeartbeats 4000000 in
set_option maxRecDepth 100000 in
theorem hermitageref1_Ends.calls (A1 : Option Addr) (c_1 : Nat) (p0 : List Seg) (r : Int) (w : World) (hs1 : Sl kSeg w.heap okAll A1 p0) (hl1 : p0.length ≤ c_1) (H : hermitageref1_Ends.f p0 = some r) :
    Calls Try.prog 119 #[.slice A1 p0.length c_1] w fun e w' => e = .returned (.int .i64 r) ∧ Ext w w' := by
 have h1 : Sl kSeg w.heap (okL [(0, some w.heap.size, none)]) A1 p0 := hs1.old _ rfl
 have x0 : Ext w w := Upd.refl _ w
 unfold hermitageref1_Ends.f at H
 refine calls_start Try.func119 rfl 21 rfl [.slice A1 p0.length c_1] rfl ?_
 refine CW.seq ?_
 refine CW.lex [.W] rfl ?_
 refine RW.pure tabOk 1 rfl ?_
 refine RW.done ?_
 refine NW.next ?_
 refine CW.seq ?_
 refine CW.seq ?_
 refine CW.lex [.W, .W, .W] rfl ?_
 refine RW.pure tabOk 3 rfl ?_
 refine RW.done ?_
 refine NW.next ?_
 by_cases c1 : (p0.length : Int) = 0
 ·
  rw [if_pos c1] at H
  refine CW.cond_t rfl (beq_t c1) ?_
  refine CW.seq ?_
  refine CW.lex [.W] rfl ?_
  refine RW.pure tabOk 1 rfl ?_
  refine RW.done ?_
  refine NW.next ?_
  refine CW.ret ?_
  refine NW.ret_then ?_
  obtain rfl := Option.some.inj H
  exact NW.ret1 rfl (by rfl) ⟨rfl, x0⟩
 ·
  rw [if_neg c1] at H
  refine CW.cond_f rfl (beq_f c1) ?_
  refine CW.skip ?_
  refine NW.next ?_
  refine CW.seq ?_
  refine CW.ord [0, 0, 2, 6, 15, 31, 63, 0, 0, 256, 768, 1920, 3968, 8064, 16383, 32767] (ofL [(0, .W), (1, .W), (2, .W), (3, .W), (4, .W), (5, .W), (7, .W), (8, .W), (9, .W), (10, .W), (11, .W), (12, .W), (6, .L), (13, .L), (14, .W), (15, .W)] .nil) mixed (by kernel_rfl) ?_
  intro w1 x1
  have sx1 := x1.size
  refine RW.pure tabOk 4 rfl ?_
  obtain ⟨g1, H⟩ := guard_some H
  have h2 := h1.ext x1
  obtain ⟨ad1, e1, a1⟩ := kSeg_at h2 g1.1 g1.2
  refine RW.index tabOk g1.1 g1.2 e1 ⟨rfl, rfl, rfl, rfl⟩ rfl rfl rfl rfl rfl rfl ?_
  refine RW.pure tabOk 5 rfl ?_
  obtain ⟨g2, H⟩ := guard_some H
  obtain ⟨ad2, e2, a2⟩ := kSeg_at h2 g2.1 g2.2
  refine RW.index tabOk g2.1 g2.2 e2 ⟨rfl, rfl, rfl, rfl⟩ rfl rfl rfl rfl rfl rfl ?_
  refine RW.pure tabOk 1 rfl ?_
  refine RW.load tabOk [.int .i64 ((rd p0 (w64 ((p0.length : Int) - 1))).At)] ((a1.fld 0).take 1 rfl) ⟨rfl, rfl, rfl, rfl⟩ rfl rfl rfl rfl ?_
  refine RW.load tabOk [.int .i64 ((rd p0 (w64 ((p0.length : Int) - 1))).Len)] (a2.fld 1) ⟨rfl, rfl, rfl, rfl⟩ rfl rfl rfl rfl ?_
  refine RW.pure tabOk 2 rfl ?_
  refine RW.done ?_
  refine NW.next ?_
  refine CW.ret ?_
  obtain rfl := Option.some.inj H
  have h3 := Ext.trans x0 x1
  exact NW.ret1 rfl (by rfl) ⟨rfl, h3⟩

set_option maxHeartbeats 4000000 in
set_option maxRecDepth 100000 in
theorem hermitageref1_Set.calls (k : Nat) (A1 : Option Addr) (c_1 : Nat) (p0 : List Seg) (r : (Nat → Bool)) (w : World) (hs1 : Sl kSeg w.heap okAll A1 p0) (hl1 : p0.length ≤ c_1) (H : hermitageref1_Set.f k p0 = some r) :
    Calls Try.prog 102 #[.slice A1 p0.length c_1] w fun e w' => e = .returned (.agg (arrB 64 r).toArray) ∧ Ext w w' := by
 have h1 : Sl kSeg w.heap (okL [(0, some w.heap.size, none)]) A1 p0 := hs1.old _ rfl
 have x0 : Ext w w := Upd.refl _ w
 unfold hermitageref1_Set.f at H
 refine calls_start Try.func102 rfl 35 rfl [.slice A1 p0.length c_1] rfl ?_
 refine CW.seq ?_
 refine CW.lex [.X] rfl ?_
 refine RW.alloc tabOk (.inl rfl) ⟨rfl, rfl, rfl, rfl⟩ rfl rfl ?_
 intro b1 w1 x1 l1 h2
 have sx1 := x1.size
 have ltb1 := h2.lt
 refine RW.done ?_
 refine NW.next ?_
 refine CW.seq ?_
 refine CW.lex [.X] rfl ?_
 refine RW.alloc tabOk (.inl rfl) ⟨rfl, rfl, rfl, rfl⟩ rfl rfl ?_
 intro b2 w2 x2 l2 h3
 have sx2 := x2.size
 have ltb2 := h3.lt
 refine RW.done ?_
 refine NW.next ?_
 refine CW.seq ?_
 refine CW.seq ?_
 refine CW.lex [.W] rfl ?_
 refine RW.pure tabOk 1 rfl ?_
 refine RW.done ?_
 refine NW.next ?_
 refine CW.block ?_
 refine CW.loop (fun n1 a w3 => ∃ (it4_0 : Int) (ab2_0_0 : Nat → Bool), Sat 35 [(0, .slice A1 p0.length c_1), (2, .pointer (some ⟨b1, 0, none⟩)), (3, .pointer (some ⟨b2, 0, none⟩)), (4, .int .i64 it4_0)] a ∧ w2.heap.size ≤ w3.heap.size ∧ Sl kSeg w3.heap (okL [(0, some w.heap.size, none)]) A1 p0 ∧ Ext w w3 ∧ Box w3.heap b1 140 (arrB 64 (fun _ => false)) ∧ Box w3.heap b2 140 (arrB 64 ab2_0_0) ∧ hermitageref1_Set.l0 p0 k n1 it4_0 ab2_0_0 = some r) k ?_ ?_
 have h4 := (h1.ext x1).ext x2
 have h5 := Ext.trans (Ext.trans x0 x1) x2
 have h6 := h2.ext x2
 · exact fun a ha => ⟨0, (fun _ => false), ha.sub ⟨rfl, rfl, rfl, rfl, trivial⟩, by omega, h4, h5, h6, h3, H⟩
 intro n1 a w3 hI hp
 obtain ⟨it4_0, ab2_0_0, hS, hle, gF1_0, x0_0, gb1_0, gb2_0, H⟩ := hI
 cases n1 with
 | zero => cases H
 | succ n1 =>
  rw [hermitageref1_Set.l0] at H
  refine CW.go hp hS ?_
  refine CW.seq ?_
  refine CW.seq ?_
  refine CW.lex [.W, .W, .W, .W] rfl ?_
  refine RW.pure tabOk 4 rfl ?_
  refine RW.done ?_
  refine NW.next ?_
  by_cases c1 : it4_0 < (p0.length : Int)
  ·
   rw [if_pos c1] at H
   refine CW.cond_t rfl (decide_eq_true c1) ?_
   refine CW.skip ?_
   refine NW.next ?_
   refine CW.seq ?_
   refine CW.block ?_
   refine CW.seq ?_
   refine CW.lex [.W, .W, .W, .W, .L, .W] rfl ?_
   refine RW.pure tabOk 2 rfl ?_
   obtain ⟨g1, H⟩ := guard_some H
   obtain ⟨ad1, e1, a1⟩ := kSeg_at gF1_0 g1.1 g1.2
   refine RW.index tabOk g1.1 g1.2 e1 ⟨rfl, rfl, rfl, rfl⟩ rfl rfl rfl rfl rfl rfl ?_
   refine RW.pure tabOk 1 rfl ?_
   refine RW.load tabOk [.int .i64 ((rd p0 it4_0).At)] ((a1.fld 0).take 1 rfl) ⟨rfl, rfl, rfl, rfl⟩ rfl rfl rfl rfl ?_
   refine RW.pure tabOk 1 rfl ?_
   refine RW.done ?_
   refine NW.next ?_
   refine CW.block ?_
   refine CW.loop (fun n2 a w4 => ∃ (it5_1 : Int) (ab2_0_1 : Nat → Bool), Sat 35 [(0, .slice A1 p0.length c_1), (2, .pointer (some ⟨b1, 0, none⟩)), (3, .pointer (some ⟨b2, 0, none⟩)), (4, .int .i64 it4_0), (5, .int .i64 it5_1)] a ∧ w3.heap.size ≤ w4.heap.size ∧ Sl kSeg w4.heap (okL [(0, some w.heap.size, none)]) A1 p0 ∧ Ext w w4 ∧ Box w4.heap b1 140 (arrB 64 (fun _ => false)) ∧ Box w4.heap b2 140 (arrB 64 ab2_0_1) ∧ hermitageref1_Set.l1 p0 it4_0 (hermitageref1_Set.l0 p0 k n1) n2 it5_1 ab2_0_1 = some r) k ?_ ?_
   · exact fun a ha => ⟨((rd p0 it4_0).At), ab2_0_0, ha.sub ⟨rfl, rfl, rfl, rfl, rfl, trivial⟩, by omega, gF1_0, x0_0, gb1_0, gb2_0, H⟩
   intro n2 a w4 hI hp
   obtain ⟨it5_1, ab2_0_1, hS, hle, gF1_1, x0_1, gb1_1, gb2_1, H⟩ := hI
   cases n2 with
   | zero => cases H
   | succ n2 =>
    rw [hermitageref1_Set.l1] at H
    refine CW.go hp hS ?_
    refine CW.seq ?_
    refine CW.seq ?_
    refine CW.ord [0, 0, 0, 6, 14, 30, 0, 0, 192, 448, 960, 2046, 4095] (ofL [(0, .W), (1, .W), (2, .W), (3, .W), (4, .W), (6, .W), (7, .W), (8, .W), (9, .W), (5, .L), (10, .L), (11, .W), (12, .W)] .nil) mixed (by kernel_rfl) ?_
    intro w5 x3
    have sx3 := x3.size
    refine RW.pure tabOk 3 rfl ?_
    obtain ⟨g2, H⟩ := guard_some H
    have h7 := gF1_1.ext x3
    obtain ⟨ad2, e2, a2⟩ := kSeg_at h7 g2.1 g2.2
    refine RW.index tabOk g2.1 g2.2 e2 ⟨rfl, rfl, rfl, rfl⟩ rfl rfl rfl rfl rfl rfl ?_
    refine RW.pure tabOk 3 rfl ?_
    obtain ⟨g3, H⟩ := guard_some H
    obtain ⟨ad3, e3, a3⟩ := kSeg_at h7 g3.1 g3.2
    refine RW.index tabOk g3.1 g3.2 e3 ⟨rfl, rfl, rfl, rfl⟩ rfl rfl rfl rfl rfl rfl ?_
    refine RW.pure tabOk 1 rfl ?_
    refine RW.load tabOk [.int .i64 ((rd p0 it4_0).At)] ((a2.fld 0).take 1 rfl) ⟨rfl, rfl, rfl, rfl⟩ rfl rfl rfl rfl ?_
    refine RW.load tabOk [.int .i64 ((rd p0 it4_0).Len)] (a3.fld 1) ⟨rfl, rfl, rfl, rfl⟩ rfl rfl rfl rfl ?_
    refine RW.pure tabOk 2 rfl ?_
    refine RW.done ?_
    refine NW.next ?_
    by_cases c2 : it5_1 < (w64 (((rd p0 it4_0).At) + ((rd p0 it4_0).Len)))
    ·
     rw [if_pos c2] at H
     refine CW.cond_t rfl (decide_eq_true c2) ?_
     refine CW.skip ?_
     refine NW.next ?_
     refine CW.seq ?_
     refine CW.block ?_
     refine CW.lex [.W, .W, .M] rfl ?_
     refine RW.pure tabOk 1 rfl ?_
     obtain ⟨g4, H⟩ := guard_some H
     refine RW.indexBox tabOk g4.1 g4.2 ⟨rfl, rfl, rfl, rfl⟩ rfl rfl rfl rfl rfl rfl rfl ?_
     have h8 := gb2_1.ext x3
     refine RW.storeBox tabOk h8 [.bool true] ⟨rfl, rfl, rfl⟩ rfl rfl rfl rfl rfl rfl rfl (arrF_fit (by have := g4; omega)) ?_
     intro w6 x4 h9
     have h10 : Box w6.heap b2 140 (arrB 64 (updF ab2_0_1 it5_1.toNat true)) := by rw [lay_arrF] at h9; exact h9
     have sx4 := x4.size
     refine RW.done ?_
     refine NW.norm_block (NW.next ?_)
     refine CW.lex [.W, .W, .W] rfl ?_
     refine RW.pure tabOk 3 rfl ?_
     refine RW.done ?_
     have h11 := h7.turnB x4 h8 ⟨.inr (by omega), trivial⟩
     have h12 := Ext.turnB (Ext.trans x0_1 x3) x4 (by omega)
     have h13 := (gb1_1.ext x3).turnB x4 (by omega)
     exact NW.J fun a ha => ⟨n2, Nat.lt_succ_self n2, (w64 (it5_1 + 1)), (updF ab2_0_1 it5_1.toNat true), ha.sub ⟨rfl, rfl, rfl, rfl, rfl, trivial⟩, by omega, h11, h12, h13, h10, H⟩
    ·
     rw [if_neg c2] at H
     refine CW.cond_f rfl (decide_eq_false c2) ?_
     refine CW.exit ?_
     refine NW.exit_then (NW.exit_then (NW.exit_hit ?_))
     refine NW.norm_block (NW.next ?_)
     refine CW.lex [.W, .W, .W] rfl ?_
     refine RW.pure tabOk 3 rfl ?_
     refine RW.done ?_
     have h14 := Ext.trans x0_1 x3
     have h15 := gb1_1.ext x3
     have h16 := gb2_1.ext x3
     exact NW.J fun a ha => ⟨n1, Nat.lt_succ_self n1, (w64 (it4_0 + 1)), ab2_0_1, ha.sub ⟨rfl, rfl, rfl, rfl, trivial⟩, by omega, h7, h14, h15, h16, H⟩
  ·
   rw [if_neg c1] at H
   refine CW.cond_f rfl (decide_eq_false c1) ?_
   refine CW.exit ?_
   refine NW.exit_then (NW.exit_then (NW.exit_hit ?_))
   refine NW.next ?_
   refine CW.seq ?_
   refine CW.lex [.L, .M] rfl ?_
   refine RW.load tabOk (arrB 64 ab2_0_0) (gb2_0.at 0) ⟨rfl, rfl, rfl, rfl⟩ rfl rfl rfl arrF_len ?_
   refine RW.storeBox tabOk gb1_0 (arrB 64 ab2_0_0) ⟨rfl, rfl, rfl⟩ rfl rfl rfl rfl rfl arrF_len (arrF_all fun _ => rfl) (arrF_fitAll arrF_len) ?_
   intro w7 x5 h17
   have h18 : Box w7.heap b1 140 (arrB 64 ab2_0_0) := by rw [lay_arrFull] at h17; exact h17
   have sx5 := x5.size
   refine RW.done ?_
   refine NW.next ?_
   refine CW.ret ?_
   obtain rfl := Option.some.inj H
   have h19 := Ext.turnB x0_0 x5 (by omega)
   exact NW.ret1 rfl (resOne_cell tabOk (h18.at 0) rfl rfl arrF_len) ⟨rfl, h19⟩

set_option maxHeartbeats 4000000 in
set_option maxRecDepth 100000 in
theorem hermitageref1_Of.calls (k : Nat) (p0 : Nat → Bool) (r : (List Seg)) (w : World) (H : hermitageref1_Of.f k p0 = some r) :
    Calls Try.prog 125 #[.agg (arrB 64 p0).toArray] w fun e w' => ∃ (B1 : Option Addr) (d1 : Nat), e = .returned (.slice B1 r.length d1) ∧ Ext w w' ∧ Ow kSeg 132 w'.heap (okL [(w.heap.size, none, some 132)]) (okL []) B1 d1 r := by
 have x0 : Ext w w := Upd.refl _ w
 unfold hermitageref1_Of.f at H
 refine calls_start Try.func125 rfl 51 rfl [.agg (arrB 64 p0).toArray] rfl ?_
 refine CW.seq ?_
 refine CW.lex [.X, .W] rfl ?_
 refine RW.box (cs := (arrB 64 p0)) (.inl rfl) ⟨rfl, rfl, rfl, rfl⟩ rfl rfl rfl ?_
 intro b1 w1 x1 l1 h1
 have sx1 := x1.size
 have ltb1 := h1.lt
 refine RW.pure tabOk 1 rfl ?_
 refine RW.done ?_
 refine NW.next ?_
 refine CW.seq ?_
 refine CW.lex [.W] rfl ?_
 refine RW.pure tabOk 1 rfl ?_
 refine RW.done ?_
 refine NW.next ?_
 refine CW.seq ?_
 refine CW.seq ?_
 refine CW.lex [.W] rfl ?_
 refine RW.pure tabOk 1 rfl ?_
 refine RW.done ?_
 refine NW.next ?_
 refine CW.block ?_
 refine CW.loop (fun n1 a w2 => ∃ (lt3_0 : List Seg) (At3_0 : Option Addr) (ct3_0 : Nat) (it4_0 : Int), Sat 51 [(1, .pointer (some ⟨b1, 0, none⟩)), (3, .slice At3_0 lt3_0.length ct3_0), (4, .int .i64 it4_0)] a ∧ w1.heap.size ≤ w2.heap.size ∧ Ow kSeg 132 w2.heap (okL [(w1.heap.size, none, some 132)]) (okL []) At3_0 ct3_0 lt3_0 ∧ Ext w w2 ∧ Box w2.heap b1 140 (arrB 64 p0) ∧ hermitageref1_Of.l0 p0 n1 lt3_0 it4_0 = some r) k ?_ ?_
 have h2 := Ext.trans x0 x1
 · exact fun a ha => ⟨([] : List Seg), none, 0, 0, ha.sub ⟨rfl, rfl, rfl, trivial⟩, by omega, Ow.nil, h2, h1, H⟩
 intro n1 a w2 hI hp
 obtain ⟨lt3_0, At3_0, ct3_0, it4_0, hS, hle, ft3_0, x0_0, gb1_0, H⟩ := hI
 cases n1 with
 | zero => cases H
 | succ n1 =>
  rw [hermitageref1_Of.l0] at H
  refine CW.go hp hS ?_
  have h3 : Ow kSeg 132 w2.heap (okL [(w1.heap.size, some w2.heap.size, some 132)]) (okL []) At3_0 ct3_0 lt3_0 := ft3_0.close
  refine CW.seq ?_
  refine CW.seq ?_
  refine CW.lex [.W, .W] rfl ?_
  refine RW.pure tabOk 2 rfl ?_
  refine RW.done ?_
  refine NW.next ?_
  by_cases c1 : it4_0 < 64
  ·
   rw [if_pos c1] at H
   refine CW.cond_t rfl (decide_eq_true c1) ?_
   refine CW.skip ?_
   refine NW.next ?_
   refine CW.seqJ (fun a w3 => ∃ (lt3_1 : List Seg) (At3_1 : Option Addr) (ct3_1 : Nat), Sat 51 [(1, .pointer (some ⟨b1, 0, none⟩)), (3, .slice At3_1 lt3_1.length ct3_1), (4, .int .i64 it4_0)] a ∧ w2.heap.size ≤ w3.heap.size ∧ Ow kSeg 132 w3.heap (okL [(w1.heap.size, none, some 132)]) (okL []) At3_1 ct3_1 lt3_1 ∧ Ext w w3 ∧ Box w3.heap b1 140 (arrB 64 p0) ∧ hermitageref1_Of.j0 it4_0 (hermitageref1_Of.l0 p0 n1) lt3_1 = some r) ?_ ?_
   ·
    refine CW.block ?_
    refine CW.seq ?_
    refine CW.seq ?_
    refine CW.lex [.W, .W, .L, .W] rfl ?_
    refine RW.pure tabOk 1 rfl ?_
    obtain ⟨g1, H⟩ := guard_some H
    refine RW.indexBox tabOk g1.1 g1.2 ⟨rfl, rfl, rfl, rfl⟩ rfl rfl rfl rfl rfl rfl rfl ?_
    refine RW.load tabOk [.bool (p0 it4_0.toNat)] (gb1_0.elF (by have := g1; omega)) ⟨rfl, rfl, rfl, rfl⟩ rfl rfl rfl rfl ?_
    refine RW.pure tabOk 1 rfl ?_
    refine RW.done ?_
    refine NW.next ?_
    by_cases c2 : (p0 it4_0.toNat) = true
    ·
     rw [if_pos c2] at H
     refine CW.cond_f rfl (not_f (c2)) ?_
     refine CW.skip ?_
     refine NW.next ?_
     refine CW.seqJ (fun a w4 => ∃ (bt34_2 : Bool), Sat 51 [(1, .pointer (some ⟨b1, 0, none⟩)), (3, .slice At3_0 lt3_0.length ct3_0), (4, .int .i64 it4_0), (34, .bool bt34_2)] a ∧ w2.heap.size ≤ w4.heap.size ∧ Ow kSeg 132 w4.heap (okL [(w1.heap.size, some w2.heap.size, some 132)]) (okL []) At3_0 ct3_0 lt3_0 ∧ Ext w w4 ∧ Box w4.heap b1 140 (arrB 64 p0) ∧ hermitageref1_Of.j1 lt3_0 it4_0 (hermitageref1_Of.l0 p0 n1) bt34_2 = some r) ?_ ?_
     ·
      refine CW.ord [0, 1, 3, 7, 15, 15, 47, 111, 255, 511, 1023, 15, 15, 4111, 12303, 30735, 63503, 129039, 262143, 15, 1048575, 2097151] (ofL [(0, .W), (1, .W), (2, .W), (3, .W), (4, .W), (5, .W), (6, .W), (7, .W), (8, .W), (9, .W), (11, .W), (12, .W), (13, .W), (14, .W), (15, .W), (16, .W), (19, .W), (10, .L), (17, .L), (18, .W), (20, .W), (21, .W)] .nil) mixed (by kernel_rfl) ?_
      intro w5 x2
      have sx2 := x2.size
      refine RW.pure tabOk 4 rfl ?_
      by_cases c3 : 0 < (lt3_0.length : Int)
      ·
       rw [if_pos c3] at H
       refine RW.bool 16 (b' := true) (decide_eq_true c3) rfl ?_
       refine RW.pure tabOk 4 rfl ?_
       obtain ⟨g2, H⟩ := guard_some H
       have h4 := h3.ext x2
       obtain ⟨ad1, e1, a1⟩ := kSeg_at h4.slL g2.1 g2.2
       refine RW.index tabOk g2.1 g2.2 e1 ⟨rfl, rfl, rfl, rfl⟩ rfl rfl rfl rfl rfl rfl ?_
       refine RW.pure tabOk 5 rfl ?_
       obtain ⟨g3, H⟩ := guard_some H
       obtain ⟨ad2, e2, a2⟩ := kSeg_at h4.slL g3.1 g3.2
       refine RW.index tabOk g3.1 g3.2 e2 ⟨rfl, rfl, rfl, rfl⟩ rfl rfl rfl rfl rfl rfl ?_
       refine RW.pure tabOk 2 rfl ?_
       refine RW.load tabOk [.int .i64 ((rd lt3_0 (w64 ((lt3_0.length : Int) - 1))).At)] ((a1.fld 0).take 1 rfl) ⟨rfl, rfl, rfl, rfl⟩ rfl rfl rfl rfl ?_
       refine RW.load tabOk [.int .i64 ((rd lt3_0 (w64 ((lt3_0.length : Int) - 1))).Len)] (a2.fld 1) ⟨rfl, rfl, rfl, rfl⟩ rfl rfl rfl rfl ?_
       refine RW.pure tabOk 3 rfl ?_
       refine RW.done ?_
       have h5 := Ext.trans x0_0 x2
       have h6 := gb1_0.ext x2
       exact NW.J fun a ha => ⟨((w64 (((rd lt3_0 (w64 ((lt3_0.length : Int) - 1))).At) + ((rd lt3_0 (w64 ((lt3_0.length : Int) - 1))).Len))) == it4_0), ha.sub ⟨rfl, rfl, rfl, rfl, trivial⟩, by omega, h4, h5, h6, H⟩
      ·
       rw [if_neg c3] at H
       refine RW.bool 16 (b' := false) (decide_eq_false c3) rfl ?_
       refine RW.pure tabOk 18 rfl ?_
       refine RW.done ?_
       have h7 := h3.ext x2
       have h8 := Ext.trans x0_0 x2
       have h9 := gb1_0.ext x2
       exact NW.J fun a ha => ⟨false, ha.sub ⟨rfl, rfl, rfl, rfl, trivial⟩, by omega, h7, h8, h9, H⟩
     intro a w4 hJ hp
     obtain ⟨bt34_2, hS, hle, gL0_t3_2, x0_2, gb1_2, H⟩ := hJ
     unfold hermitageref1_Of.j1 at H
     refine CW.go hp hS ?_
     by_cases c4 : bt34_2 = true
     ·
      rw [if_pos c4] at H
      refine CW.cond_t rfl (c4) ?_
      refine CW.lex [.W, .W, .W, .W, .W, .W, .L, .W, .W, .W, .M] rfl ?_
      refine RW.pure tabOk 4 rfl ?_
      obtain ⟨g4, H⟩ := guard_some H
      obtain ⟨ad3, e3, a3⟩ := kSeg_at gL0_t3_2.slL g4.1 g4.2
      refine RW.index tabOk g4.1 g4.2 e3 ⟨rfl, rfl, rfl, rfl⟩ rfl rfl rfl rfl rfl rfl ?_
      refine RW.pure tabOk 1 rfl ?_
      refine RW.load tabOk [.int .i64 ((rd lt3_0 (w64 ((lt3_0.length : Int) - 1))).Len)] (a3.fld 1) ⟨rfl, rfl, rfl, rfl⟩ rfl rfl rfl rfl ?_
      refine RW.pure tabOk 1 rfl ?_
      obtain ⟨g5, H⟩ := guard_some H
      obtain ⟨ad4, e4, a4⟩ := kSeg_at gL0_t3_2.slL g5.1 g5.2
      refine RW.index tabOk g5.1 g5.2 e4 ⟨rfl, rfl, rfl, rfl⟩ rfl rfl rfl rfl rfl rfl ?_
      refine RW.pure tabOk 1 rfl ?_
      refine RW.storeElL (y := (⟨(rd lt3_0 (w64 ((lt3_0.length : Int) - 1))).At, w64 (((rd lt3_0 (w64 ((lt3_0.length : Int) - 1))).Len) + 1)⟩ : Seg)) (lv := []) (k := 1) tabOk gL0_t3_2 (j := (w64 ((lt3_0.length : Int) - 1)).toNat) (by have := g5; omega) default [.int .i64 (w64 (((rd lt3_0 (w64 ((lt3_0.length : Int) - 1))).Len) + 1))] (fun cs ok' hr => by obtain rfl := kSeg_open hr; exact ⟨by simp, kSeg_mk (⟨(rd lt3_0 (w64 ((lt3_0.length : Int) - 1))).At, w64 (((rd lt3_0 (w64 ((lt3_0.length : Int) - 1))).Len) + 1)⟩ : Seg)⟩) trivial ⟨rfl, rfl, rfl⟩ rfl rfl e4 rfl rfl rfl rfl rfl ?_
      intro w6 x3 h10
      have sx3 := x3.size
      have h11 := h10.sub (l' := [(w1.heap.size, some w2.heap.size, some 132)]) (li' := []) ⟨(.inl ⟨by omega, by omega, rfl⟩), trivial⟩ trivial
      refine RW.tell 3 (v' := .slice At3_0 (lt3_0.set (w64 ((lt3_0.length : Int) - 1)).toNat (⟨(rd lt3_0 (w64 ((lt3_0.length : Int) - 1))).At, w64 (((rd lt3_0 (w64 ((lt3_0.length : Int) - 1))).Len) + 1)⟩ : Seg)).length ct3_0) (by simp only [List.length_set]) rfl ?_
      refine RW.done ?_
      refine NW.norm_block ?_
      have h12 := Ext.turn x0_2 x3 ⟨by omega, trivial⟩
      have h13 := gb1_2.turnL x3 (.inl (by decide))
      exact NW.J fun a ha => ⟨(lt3_0.set (w64 ((lt3_0.length : Int) - 1)).toNat (⟨(rd lt3_0 (w64 ((lt3_0.length : Int) - 1))).At, w64 (((rd lt3_0 (w64 ((lt3_0.length : Int) - 1))).Len) + 1)⟩ : Seg)), At3_0, ct3_0, ha.sub ⟨rfl, rfl, rfl, trivial⟩, by omega, (h11.sub ⟨(.inl ⟨by omega, trivial, rfl⟩), trivial⟩ trivial), h12, h13, H⟩
     ·
      rw [if_neg c4] at H
      refine CW.cond_f rfl (bool_f c4) ?_
      refine CW.lex [.W, .W, .W, .X, .M, .W] rfl ?_
      refine RW.pure tabOk 3 rfl ?_
      refine RW.buildSlice (cs := [.int .i64 it4_0, .int .i64 1]) tabOk (.inl rfl) ⟨rfl, rfl, rfl, rfl⟩ rfl rfl rfl rfl rfl rfl rfl ?_
      intro b2 w7 x4 l2 h14
      have sx4 := x4.size
      have ltb2 := h14.lt
      have h15 := gL0_t3_2.ext x4
      obtain ⟨g6, H⟩ := guard_some H
      refine RW.append1L (d := kSeg) (v := (⟨it4_0, 1⟩ : Seg)) (l := [(w1.heap.size, some w2.heap.size, some 132)]) (li := []) (ly := []) (xs := lt3_0) tabOk h15 h14 (kSeg_mk (⟨it4_0, 1⟩ : Seg)) trivial (by simp only [maxLen]; omega) g6 ⟨rfl, rfl, rfl, rfl⟩ rfl rfl rfl rfl rfl rfl rfl ?_
      intro A1 c_1 w8 x5 h16
      have sx5 := x5.size
      have h17 := h16.close.sub (l' := [(w1.heap.size, some w8.heap.size, some 132)]) (li' := []) ⟨(.inl ⟨by omega, by omega, rfl⟩), ⟨(.inl ⟨by omega, by omega, rfl⟩), trivial⟩⟩ trivial
      refine RW.pure tabOk 1 rfl ?_
      refine RW.done ?_
      refine NW.norm_block ?_
      have h18 := Ext.turn (Ext.trans x0_2 x4) x5 ⟨by omega, trivial⟩
      have h19 := (gb1_2.ext x4).turnL x5 (.inl (by decide))
      exact NW.J fun a ha => ⟨(lt3_0 ++ [(⟨it4_0, 1⟩ : Seg)]), A1, c_1, ha.sub ⟨rfl, rfl, rfl, trivial⟩, by omega, (h17.sub ⟨(.inl ⟨by omega, trivial, rfl⟩), trivial⟩ trivial), h18, h19, H⟩
    ·
     rw [if_neg c2] at H
     refine CW.cond_t rfl (not_t (bool_f c2)) ?_
     refine CW.exit ?_
     refine NW.exit_then (NW.exit_hit ?_)
     exact NW.J fun a ha => ⟨lt3_0, At3_0, ct3_0, ha.sub ⟨rfl, rfl, rfl, trivial⟩, by omega, (h3.sub ⟨(.inl ⟨by omega, trivial, rfl⟩), trivial⟩ trivial), x0_0, gb1_0, H⟩
   intro a w3 hJ hp
   obtain ⟨lt3_1, At3_1, ct3_1, hS, hle, ft3_1, x0_1, gb1_1, H⟩ := hJ
   unfold hermitageref1_Of.j0 at H
   refine CW.go hp hS ?_
   have h20 : Ow kSeg 132 w3.heap (okL [(w1.heap.size, some w3.heap.size, some 132)]) (okL []) At3_1 ct3_1 lt3_1 := ft3_1.close
   refine CW.lex [.W, .W, .W] rfl ?_
   refine RW.pure tabOk 3 rfl ?_
   refine RW.done ?_
   exact NW.J fun a ha => ⟨n1, Nat.lt_succ_self n1, lt3_1, At3_1, ct3_1, (w64 (it4_0 + 1)), ha.sub ⟨rfl, rfl, rfl, trivial⟩, by omega, (h20.sub ⟨(.inl ⟨by omega, trivial, rfl⟩), trivial⟩ trivial), x0_1, gb1_1, H⟩
  ·
   rw [if_neg c1] at H
   refine CW.cond_f rfl (decide_eq_false c1) ?_
   refine CW.exit ?_
   refine NW.exit_then (NW.exit_then (NW.exit_hit ?_))
   refine NW.next ?_
   refine CW.seq ?_
   refine CW.lex [.W, .W] rfl ?_
   refine RW.pure tabOk 2 rfl ?_
   refine RW.done ?_
   refine NW.next ?_
   refine CW.ret ?_
   obtain rfl := Option.some.inj H
   exact NW.ret1 rfl (by rfl) ⟨At3_0, ct3_0, rfl, x0_0, (h3.sub (l' := [(w.heap.size, none, some 132)]) (li' := []) ⟨(.inl ⟨by omega, trivial, rfl⟩), trivial⟩ trivial)⟩

set_option maxHeartbeats 4000000 in
set_option maxRecDepth 100000 in
theorem hermitageref1_Two.calls (k : Nat) (A1 : Option Addr) (c_1 : Nat) (p0 : List Seg) (A2 : Option Addr) (c_2 : Nat) (p1 : List Seg) (p2 : Int) (r : (List Seg)) (w : World) (hs1 : Sl kSeg w.heap okAll A1 p0) (hl1 : p0.length ≤ c_1) (hs2 : Sl kSeg w.heap okAll A2 p1) (hl2 : p1.length ≤ c_2) (H : hermitageref1_Two.f k p0 p1 p2 = some r) :
    Calls Try.prog 120 #[.slice A1 p0.length c_1, .slice A2 p1.length c_2, .int .i64 p2] w fun e w' => ∃ (B1 : Option Addr) (d1 : Nat), e = .returned (.slice B1 r.length d1) ∧ Ext w w' ∧ Ow kSeg 132 w'.heap (okL [(w.heap.size, none, some 132)]) (okL []) B1 d1 r := by
 have h1 : Sl kSeg w.heap (okL [(0, some w.heap.size, none)]) A1 p0 := hs1.old _ rfl
 have h2 : Sl kSeg w.heap (okL [(0, some w.heap.size, none)]) A2 p1 := hs2.old _ rfl
 have x0 : Ext w w := Upd.refl _ w
 unfold hermitageref1_Two.f at H
 refine calls_start Try.func120 rfl 57 rfl [.slice A1 p0.length c_1, .slice A2 p1.length c_2, .int .i64 p2] rfl ?_
 refine CW.seq ?_
 refine CW.lex [.W] rfl ?_
 refine RW.pure tabOk 1 rfl ?_
 refine RW.done ?_
 refine NW.next ?_
 refine CW.seq ?_
 refine CW.lex [.W, .X, .W, .X, .X, .X, .M, .M] rfl ?_
 refine RW.pure tabOk 1 rfl ?_
 obtain ⟨y1, h3, H⟩ := bind_some H
 refine RW.callF (.inl rfl) ent102 ⟨rfl, rfl, rfl, rfl⟩ rfl rfl (hermitageref1_Set.calls k A1 c_1 p0 _ _ h1.all hl1 h3) ?_
 rintro _ w1 ⟨rfl, x1⟩
 refine ⟨_, rfl, x1, ?_⟩
 have sx1 := x1.size
 refine RW.pure tabOk 1 rfl ?_
 have h4 := h2.ext x1
 obtain ⟨y2, h5, H⟩ := bind_some H
 refine RW.callF (.inl rfl) ent102 ⟨rfl, rfl, rfl, rfl⟩ rfl rfl (hermitageref1_Set.calls k A2 c_2 p1 _ _ h4.all hl2 h5) ?_
 rintro _ w2 ⟨rfl, x2⟩
 refine ⟨_, rfl, x2, ?_⟩
 have sx2 := x2.size
 refine RW.alloc tabOk (.inl rfl) ⟨rfl, rfl, rfl, rfl⟩ rfl rfl ?_
 intro b1 w3 x3 l1 h6
 have sx3 := x3.size
 have ltb1 := h6.lt
 refine RW.alloc tabOk (.inl rfl) ⟨rfl, rfl, rfl, rfl⟩ rfl rfl ?_
 intro b2 w4 x4 l2 h7
 have sx4 := x4.size
 have ltb2 := h7.lt
 have h8 := h6.ext x4
 refine RW.storeBox tabOk h8 (arrB 64 y1) ⟨rfl, rfl, rfl⟩ rfl rfl rfl rfl rfl arrF_len (arrF_all fun _ => rfl) (arrF_fitAll arrF_len) ?_
 intro w5 x5 h9
 have h10 : Box w5.heap b1 140 (arrB 64 y1) := by rw [lay_arrFull] at h9; exact h9
 have sx5 := x5.size
 have h11 := h7.turnB x5 (by omega)
 refine RW.storeBox tabOk h11 (arrB 64 y2) ⟨rfl, rfl, rfl⟩ rfl rfl rfl rfl rfl arrF_len (arrF_all fun _ => rfl) (arrF_fitAll arrF_len) ?_
 intro w6 x6 h12
 have h13 : Box w6.heap b2 140 (arrB 64 y2) := by rw [lay_arrFull] at h12; exact h12
 have sx6 := x6.size
 refine RW.done ?_
 refine NW.next ?_
 refine CW.seq ?_
 refine CW.lex [.X] rfl ?_
 refine RW.alloc tabOk (.inl rfl) ⟨rfl, rfl, rfl, rfl⟩ rfl rfl ?_
 intro b3 w7 x7 l3 h14
 have sx7 := x7.size
 have ltb3 := h14.lt
 refine RW.done ?_
 refine NW.next ?_
 refine CW.seq ?_
 refine CW.seq ?_
 refine CW.lex [.W] rfl ?_
 refine RW.pure tabOk 1 rfl ?_
 refine RW.done ?_
 refine NW.next ?_
 refine CW.block ?_
 refine CW.loop (fun n1 a w8 => ∃ (it10_0 : Int) (ab3_0_0 : Nat → Bool), Sat 57 [(2, .int .i64 p2), (7, .pointer (some ⟨b1, 0, none⟩)), (8, .pointer (some ⟨b2, 0, none⟩)), (9, .pointer (some ⟨b3, 0, none⟩)), (10, .int .i64 it10_0)] a ∧ w7.heap.size ≤ w8.heap.size ∧ Ext w w8 ∧ Box w8.heap b1 140 (arrB 64 y1) ∧ Box w8.heap b2 140 (arrB 64 y2) ∧ Box w8.heap b3 140 (arrB 64 ab3_0_0) ∧ hermitageref1_Two.l0 p2 k y1 y2 n1 it10_0 ab3_0_0 = some r) k ?_ ?_
 have h15 := Ext.trans (Ext.turnB (Ext.turnB (Ext.trans (Ext.trans (Ext.trans (Ext.trans x0 x1) x2) x3) x4) x5 (by omega)) x6 (by omega)) x7
 have h16 := (h10.turnB x6 (by omega)).ext x7
 have h17 := h13.ext x7
 · exact fun a ha => ⟨0, (fun _ => false), ha.sub ⟨rfl, rfl, rfl, rfl, rfl, trivial⟩, by omega, h15, h16, h17, h14, H⟩
 intro n1 a w8 hI hp
 obtain ⟨it10_0, ab3_0_0, hS, hle, x0_0, gb1_0, gb2_0, gb3_0, H⟩ := hI
 cases n1 with
 | zero => cases H
 | succ n1 =>
  rw [hermitageref1_Two.l0] at H
  refine CW.go hp hS ?_
  refine CW.seq ?_
  refine CW.seq ?_
  refine CW.lex [.W, .W] rfl ?_
  refine RW.pure tabOk 2 rfl ?_
  refine RW.done ?_
  refine NW.next ?_
  by_cases c1 : it10_0 < 64
  ·
   rw [if_pos c1] at H
   refine CW.cond_t rfl (decide_eq_true c1) ?_
   refine CW.skip ?_
   refine NW.next ?_
   refine CW.seqJ (fun a w9 => ∃ (ab3_0_1 : Nat → Bool), Sat 57 [(2, .int .i64 p2), (7, .pointer (some ⟨b1, 0, none⟩)), (8, .pointer (some ⟨b2, 0, none⟩)), (9, .pointer (some ⟨b3, 0, none⟩)), (10, .int .i64 it10_0)] a ∧ w8.heap.size ≤ w9.heap.size ∧ Ext w w9 ∧ Box w9.heap b1 140 (arrB 64 y1) ∧ Box w9.heap b2 140 (arrB 64 y2) ∧ Box w9.heap b3 140 (arrB 64 ab3_0_1) ∧ hermitageref1_Two.j0 it10_0 (hermitageref1_Two.l0 p2 k y1 y2 n1) ab3_0_1 = some r) ?_ ?_
   ·
    refine CW.block ?_
    refine CW.seq ?_
    refine CW.lex [.W] rfl ?_
    refine RW.pure tabOk 1 rfl ?_
    refine RW.done ?_
    refine NW.next ?_
    refine CW.block ?_
    refine CW.seq ?_
    refine CW.lex [.W, .W] rfl ?_
    refine RW.pure tabOk 2 rfl ?_
    refine RW.done ?_
    refine NW.next ?_
    by_cases c2 : p2 = 0
    ·
     rw [if_pos c2] at H
     refine CW.cond_t rfl (beq_t c2) ?_
     refine CW.lex [.W, .W, .W, .L, .W, .W, .W, .L, .W, .W, .M] rfl ?_
     refine RW.pure tabOk 2 rfl ?_
     obtain ⟨g1, H⟩ := guard_some H
     refine RW.indexBox tabOk g1.1 g1.2 ⟨rfl, rfl, rfl, rfl⟩ rfl rfl rfl rfl rfl rfl rfl ?_
     refine RW.load tabOk [.bool (y1 it10_0.toNat)] (gb1_0.elF (by have := g1; omega)) ⟨rfl, rfl, rfl, rfl⟩ rfl rfl rfl rfl ?_
     refine RW.pure tabOk 1 rfl ?_
     by_cases c3 : (y1 it10_0.toNat) = true
     ·
      rw [if_pos c3] at H
      refine RW.bool 36 (b' := true) (c3) rfl ?_
      refine RW.pure tabOk 4 rfl ?_
      obtain ⟨g2, H⟩ := guard_some H
      refine RW.indexBox tabOk g2.1 g2.2 ⟨rfl, rfl, rfl, rfl⟩ rfl rfl rfl rfl rfl rfl rfl ?_
      refine RW.storeBox tabOk gb3_0 [.bool true] ⟨rfl, rfl, rfl⟩ rfl rfl rfl rfl rfl rfl rfl (arrF_fit (by have := g2; omega)) ?_
      intro w10 x8 h18
      have h19 : Box w10.heap b3 140 (arrB 64 (updF ab3_0_0 it10_0.toNat true)) := by rw [lay_arrF] at h18; exact h18
      have sx8 := x8.size
      refine RW.done ?_
      refine NW.norm_block (NW.norm_block ?_)
      have h20 := Ext.turnB x0_0 x8 (by omega)
      have h21 := gb1_0.turnB x8 (by omega)
      have h22 := gb2_0.turnB x8 (by omega)
      exact NW.J fun a ha => ⟨(updF ab3_0_0 it10_0.toNat true), ha.sub ⟨rfl, rfl, rfl, rfl, rfl, trivial⟩, by omega, h20, h21, h22, h19, H⟩
     ·
      rw [if_neg c3] at H
      refine RW.bool 36 (b' := false) (bool_f c3) rfl ?_
      refine RW.pure tabOk 1 rfl ?_
      obtain ⟨g3, H⟩ := guard_some H
      refine RW.indexBox tabOk g3.1 g3.2 ⟨rfl, rfl, rfl, rfl⟩ rfl rfl rfl rfl rfl rfl rfl ?_
      refine RW.load tabOk [.bool (y2 it10_0.toNat)] (gb2_0.elF (by have := g3; omega)) ⟨rfl, rfl, rfl, rfl⟩ rfl rfl rfl rfl ?_
      refine RW.pure tabOk 1 rfl ?_
      obtain ⟨g4, H⟩ := guard_some H
      refine RW.indexBox tabOk g4.1 g4.2 ⟨rfl, rfl, rfl, rfl⟩ rfl rfl rfl rfl rfl rfl rfl ?_
      refine RW.storeBox tabOk gb3_0 [.bool (y2 it10_0.toNat)] ⟨rfl, rfl, rfl⟩ rfl rfl rfl rfl rfl rfl rfl (arrF_fit (by have := g4; omega)) ?_
      intro w11 x9 h23
      have h24 : Box w11.heap b3 140 (arrB 64 (updF ab3_0_0 it10_0.toNat (y2 it10_0.toNat))) := by rw [lay_arrF] at h23; exact h23
      have sx9 := x9.size
      refine RW.done ?_
      refine NW.norm_block (NW.norm_block ?_)
      have h25 := Ext.turnB x0_0 x9 (by omega)
      have h26 := gb1_0.turnB x9 (by omega)
      have h27 := gb2_0.turnB x9 (by omega)
      exact NW.J fun a ha => ⟨(updF ab3_0_0 it10_0.toNat (y2 it10_0.toNat)), ha.sub ⟨rfl, rfl, rfl, rfl, rfl, trivial⟩, by omega, h25, h26, h27, h24, H⟩
    ·
     rw [if_neg c2] at H
     refine CW.cond_f rfl (beq_f c2) ?_
     refine CW.seq ?_
     refine CW.lex [.W, .W] rfl ?_
     refine RW.pure tabOk 2 rfl ?_
     refine RW.done ?_
     refine NW.next ?_
     by_cases c4 : p2 = 1
     ·
      rw [if_pos c4] at H
      refine CW.cond_t rfl (beq_t c4) ?_
      refine CW.lex [.W, .W, .W, .L, .W, .W, .W, .L, .W, .W, .W, .M] rfl ?_
      refine RW.pure tabOk 2 rfl ?_
      obtain ⟨g5, H⟩ := guard_some H
      refine RW.indexBox tabOk g5.1 g5.2 ⟨rfl, rfl, rfl, rfl⟩ rfl rfl rfl rfl rfl rfl rfl ?_
      refine RW.load tabOk [.bool (y1 it10_0.toNat)] (gb1_0.elF (by have := g5; omega)) ⟨rfl, rfl, rfl, rfl⟩ rfl rfl rfl rfl ?_
      refine RW.pure tabOk 1 rfl ?_
      by_cases c5 : (y1 it10_0.toNat) = true
      ·
       rw [if_pos c5] at H
       refine RW.bool 48 (b' := true) (c5) rfl ?_
       refine RW.pure tabOk 1 rfl ?_
       obtain ⟨g6, H⟩ := guard_some H
       refine RW.indexBox tabOk g6.1 g6.2 ⟨rfl, rfl, rfl, rfl⟩ rfl rfl rfl rfl rfl rfl rfl ?_
       refine RW.load tabOk [.bool (y2 it10_0.toNat)] (gb2_0.elF (by have := g6; omega)) ⟨rfl, rfl, rfl, rfl⟩ rfl rfl rfl rfl ?_
       refine RW.pure tabOk 2 rfl ?_
       obtain ⟨g7, H⟩ := guard_some H
       refine RW.indexBox tabOk g7.1 g7.2 ⟨rfl, rfl, rfl, rfl⟩ rfl rfl rfl rfl rfl rfl rfl ?_
       refine RW.storeBox tabOk gb3_0 [.bool (!(y2 it10_0.toNat))] ⟨rfl, rfl, rfl⟩ rfl rfl rfl rfl rfl rfl rfl (arrF_fit (by have := g7; omega)) ?_
       intro w12 x10 h28
       have h29 : Box w12.heap b3 140 (arrB 64 (updF ab3_0_0 it10_0.toNat (!(y2 it10_0.toNat)))) := by rw [lay_arrF] at h28; exact h28
       have sx10 := x10.size
       refine RW.done ?_
       refine NW.norm_block (NW.norm_block ?_)
       have h30 := Ext.turnB x0_0 x10 (by omega)
       have h31 := gb1_0.turnB x10 (by omega)
       have h32 := gb2_0.turnB x10 (by omega)
       exact NW.J fun a ha => ⟨(updF ab3_0_0 it10_0.toNat (!(y2 it10_0.toNat))), ha.sub ⟨rfl, rfl, rfl, rfl, rfl, trivial⟩, by omega, h30, h31, h32, h29, H⟩
      ·
       rw [if_neg c5] at H
       refine RW.bool 48 (b' := false) (bool_f c5) rfl ?_
       refine RW.pure tabOk 5 rfl ?_
       obtain ⟨g8, H⟩ := guard_some H
       refine RW.indexBox tabOk g8.1 g8.2 ⟨rfl, rfl, rfl, rfl⟩ rfl rfl rfl rfl rfl rfl rfl ?_
       refine RW.storeBox tabOk gb3_0 [.bool false] ⟨rfl, rfl, rfl⟩ rfl rfl rfl rfl rfl rfl rfl (arrF_fit (by have := g8; omega)) ?_
       intro w13 x11 h33
       have h34 : Box w13.heap b3 140 (arrB 64 (updF ab3_0_0 it10_0.toNat false)) := by rw [lay_arrF] at h33; exact h33
       have sx11 := x11.size
       refine RW.done ?_
       refine NW.norm_block (NW.norm_block ?_)
       have h35 := Ext.turnB x0_0 x11 (by omega)
       have h36 := gb1_0.turnB x11 (by omega)
       have h37 := gb2_0.turnB x11 (by omega)
       exact NW.J fun a ha => ⟨(updF ab3_0_0 it10_0.toNat false), ha.sub ⟨rfl, rfl, rfl, rfl, rfl, trivial⟩, by omega, h35, h36, h37, h34, H⟩
     ·
      rw [if_neg c4] at H
      refine CW.cond_f rfl (beq_f c4) ?_
      refine CW.lex [.W, .W, .W, .L, .W, .W, .W, .L, .W, .W, .M] rfl ?_
      refine RW.pure tabOk 2 rfl ?_
      obtain ⟨g9, H⟩ := guard_some H
      refine RW.indexBox tabOk g9.1 g9.2 ⟨rfl, rfl, rfl, rfl⟩ rfl rfl rfl rfl rfl rfl rfl ?_
      refine RW.load tabOk [.bool (y1 it10_0.toNat)] (gb1_0.elF (by have := g9; omega)) ⟨rfl, rfl, rfl, rfl⟩ rfl rfl rfl rfl ?_
      refine RW.pure tabOk 1 rfl ?_
      by_cases c6 : (y1 it10_0.toNat) = true
      ·
       rw [if_pos c6] at H
       refine RW.bool 24 (b' := true) (c6) rfl ?_
       refine RW.pure tabOk 1 rfl ?_
       obtain ⟨g10, H⟩ := guard_some H
       refine RW.indexBox tabOk g10.1 g10.2 ⟨rfl, rfl, rfl, rfl⟩ rfl rfl rfl rfl rfl rfl rfl ?_
       refine RW.load tabOk [.bool (y2 it10_0.toNat)] (gb2_0.elF (by have := g10; omega)) ⟨rfl, rfl, rfl, rfl⟩ rfl rfl rfl rfl ?_
       refine RW.pure tabOk 1 rfl ?_
       obtain ⟨g11, H⟩ := guard_some H
       refine RW.indexBox tabOk g11.1 g11.2 ⟨rfl, rfl, rfl, rfl⟩ rfl rfl rfl rfl rfl rfl rfl ?_
       refine RW.storeBox tabOk gb3_0 [.bool (y2 it10_0.toNat)] ⟨rfl, rfl, rfl⟩ rfl rfl rfl rfl rfl rfl rfl (arrF_fit (by have := g11; omega)) ?_
       intro w14 x12 h38
       have h39 : Box w14.heap b3 140 (arrB 64 (updF ab3_0_0 it10_0.toNat (y2 it10_0.toNat))) := by rw [lay_arrF] at h38; exact h38
       have sx12 := x12.size
       refine RW.done ?_
       refine NW.norm_block (NW.norm_block ?_)
       have h40 := Ext.turnB x0_0 x12 (by omega)
       have h41 := gb1_0.turnB x12 (by omega)
       have h42 := gb2_0.turnB x12 (by omega)
       exact NW.J fun a ha => ⟨(updF ab3_0_0 it10_0.toNat (y2 it10_0.toNat)), ha.sub ⟨rfl, rfl, rfl, rfl, rfl, trivial⟩, by omega, h40, h41, h42, h39, H⟩
      ·
       rw [if_neg c6] at H
       refine RW.bool 24 (b' := false) (bool_f c6) rfl ?_
       refine RW.pure tabOk 4 rfl ?_
       obtain ⟨g12, H⟩ := guard_some H
       refine RW.indexBox tabOk g12.1 g12.2 ⟨rfl, rfl, rfl, rfl⟩ rfl rfl rfl rfl rfl rfl rfl ?_
       refine RW.storeBox tabOk gb3_0 [.bool false] ⟨rfl, rfl, rfl⟩ rfl rfl rfl rfl rfl rfl rfl (arrF_fit (by have := g12; omega)) ?_
       intro w15 x13 h43
       have h44 : Box w15.heap b3 140 (arrB 64 (updF ab3_0_0 it10_0.toNat false)) := by rw [lay_arrF] at h43; exact h43
       have sx13 := x13.size
       refine RW.done ?_
       refine NW.norm_block (NW.norm_block ?_)
       have h45 := Ext.turnB x0_0 x13 (by omega)
       have h46 := gb1_0.turnB x13 (by omega)
       have h47 := gb2_0.turnB x13 (by omega)
       exact NW.J fun a ha => ⟨(updF ab3_0_0 it10_0.toNat false), ha.sub ⟨rfl, rfl, rfl, rfl, rfl, trivial⟩, by omega, h45, h46, h47, h44, H⟩
   intro a w9 hJ hp
   obtain ⟨ab3_0_1, hS, hle, x0_1, gb1_1, gb2_1, gb3_1, H⟩ := hJ
   unfold hermitageref1_Two.j0 at H
   refine CW.go hp hS ?_
   refine CW.lex [.W, .W, .W] rfl ?_
   refine RW.pure tabOk 3 rfl ?_
   refine RW.done ?_
   exact NW.J fun a ha => ⟨n1, Nat.lt_succ_self n1, (w64 (it10_0 + 1)), ab3_0_1, ha.sub ⟨rfl, rfl, rfl, rfl, rfl, trivial⟩, by omega, x0_1, gb1_1, gb2_1, gb3_1, H⟩
  ·
   rw [if_neg c1] at H
   refine CW.cond_f rfl (decide_eq_false c1) ?_
   refine CW.exit ?_
   refine NW.exit_then (NW.exit_then (NW.exit_hit ?_))
   refine NW.next ?_
   refine CW.seq ?_
   refine CW.lex [.L, .X, .W] rfl ?_
   refine RW.load tabOk (arrB 64 ab3_0_0) (gb3_0.at 0) ⟨rfl, rfl, rfl, rfl⟩ rfl rfl rfl arrF_len ?_
   obtain ⟨y3, h48, H⟩ := bind_some H
   refine RW.callF (.inl rfl) ent125 ⟨rfl, rfl, rfl, rfl⟩ rfl rfl (hermitageref1_Of.calls k ab3_0_0 _ _ h48) ?_
   rintro _ w16 ⟨A3, c_3, rfl, x14, h49⟩
   refine ⟨_, rfl, x14, ?_⟩
   have sx14 := x14.size
   have h50 : Ow kSeg 132 w16.heap (okL [(w8.heap.size, some w16.heap.size, some 132)]) (okL []) A3 c_3 y3 := h49.close
   refine RW.pure tabOk 1 rfl ?_
   refine RW.done ?_
   refine NW.next ?_
   refine CW.ret ?_
   obtain rfl := Option.some.inj H
   have h51 := Ext.trans x0_0 x14
   exact NW.ret1 rfl (by rfl) ⟨A3, c_3, rfl, h51, (h50.sub (l' := [(w.heap.size, none, some 132)]) (li' := []) ⟨(.inl ⟨by omega, trivial, rfl⟩), trivial⟩ trivial)⟩

set_option maxHeartbeats 4000000 in
set_option maxRecDepth 100000 in
theorem hermitageref7_Device.calls (k : Nat) (p0 : Device) (A1 : Option Addr) (c_1 : Nat) (A2 : Option Addr) (c_2 : Nat) (r : Bool) (w : World) (hs1 : Sl kSeg w.heap okAll A1 p0.Free) (hl1 : p0.Free.length ≤ c_1) (hs2 : Sl kSeg w.heap okAll A2 p0.Late) (hl2 : p0.Late.length ≤ c_2) (H : hermitageref7_Device.f k p0 = some r) :
    Calls Try.prog 96 #[.agg #[.int .i64 p0.ID, .int .i64 p0.Size, .slice A1 p0.Free.length c_1, .slice A2 p0.Late.length c_2]] w fun e w' => e = .returned (.bool r) ∧ Ext w w' := by
 have h1 : Sl kSeg w.heap (okL [(0, some w.heap.size, none)]) A1 p0.Free := hs1.old _ rfl
 have h2 : Sl kSeg w.heap (okL [(0, some w.heap.size, none)]) A2 p0.Late := hs2.old _ rfl
 have x0 : Ext w w := Upd.refl _ w
 unfold hermitageref7_Device.f at H
 refine calls_start Try.func96 rfl 46 rfl [.agg #[.int .i64 p0.ID, .int .i64 p0.Size, .slice A1 p0.Free.length c_1, .slice A2 p0.Late.length c_2]] rfl ?_
 refine CW.seq ?_
 refine CW.lex [.X, .W] rfl ?_
 refine RW.box (cs := [.int .i64 p0.ID, .int .i64 p0.Size, .slice A1 p0.Free.length c_1, .slice A2 p0.Late.length c_2]) (.inl rfl) ⟨rfl, rfl, rfl, rfl⟩ rfl rfl rfl ?_
 intro b1 w1 x1 l1 h3
 have sx1 := x1.size
 have ltb1 := h3.lt
 refine RW.pure tabOk 1 rfl ?_
 refine RW.done ?_
 refine NW.next ?_
 refine CW.seq ?_
 refine CW.ord [0, 1, 3, 7, 15, 31, 63, 127, 255, 511, 1023, 2047, 4095, 8191, 16383, 32767, 65535, 131071, 262143, 524287, 1048575, 2097151, 524287, 4718591, 16777215, 33554431, 67108863, 134217727, 268435455, 536870911, 134217727, 1207959551, 4294967295, 8589934591, 17179869183, 34359738367, 68719476735, 34359738367, 171798691839, 549755813887, 1099511627775, 2199023255551, 4398046511103, 8796093022207] (ofL [(0, .W), (1, .L), (2, .X), (3, .W), (4, .W), (5, .L), (6, .X), (7, .W), (8, .W), (9, .W), (10, .L), (11, .X), (12, .W), (13, .W), (14, .W), (15, .L), (16, .X), (17, .W), (18, .W), (19, .W), (22, .W), (20, .L), (23, .L), (21, .X), (24, .W), (25, .W), (26, .W), (27, .W), (30, .W), (28, .L), (31, .L), (29, .X), (32, .W), (33, .W), (34, .W), (35, .W), (37, .W), (36, .L), (38, .L), (39, .X), (40, .W), (41, .W), (42, .W), (43, .W)] .nil) mixed (by kernel_rfl) ?_
 intro w2 x2
 have sx2 := x2.size
 refine RW.pure tabOk 1 rfl ?_
 have h4 := h3.ext x2
 refine RW.load tabOk [.int .i64 p0.ID] ((h4.at 0).take 1 rfl) ⟨rfl, rfl, rfl, rfl⟩ rfl rfl rfl rfl ?_
 obtain ⟨y1, h5, H⟩ := bind_some H
 refine RW.callF (.inl rfl) ent37 ⟨rfl, rfl, rfl, rfl⟩ rfl rfl (hermitageref0_Between.calls p0.ID 1 40 _ _ h5) ?_
 rintro _ w3 ⟨rfl, x3⟩
 refine ⟨_, rfl, x3, ?_⟩
 have sx3 := x3.size
 refine RW.pure tabOk 1 rfl ?_
 by_cases c1 : y1 = true
 ·
  rw [if_pos c1] at H
  refine RW.bool 6 (b' := true) (c1) rfl ?_
  refine RW.pure tabOk 1 rfl ?_
  have h6 := h4.ext x3
  refine RW.load tabOk [.int .i64 p0.Size] ((h6.at 1).take 1 rfl) ⟨rfl, rfl, rfl, rfl⟩ rfl rfl rfl rfl ?_
  obtain ⟨y2, h7, H⟩ := bind_some H
  refine RW.callF (.inl rfl) ent37 ⟨rfl, rfl, rfl, rfl⟩ rfl rfl (hermitageref0_Between.calls p0.Size 1 64 _ _ h7) ?_
  rintro _ w4 ⟨rfl, x4⟩
  refine ⟨_, rfl, x4, ?_⟩
  have sx4 := x4.size
  refine RW.pure tabOk 2 rfl ?_
  by_cases c2 : y2 = true
  ·
   rw [if_pos c2] at H
   refine RW.bool 11 (b' := true) (c2) rfl ?_
   refine RW.pure tabOk 1 rfl ?_
   have h8 := h6.ext x4
   refine RW.load tabOk [.slice A1 p0.Free.length c_1] ((h8.at 2).take 1 rfl) ⟨rfl, rfl, rfl, rfl⟩ rfl rfl rfl rfl ?_
   have h9 := (((h1.ext x1).ext x2).ext x3).ext x4
   obtain ⟨y3, h10, H⟩ := bind_some H
   refine RW.callF (.inl rfl) ent118 ⟨rfl, rfl, rfl, rfl⟩ rfl rfl (hermitageref1_Segs.calls k A1 c_1 p0.Free _ _ h9.all hl1 h10) ?_
   rintro _ w5 ⟨rfl, x5⟩
   refine ⟨_, rfl, x5, ?_⟩
   have sx5 := x5.size
   refine RW.pure tabOk 2 rfl ?_
   by_cases c3 : y3 = true
   ·
    rw [if_pos c3] at H
    refine RW.bool 16 (b' := true) (c3) rfl ?_
    refine RW.pure tabOk 1 rfl ?_
    have h11 := h8.ext x5
    refine RW.load tabOk [.slice A2 p0.Late.length c_2] (h11.at 3) ⟨rfl, rfl, rfl, rfl⟩ rfl rfl rfl rfl ?_
    have h12 := ((((h2.ext x1).ext x2).ext x3).ext x4).ext x5
    obtain ⟨y4, h13, H⟩ := bind_some H
    refine RW.callF (.inl rfl) ent118 ⟨rfl, rfl, rfl, rfl⟩ rfl rfl (hermitageref1_Segs.calls k A2 c_2 p0.Late _ _ h12.all hl2 h13) ?_
    rintro _ w6 ⟨rfl, x6⟩
    refine ⟨_, rfl, x6, ?_⟩
    have sx6 := x6.size
    refine RW.pure tabOk 2 rfl ?_
    by_cases c4 : y4 = true
    ·
     rw [if_pos c4] at H
     refine RW.bool 21 (b' := true) (c4) rfl ?_
     refine RW.pure tabOk 2 rfl ?_
     have h14 := h11.ext x6
     refine RW.load tabOk [.slice A1 p0.Free.length c_1] ((h14.at 2).take 1 rfl) ⟨rfl, rfl, rfl, rfl⟩ rfl rfl rfl rfl ?_
     refine RW.load tabOk [.int .i64 p0.Size] ((h14.at 1).take 1 rfl) ⟨rfl, rfl, rfl, rfl⟩ rfl rfl rfl rfl ?_
     have h15 := (h9.ext x5).ext x6
     obtain ⟨y5, h16, H⟩ := bind_some H
     refine RW.callF (.inl rfl) ent119 ⟨rfl, rfl, rfl, rfl⟩ rfl rfl (hermitageref1_Ends.calls A1 c_1 p0.Free _ _ h15.all hl1 h16) ?_
     rintro _ w7 ⟨rfl, x7⟩
     refine ⟨_, rfl, x7, ?_⟩
     have sx7 := x7.size
     refine RW.pure tabOk 3 rfl ?_
     by_cases c5 : y5 ≤ p0.Size
     ·
      rw [if_pos c5] at H
      refine RW.bool 29 (b' := true) (decide_eq_true c5) rfl ?_
      refine RW.pure tabOk 2 rfl ?_
      have h17 := h14.ext x7
      refine RW.load tabOk [.slice A2 p0.Late.length c_2] (h17.at 3) ⟨rfl, rfl, rfl, rfl⟩ rfl rfl rfl rfl ?_
      refine RW.load tabOk [.int .i64 p0.Size] ((h17.at 1).take 1 rfl) ⟨rfl, rfl, rfl, rfl⟩ rfl rfl rfl rfl ?_
      have h18 := (h12.ext x6).ext x7
      obtain ⟨y6, h19, H⟩ := bind_some H
      refine RW.callF (.inl rfl) ent119 ⟨rfl, rfl, rfl, rfl⟩ rfl rfl (hermitageref1_Ends.calls A2 c_2 p0.Late _ _ h18.all hl2 h19) ?_
      rintro _ w8 ⟨rfl, x8⟩
      refine ⟨_, rfl, x8, ?_⟩
      have sx8 := x8.size
      refine RW.pure tabOk 3 rfl ?_
      by_cases c6 : y6 ≤ p0.Size
      ·
       rw [if_pos c6] at H
       refine RW.bool 37 (b' := true) (decide_eq_true c6) rfl ?_
       refine RW.pure tabOk 2 rfl ?_
       have h20 := h17.ext x8
       refine RW.load tabOk [.slice A1 p0.Free.length c_1] ((h20.at 2).take 1 rfl) ⟨rfl, rfl, rfl, rfl⟩ rfl rfl rfl rfl ?_
       refine RW.load tabOk [.slice A2 p0.Late.length c_2] (h20.at 3) ⟨rfl, rfl, rfl, rfl⟩ rfl rfl rfl rfl ?_
       have h21 := (h15.ext x7).ext x8
       have h22 := h18.ext x8
       obtain ⟨y7, h23, H⟩ := bind_some H
       refine RW.callF (.inl rfl) ent120 ⟨rfl, rfl, rfl, rfl⟩ rfl rfl (hermitageref1_Two.calls k A1 c_1 p0.Free A2 c_2 p0.Late 2 _ _ h21.all hl1 h22.all hl2 h23) ?_
       rintro _ w9 ⟨A3, c_3, rfl, x9, h24⟩
       refine ⟨_, rfl, x9, ?_⟩
       have sx9 := x9.size
       have h25 : Ow kSeg 132 w9.heap (okL [(w8.heap.size, some w9.heap.size, some 132)]) (okL []) A3 c_3 y7 := h24.close
       refine RW.pure tabOk 4 rfl ?_
       refine RW.done ?_
       refine NW.next ?_
       refine CW.ret ?_
       obtain rfl := Option.some.inj H
       have h26 := Ext.trans (Ext.trans (Ext.trans (Ext.trans (Ext.trans (Ext.trans (Ext.trans (Ext.trans (Ext.trans x0 x1) x2) x3) x4) x5) x6) x7) x8) x9
       exact NW.ret1 rfl (by rfl) ⟨rfl, h26⟩
      ·
       rw [if_neg c6] at H
       refine RW.bool 37 (b' := false) (decide_eq_false c6) rfl ?_
       refine RW.pure tabOk 9 rfl ?_
       refine RW.done ?_
       refine NW.next ?_
       refine CW.ret ?_
       obtain rfl := Option.some.inj H
       have h27 := Ext.trans (Ext.trans (Ext.trans (Ext.trans (Ext.trans (Ext.trans (Ext.trans (Ext.trans x0 x1) x2) x3) x4) x5) x6) x7) x8
       exact NW.ret1 rfl (by rfl) ⟨rfl, h27⟩
     ·
      rw [if_neg c5] at H
      refine RW.bool 29 (b' := false) (decide_eq_false c5) rfl ?_
      refine RW.pure tabOk 17 rfl ?_
      refine RW.done ?_
      refine NW.next ?_
      refine CW.ret ?_
      obtain rfl := Option.some.inj H
      have h28 := Ext.trans (Ext.trans (Ext.trans (Ext.trans (Ext.trans (Ext.trans (Ext.trans x0 x1) x2) x3) x4) x5) x6) x7
      exact NW.ret1 rfl (by rfl) ⟨rfl, h28⟩
    ·
     rw [if_neg c4] at H
     refine RW.bool 21 (b' := false) (bool_f c4) rfl ?_
     refine RW.pure tabOk 25 rfl ?_
     refine RW.done ?_
     refine NW.next ?_
     refine CW.ret ?_
     obtain rfl := Option.some.inj H
     have h29 := Ext.trans (Ext.trans (Ext.trans (Ext.trans (Ext.trans (Ext.trans x0 x1) x2) x3) x4) x5) x6
     exact NW.ret1 rfl (by rfl) ⟨rfl, h29⟩
   ·
    rw [if_neg c3] at H
    refine RW.bool 16 (b' := false) (bool_f c3) rfl ?_
    refine RW.pure tabOk 30 rfl ?_
    refine RW.done ?_
    refine NW.next ?_
    refine CW.ret ?_
    obtain rfl := Option.some.inj H
    have h30 := Ext.trans (Ext.trans (Ext.trans (Ext.trans (Ext.trans x0 x1) x2) x3) x4) x5
    exact NW.ret1 rfl (by rfl) ⟨rfl, h30⟩
  ·
   rw [if_neg c2] at H
   refine RW.bool 11 (b' := false) (bool_f c2) rfl ?_
   refine RW.pure tabOk 35 rfl ?_
   refine RW.done ?_
   refine NW.next ?_
   refine CW.ret ?_
   obtain rfl := Option.some.inj H
   have h31 := Ext.trans (Ext.trans (Ext.trans (Ext.trans x0 x1) x2) x3) x4
   exact NW.ret1 rfl (by rfl) ⟨rfl, h31⟩
 ·
  rw [if_neg c1] at H
  refine RW.bool 6 (b' := false) (bool_f c1) rfl ?_
  refine RW.pure tabOk 40 rfl ?_
  refine RW.done ?_
  refine NW.next ?_
  refine CW.ret ?_
  obtain rfl := Option.some.inj H
  have h32 := Ext.trans (Ext.trans (Ext.trans x0 x1) x2) x3
  exact NW.ret1 rfl (by rfl) ⟨rfl, h32⟩

set_option maxHeartbeats 4000000 in
set_option maxRecDepth 100000 in
theorem hermitageref7_Devices.calls (k : Nat) (A1 : Option Addr) (c_1 : Nat) (p0 : List Device) (r : Bool) (w : World) (hs1 : Sl kDeviceR w.heap okAll A1 p0) (hl1 : p0.length ≤ c_1) (H : hermitageref7_Devices.f k p0 = some r) :
    Calls Try.prog 69 #[.slice A1 p0.length c_1] w fun e w' => e = .returned (.bool r) ∧ Ext w w' := by
 have h1 : Sl kDeviceR w.heap (okL [(0, some w.heap.size, none)]) A1 p0 := hs1.old _ rfl
 have x0 : Ext w w := Upd.refl _ w
 unfold hermitageref7_Devices.f at H
 refine calls_start Try.func69 rfl 37 rfl [.slice A1 p0.length c_1] rfl ?_
 refine CW.seq ?_
 refine CW.lex [.W] rfl ?_
 refine RW.pure tabOk 1 rfl ?_
 refine RW.done ?_
 refine NW.next ?_
 refine CW.seq ?_
 refine CW.seq ?_
 refine CW.lex [.W, .W, .W] rfl ?_
 refine RW.pure tabOk 3 rfl ?_
 refine RW.done ?_
 refine NW.next ?_
 by_cases c1 : 6 < (p0.length : Int)
 ·
  rw [if_pos c1] at H
  refine CW.cond_t rfl (decide_eq_true c1) ?_
  refine CW.seq ?_
  refine CW.lex [.W] rfl ?_
  refine RW.pure tabOk 1 rfl ?_
  refine RW.done ?_
  refine NW.next ?_
  refine CW.ret ?_
  refine NW.ret_then ?_
  obtain rfl := Option.some.inj H
  exact NW.ret1 rfl (by rfl) ⟨rfl, x0⟩
 ·
  rw [if_neg c1] at H
  refine CW.cond_f rfl (decide_eq_false c1) ?_
  refine CW.skip ?_
  refine NW.next ?_
  refine CW.seq ?_
  refine CW.seq ?_
  refine CW.lex [.W] rfl ?_
  refine RW.pure tabOk 1 rfl ?_
  refine RW.done ?_
  refine NW.next ?_
  refine CW.block ?_
  refine CW.loop (fun n1 a w1 => ∃ (it3_0 : Int), Sat 37 [(0, .slice A1 p0.length c_1), (3, .int .i64 it3_0)] a ∧ w.heap.size ≤ w1.heap.size ∧ Sl kDeviceR w1.heap (okL [(0, some w.heap.size, none)]) A1 p0 ∧ Ext w w1 ∧ hermitageref7_Devices.l0 p0 k n1 it3_0 = some r) k ?_ ?_
  · exact fun a ha => ⟨0, ha.sub ⟨rfl, rfl, trivial⟩, by omega, h1, x0, H⟩
  intro n1 a w1 hI hp
  obtain ⟨it3_0, hS, hle, gF1_0, x0_0, H⟩ := hI
  cases n1 with
  | zero => cases H
  | succ n1 =>
   rw [hermitageref7_Devices.l0] at H
   refine CW.go hp hS ?_
   refine CW.seq ?_
   refine CW.seq ?_
   refine CW.lex [.W, .W, .W, .W] rfl ?_
   refine RW.pure tabOk 4 rfl ?_
   refine RW.done ?_
   refine NW.next ?_
   by_cases c2 : it3_0 < (p0.length : Int)
   ·
    rw [if_pos c2] at H
    refine CW.cond_t rfl (decide_eq_true c2) ?_
    refine CW.skip ?_
    refine NW.next ?_
    refine CW.seq ?_
    refine CW.block ?_
    refine CW.seqJ (fun a w2 => ∃ (bt36_1 : Bool), Sat 37 [(0, .slice A1 p0.length c_1), (3, .int .i64 it3_0), (36, .bool bt36_1)] a ∧ w1.heap.size ≤ w2.heap.size ∧ Sl kDeviceR w2.heap (okL [(0, some w.heap.size, none)]) A1 p0 ∧ Ext w w2 ∧ hermitageref7_Devices.j0 it3_0 (hermitageref7_Devices.l0 p0 k n1) bt36_1 = some r) ?_ ?_
    ·
     refine CW.ord [0, 0, 3, 7, 15, 31, 63, 127, 255, 511, 1023, 1023, 3071, 8191, 16383, 32767, 1023, 1023, 197631, 459775, 984063, 2097151, 4194303, 8388607] (ofL [(0, .W), (1, .W), (2, .W), (3, .L), (4, .X), (5, .W), (6, .W), (7, .W), (8, .W), (9, .W), (10, .W), (11, .W), (12, .W), (13, .W), (14, .W), (16, .W), (17, .W), (18, .W), (19, .W), (15, .L), (20, .L), (21, .W), (22, .W), (23, .W)] .nil) mixed (by kernel_rfl) ?_
     intro w3 x1
     have sx1 := x1.size
     refine RW.pure tabOk 2 rfl ?_
     obtain ⟨g1, H⟩ := guard_some H
     have h2 := gF1_0.ext x1
     obtain ⟨ad1, A2, c_2, A3, c_3, e1, a1, l1, h3, l2, h4⟩ := kDeviceR_at h2 g1.1 g1.2
     refine RW.index tabOk g1.1 g1.2 e1 ⟨rfl, rfl, rfl, rfl⟩ rfl rfl rfl rfl rfl rfl ?_
     refine RW.load tabOk [.int .i64 ((rd p0 it3_0).ID), .int .i64 ((rd p0 it3_0).Size), .slice A2 ((rd p0 it3_0).Free).length c_2, .slice A3 ((rd p0 it3_0).Late).length c_3] a1 ⟨rfl, rfl, rfl, rfl⟩ rfl rfl rfl rfl ?_
     obtain ⟨y1, h5, H⟩ := bind_some H
     refine RW.callF (.inl rfl) ent96 ⟨rfl, rfl, rfl, rfl⟩ rfl rfl (hermitageref7_Device.calls k (rd p0 it3_0) A2 c_2 A3 c_3 _ _ h3.all l1 h4.all l2 h5) ?_
     rintro _ w4 ⟨rfl, x2⟩
     refine ⟨_, rfl, x2, ?_⟩
     have sx2 := x2.size
     refine RW.pure tabOk 2 rfl ?_
     by_cases c3 : y1 = true
     ·
      rw [if_pos c3] at H
      refine RW.bool 19 (b' := false) (not_f (c3)) rfl ?_
      refine RW.pure tabOk 3 rfl ?_
      by_cases c4 : 0 < it3_0
      ·
       rw [if_pos c4] at H
       refine RW.bool 22 (b' := true) (decide_eq_true c4) rfl ?_
       refine RW.pure tabOk 3 rfl ?_
       obtain ⟨g2, H⟩ := guard_some H
       have h6 := h2.ext x2
       obtain ⟨ad2, A4, c_4, A5, c_5, e2, a2, l3, h7, l4, h8⟩ := kDeviceR_at h6 g2.1 g2.2
       refine RW.index tabOk g2.1 g2.2 e2 ⟨rfl, rfl, rfl, rfl⟩ rfl rfl rfl rfl rfl rfl ?_
       refine RW.pure tabOk 3 rfl ?_
       obtain ⟨g3, H⟩ := guard_some H
       obtain ⟨ad3, A6, c_6, A7, c_7, e3, a3, l5, h9, l6, h10⟩ := kDeviceR_at h6 g3.1 g3.2
       refine RW.index tabOk g3.1 g3.2 e3 ⟨rfl, rfl, rfl, rfl⟩ rfl rfl rfl rfl rfl rfl ?_
       refine RW.pure tabOk 1 rfl ?_
       refine RW.load tabOk [.int .i64 ((rd p0 (w64 (it3_0 - 1))).ID)] ((a2.fld 0).take 1 rfl) ⟨rfl, rfl, rfl, rfl⟩ rfl rfl rfl rfl ?_
       refine RW.load tabOk [.int .i64 ((rd p0 it3_0).ID)] ((a3.fld 0).take 1 rfl) ⟨rfl, rfl, rfl, rfl⟩ rfl rfl rfl rfl ?_
       refine RW.pure tabOk 3 rfl ?_
       refine RW.done ?_
       have h11 := Ext.trans (Ext.trans x0_0 x1) x2
       exact NW.J fun a ha => ⟨(decide (((rd p0 it3_0).ID) ≤ ((rd p0 (w64 (it3_0 - 1))).ID))), ha.sub ⟨rfl, rfl, rfl, trivial⟩, by omega, h6, h11, H⟩
      ·
       rw [if_neg c4] at H
       refine RW.bool 22 (b' := false) (decide_eq_false c4) rfl ?_
       refine RW.pure tabOk 14 rfl ?_
       refine RW.done ?_
       have h12 := h2.ext x2
       have h13 := Ext.trans (Ext.trans x0_0 x1) x2
       exact NW.J fun a ha => ⟨false, ha.sub ⟨rfl, rfl, rfl, trivial⟩, by omega, h12, h13, H⟩
     ·
      rw [if_neg c3] at H
      refine RW.bool 19 (b' := true) (not_t (bool_f c3)) rfl ?_
      refine RW.pure tabOk 17 rfl ?_
      refine RW.done ?_
      have h14 := h2.ext x2
      have h15 := Ext.trans (Ext.trans x0_0 x1) x2
      exact NW.J fun a ha => ⟨true, ha.sub ⟨rfl, rfl, rfl, trivial⟩, by omega, h14, h15, H⟩
    intro a w2 hJ hp
    obtain ⟨bt36_1, hS, hle, gF1_1, x0_1, H⟩ := hJ
    unfold hermitageref7_Devices.j0 at H
    refine CW.go hp hS ?_
    by_cases c5 : bt36_1 = true
    ·
     rw [if_pos c5] at H
     refine CW.cond_t rfl (c5) ?_
     refine CW.seq ?_
     refine CW.lex [.W] rfl ?_
     refine RW.pure tabOk 1 rfl ?_
     refine RW.done ?_
     refine NW.next ?_
     refine CW.ret ?_
     refine NW.ret_block (NW.ret_then (NW.ret_then (NW.ret_block (NW.ret_then ?_))))
     obtain rfl := Option.some.inj H
     exact NW.ret1 rfl (by rfl) ⟨rfl, x0_1⟩
    ·
     rw [if_neg c5] at H
     refine CW.cond_f rfl (bool_f c5) ?_
     refine CW.skip ?_
     refine NW.norm_block (NW.next ?_)
     refine CW.lex [.W, .W, .W] rfl ?_
     refine RW.pure tabOk 3 rfl ?_
     refine RW.done ?_
     exact NW.J fun a ha => ⟨n1, Nat.lt_succ_self n1, (w64 (it3_0 + 1)), ha.sub ⟨rfl, rfl, trivial⟩, by omega, gF1_1, x0_1, H⟩
   ·
    rw [if_neg c2] at H
    refine CW.cond_f rfl (decide_eq_false c2) ?_
    refine CW.exit ?_
    refine NW.exit_then (NW.exit_then (NW.exit_hit ?_))
    refine NW.next ?_
    refine CW.seq ?_
    refine CW.lex [.W] rfl ?_
    refine RW.pure tabOk 1 rfl ?_
    refine RW.done ?_
    refine NW.next ?_
    refine CW.ret ?_
    obtain rfl := Option.some.inj H
    exact NW.ret1 rfl (by rfl) ⟨rfl, x0_0⟩

set_option maxHeartbeats 4000000 in
set_option maxRecDepth 100000 in
theorem hermitageref9_Table.calls (k : Nat) (p0 : Pool) (A1 : Option Addr) (c_1 : Nat) (A2 : Option Addr) (c_2 : Nat) (A3 : Option Addr) (c_3 : Nat) (p1 : Int) (r : Int) (w : World) (hs1 : Sl kDeviceR w.heap okAll A1 p0.Devices) (hl1 : p0.Devices.length ≤ c_1) (hs2 : Sl kTableR w.heap okAll A2 p0.Tables) (hl2 : p0.Tables.length ≤ c_2) (hs3 : Sl kEntry w.heap okAll A3 p0.Job.Table.List_) (hl3 : p0.Job.Table.List_.length ≤ c_3) (H : hermitageref9_Table.f k p0 p1 = some r) :
    Calls Try.prog 70 #[.agg #[.slice A1 p0.Devices.length c_1, .slice A2 p0.Tables.length c_2, .int .i64 p0.Job.Dev, .int .i64 p0.Job.At, .int .i64 p0.Job.Table.Dev, .int .i64 p0.Job.Table.Size, .slice A3 p0.Job.Table.List_.length c_3, .int .i64 p0.Next], .int .i64 p1] w fun e w' => e = .returned (.int .i64 r) ∧ Ext w w' := by
 have h1 : Sl kDeviceR w.heap (okL [(0, some w.heap.size, none)]) A1 p0.Devices := hs1.old _ rfl
 have h2 : Sl kTableR w.heap (okL [(0, some w.heap.size, none)]) A2 p0.Tables := hs2.old _ rfl
 have h3 : Sl kEntry w.heap (okL [(0, some w.heap.size, none)]) A3 p0.Job.Table.List_ := hs3.old _ rfl
 have x0 : Ext w w := Upd.refl _ w
 unfold hermitageref9_Table.f at H
 refine calls_start Try.func70 rfl 22 rfl [.agg #[.slice A1 p0.Devices.length c_1, .slice A2 p0.Tables.length c_2, .int .i64 p0.Job.Dev, .int .i64 p0.Job.At, .int .i64 p0.Job.Table.Dev, .int .i64 p0.Job.Table.Size, .slice A3 p0.Job.Table.List_.length c_3, .int .i64 p0.Next], .int .i64 p1] rfl ?_
 refine CW.seq ?_
 refine CW.lex [.X, .W] rfl ?_
 refine RW.box (cs := [.slice A1 p0.Devices.length c_1, .slice A2 p0.Tables.length c_2, .int .i64 p0.Job.Dev, .int .i64 p0.Job.At, .int .i64 p0.Job.Table.Dev, .int .i64 p0.Job.Table.Size, .slice A3 p0.Job.Table.List_.length c_3, .int .i64 p0.Next]) (.inl rfl) ⟨rfl, rfl, rfl, rfl⟩ rfl rfl rfl ?_
 intro b1 w1 x1 l1 h4
 have sx1 := x1.size
 have ltb1 := h4.lt
 refine RW.pure tabOk 1 rfl ?_
 refine RW.done ?_
 refine NW.next ?_
 refine CW.seq ?_
 refine CW.seq ?_
 refine CW.lex [.W] rfl ?_
 refine RW.pure tabOk 1 rfl ?_
 refine RW.done ?_
 refine NW.next ?_
 refine CW.block ?_
 refine CW.loop (fun n1 a w2 => ∃ (it5_0 : Int), Sat 22 [(1, .int .i64 p1), (2, .pointer (some ⟨b1, 0, none⟩)), (5, .int .i64 it5_0)] a ∧ w1.heap.size ≤ w2.heap.size ∧ Sl kDeviceR w2.heap (okL [(0, some w.heap.size, none)]) A1 p0.Devices ∧ Sl kTableR w2.heap (okL [(0, some w.heap.size, none)]) A2 p0.Tables ∧ Sl kEntry w2.heap (okL [(0, some w.heap.size, none)]) A3 p0.Job.Table.List_ ∧ Ext w w2 ∧ Box w2.heap b1 61 [.slice A1 p0.Devices.length c_1, .slice A2 p0.Tables.length c_2, .int .i64 p0.Job.Dev, .int .i64 p0.Job.At, .int .i64 p0.Job.Table.Dev, .int .i64 p0.Job.Table.Size, .slice A3 p0.Job.Table.List_.length c_3, .int .i64 p0.Next] ∧ hermitageref9_Table.l0 p0 p1 n1 it5_0 = some r) k ?_ ?_
 have h5 := h1.ext x1
 have h6 := h2.ext x1
 have h7 := h3.ext x1
 have h8 := Ext.trans x0 x1
 · exact fun a ha => ⟨0, ha.sub ⟨rfl, rfl, rfl, trivial⟩, by omega, h5, h6, h7, h8, h4, H⟩
 intro n1 a w2 hI hp
 obtain ⟨it5_0, hS, hle, gF1_0, gF2_0, gF3_0, x0_0, gb1_0, H⟩ := hI
 cases n1 with
 | zero => cases H
 | succ n1 =>
  rw [hermitageref9_Table.l0] at H
  refine CW.go hp hS ?_
  refine CW.seq ?_
  refine CW.seq ?_
  refine CW.lex [.W, .W, .L, .W, .W] rfl ?_
  refine RW.pure tabOk 2 rfl ?_
  refine RW.load tabOk [.slice A2 p0.Tables.length c_2] ((gb1_0.at 1).take 1 rfl) ⟨rfl, rfl, rfl, rfl⟩ rfl rfl rfl rfl ?_
  refine RW.pure tabOk 2 rfl ?_
  refine RW.done ?_
  refine NW.next ?_
  by_cases c1 : it5_0 < (p0.Tables.length : Int)
  ·
   rw [if_pos c1] at H
   refine CW.cond_t rfl (decide_eq_true c1) ?_
   refine CW.skip ?_
   refine NW.next ?_
   refine CW.seq ?_
   refine CW.block ?_
   refine CW.seq ?_
   refine CW.lex [.W, .L, .W, .W, .W, .L, .W, .W] rfl ?_
   refine RW.pure tabOk 1 rfl ?_
   refine RW.load tabOk [.slice A2 p0.Tables.length c_2] ((gb1_0.at 1).take 1 rfl) ⟨rfl, rfl, rfl, rfl⟩ rfl rfl rfl rfl ?_
   refine RW.pure tabOk 1 rfl ?_
   obtain ⟨g1, H⟩ := guard_some H
   obtain ⟨ad1, A4, c_4, e1, a1, l2, h9⟩ := kTableR_at gF2_0 g1.1 g1.2
   refine RW.index tabOk g1.1 g1.2 e1 ⟨rfl, rfl, rfl, rfl⟩ rfl rfl rfl rfl rfl rfl ?_
   refine RW.pure tabOk 1 rfl ?_
   refine RW.load tabOk [.int .i64 ((rd p0.Tables it5_0).Dev)] ((a1.fld 0).take 1 rfl) ⟨rfl, rfl, rfl, rfl⟩ rfl rfl rfl rfl ?_
   refine RW.pure tabOk 2 rfl ?_
   refine RW.done ?_
   refine NW.next ?_
   by_cases c2 : (rd p0.Tables it5_0).Dev = p1
   ·
    rw [if_pos c2] at H
    refine CW.cond_t rfl (beq_t c2) ?_
    refine CW.seq ?_
    refine CW.lex [.W, .W] rfl ?_
    refine RW.pure tabOk 2 rfl ?_
    refine RW.done ?_
    refine NW.next ?_
    refine CW.ret ?_
    refine NW.ret_block (NW.ret_then (NW.ret_then (NW.ret_block (NW.ret_then ?_))))
    obtain rfl := Option.some.inj H
    exact NW.ret1 rfl (by rfl) ⟨rfl, x0_0⟩
   ·
    rw [if_neg c2] at H
    refine CW.cond_f rfl (beq_f c2) ?_
    refine CW.skip ?_
    refine NW.norm_block (NW.next ?_)
    refine CW.lex [.W, .W, .W] rfl ?_
    refine RW.pure tabOk 3 rfl ?_
    refine RW.done ?_
    exact NW.J fun a ha => ⟨n1, Nat.lt_succ_self n1, (w64 (it5_0 + 1)), ha.sub ⟨rfl, rfl, rfl, trivial⟩, by omega, gF1_0, gF2_0, gF3_0, x0_0, gb1_0, H⟩
  ·
   rw [if_neg c1] at H
   refine CW.cond_f rfl (decide_eq_false c1) ?_
   refine CW.exit ?_
   refine NW.exit_then (NW.exit_then (NW.exit_hit ?_))
   refine NW.next ?_
   refine CW.seq ?_
   refine CW.lex [.W] rfl ?_
   refine RW.pure tabOk 1 rfl ?_
   refine RW.done ?_
   refine NW.next ?_
   refine CW.ret ?_
   obtain rfl := Option.some.inj H
   exact NW.ret1 rfl (by rfl) ⟨rfl, x0_0⟩

set_option maxHeartbeats 4000000 in
set_option maxRecDepth 100000 in
theorem hermitageref9_round.calls (k : Nat) (p0 : Pool) (A1 : Option Addr) (c_1 : Nat) (A2 : Option Addr) (c_2 : Nat) (A3 : Option Addr) (c_3 : Nat) (r : Bool) (w : World) (hs1 : Sl kDeviceR w.heap okAll A1 p0.Devices) (hl1 : p0.Devices.length ≤ c_1) (hs2 : Sl kTableR w.heap okAll A2 p0.Tables) (hl2 : p0.Tables.length ≤ c_2) (hs3 : Sl kEntry w.heap okAll A3 p0.Job.Table.List_) (hl3 : p0.Job.Table.List_.length ≤ c_3) (H : hermitageref9_round.f k p0 = some r) :
    Calls Try.prog 71 #[.agg #[.slice A1 p0.Devices.length c_1, .slice A2 p0.Tables.length c_2, .int .i64 p0.Job.Dev, .int .i64 p0.Job.At, .int .i64 p0.Job.Table.Dev, .int .i64 p0.Job.Table.Size, .slice A3 p0.Job.Table.List_.length c_3, .int .i64 p0.Next]] w fun e w' => e = .returned (.bool r) ∧ Ext w w' := by
 have h1 : Sl kDeviceR w.heap (okL [(0, some w.heap.size, none)]) A1 p0.Devices := hs1.old _ rfl
 have h2 : Sl kTableR w.heap (okL [(0, some w.heap.size, none)]) A2 p0.Tables := hs2.old _ rfl
 have h3 : Sl kEntry w.heap (okL [(0, some w.heap.size, none)]) A3 p0.Job.Table.List_ := hs3.old _ rfl
 have x0 : Ext w w := Upd.refl _ w
 unfold hermitageref9_round.f at H
 refine calls_start Try.func71 rfl 75 rfl [.agg #[.slice A1 p0.Devices.length c_1, .slice A2 p0.Tables.length c_2, .int .i64 p0.Job.Dev, .int .i64 p0.Job.At, .int .i64 p0.Job.Table.Dev, .int .i64 p0.Job.Table.Size, .slice A3 p0.Job.Table.List_.length c_3, .int .i64 p0.Next]] rfl ?_
 refine CW.seq ?_
 refine CW.lex [.X, .W] rfl ?_
 refine RW.box (cs := [.slice A1 p0.Devices.length c_1, .slice A2 p0.Tables.length c_2, .int .i64 p0.Job.Dev, .int .i64 p0.Job.At, .int .i64 p0.Job.Table.Dev, .int .i64 p0.Job.Table.Size, .slice A3 p0.Job.Table.List_.length c_3, .int .i64 p0.Next]) (.inl rfl) ⟨rfl, rfl, rfl, rfl⟩ rfl rfl rfl ?_
 intro b1 w1 x1 l1 h4
 have sx1 := x1.size
 have ltb1 := h4.lt
 refine RW.pure tabOk 1 rfl ?_
 refine RW.done ?_
 refine NW.next ?_
 refine CW.seq ?_
 refine CW.lex [.W, .L, .W, .X, .W] rfl ?_
 refine RW.pure tabOk 1 rfl ?_
 refine RW.load tabOk [.slice A2 p0.Tables.length c_2] ((h4.at 1).take 1 rfl) ⟨rfl, rfl, rfl, rfl⟩ rfl rfl rfl rfl ?_
 refine RW.pure tabOk 1 rfl ?_
 obtain ⟨g1, H⟩ := guard_some H
 refine RW.makeSlice (d := Kd.bool) (z0 := false) tabOk g1.1 g1.2 (.inl rfl) ⟨rfl, rfl, rfl, rfl⟩ rfl rfl rfl rfl rfl rfl (fun _ => rfl) rfl rfl ?_
 intro b2 w2 x2 l2 h5
 have sx2 := x2.size
 refine RW.pure tabOk 1 rfl ?_
 refine RW.done ?_
 refine NW.next ?_
 refine CW.seq ?_
 refine CW.seq ?_
 refine CW.lex [.W] rfl ?_
 refine RW.pure tabOk 1 rfl ?_
 refine RW.done ?_
 refine NW.next ?_
 refine CW.block ?_
 refine CW.loop (fun n1 a w3 => ∃ (lt3_0 : List Bool) (At3_0 : Option Addr) (ct3_0 : Nat) (bt4_0 : Bool), Sat 75 [(1, .pointer (some ⟨b1, 0, none⟩)), (3, .slice At3_0 lt3_0.length ct3_0), (4, .bool bt4_0)] a ∧ w2.heap.size ≤ w3.heap.size ∧ Ow Kd.bool 4 w3.heap (okL [(w1.heap.size, some w2.heap.size, some 4)]) (okL []) At3_0 ct3_0 lt3_0 ∧ Sl kDeviceR w3.heap (okL [(0, some w.heap.size, none)]) A1 p0.Devices ∧ Sl kTableR w3.heap (okL [(0, some w.heap.size, none)]) A2 p0.Tables ∧ Sl kEntry w3.heap (okL [(0, some w.heap.size, none)]) A3 p0.Job.Table.List_ ∧ Ext w w3 ∧ Box w3.heap b1 61 [.slice A1 p0.Devices.length c_1, .slice A2 p0.Tables.length c_2, .int .i64 p0.Job.Dev, .int .i64 p0.Job.At, .int .i64 p0.Job.Table.Dev, .int .i64 p0.Job.Table.Size, .slice A3 p0.Job.Table.List_.length c_3, .int .i64 p0.Next] ∧ hermitageref9_round.l0 p0 k n1 lt3_0 bt4_0 = some r) k ?_ ?_
 have h6 := (h1.ext x1).ext x2
 have h7 := (h2.ext x1).ext x2
 have h8 := (h3.ext x1).ext x2
 have h9 := Ext.trans (Ext.trans x0 x1) x2
 have h10 := h4.ext x2
 · exact fun a ha => ⟨(List.replicate (p0.Tables.length : Int).toNat false), (some ⟨b2, 0, none⟩), ((p0.Tables.length : Int).toNat), true, ha.sub ⟨rfl, rfl, rfl, trivial⟩, by omega, (h5.sub ⟨(.inl ⟨by omega, by omega, rfl⟩), trivial⟩ trivial), h6, h7, h8, h9, h10, H⟩
 intro n1 a w3 hI hp
 obtain ⟨lt3_0, At3_0, ct3_0, bt4_0, hS, hle, ft3_0, gF1_0, gF2_0, gF3_0, x0_0, gb1_0, H⟩ := hI
 cases n1 with
 | zero => cases H
 | succ n1 =>
  rw [hermitageref9_round.l0] at H
  refine CW.go hp hS ?_
  refine CW.seq ?_
  refine CW.seq ?_
  refine CW.lex [.W] rfl ?_
  refine RW.pure tabOk 1 rfl ?_
  refine RW.done ?_
  refine NW.next ?_
  by_cases c1 : bt4_0 = true
  ·
   rw [if_pos c1] at H
   refine CW.cond_t rfl (c1) ?_
   refine CW.skip ?_
   refine NW.next ?_
   refine CW.block ?_
   refine CW.seq ?_
   refine CW.lex [.W] rfl ?_
   refine RW.pure tabOk 1 rfl ?_
   refine RW.done ?_
   refine NW.next ?_
   refine CW.seq ?_
   refine CW.lex [.W] rfl ?_
   refine RW.pure tabOk 1 rfl ?_
   refine RW.done ?_
   refine NW.next ?_
   refine CW.block ?_
   refine CW.loop (fun n2 a w4 => ∃ (lt3_1 : List Bool) (At3_1 : Option Addr) (ct3_1 : Nat) (bt4_1 : Bool) (it5_1 : Int), Sat 75 [(1, .pointer (some ⟨b1, 0, none⟩)), (3, .slice At3_1 lt3_1.length ct3_1), (4, .bool bt4_1), (5, .int .i64 it5_1)] a ∧ w3.heap.size ≤ w4.heap.size ∧ Ow Kd.bool 4 w4.heap (okL [(w1.heap.size, some w2.heap.size, some 4)]) (okL []) At3_1 ct3_1 lt3_1 ∧ Sl kDeviceR w4.heap (okL [(0, some w.heap.size, none)]) A1 p0.Devices ∧ Sl kTableR w4.heap (okL [(0, some w.heap.size, none)]) A2 p0.Tables ∧ Sl kEntry w4.heap (okL [(0, some w.heap.size, none)]) A3 p0.Job.Table.List_ ∧ Ext w w4 ∧ Box w4.heap b1 61 [.slice A1 p0.Devices.length c_1, .slice A2 p0.Tables.length c_2, .int .i64 p0.Job.Dev, .int .i64 p0.Job.At, .int .i64 p0.Job.Table.Dev, .int .i64 p0.Job.Table.Size, .slice A3 p0.Job.Table.List_.length c_3, .int .i64 p0.Next] ∧ hermitageref9_round.l1 p0 k (hermitageref9_round.l0 p0 k n1) n2 lt3_1 bt4_1 it5_1 = some r) k ?_ ?_
   · exact fun a ha => ⟨lt3_0, At3_0, ct3_0, false, 0, ha.sub ⟨rfl, rfl, rfl, rfl, trivial⟩, by omega, (ft3_0.sub ⟨(.inl ⟨by omega, by omega, rfl⟩), trivial⟩ trivial), gF1_0, gF2_0, gF3_0, x0_0, gb1_0, H⟩
   intro n2 a w4 hI hp
   obtain ⟨lt3_1, At3_1, ct3_1, bt4_1, it5_1, hS, hle, ft3_1, gF1_1, gF2_1, gF3_1, x0_1, gb1_1, H⟩ := hI
   cases n2 with
   | zero => cases H
   | succ n2 =>
    rw [hermitageref9_round.l1] at H
    refine CW.go hp hS ?_
    refine CW.seq ?_
    refine CW.seq ?_
    refine CW.lex [.W, .W, .L, .W, .W] rfl ?_
    refine RW.pure tabOk 2 rfl ?_
    refine RW.load tabOk [.slice A2 p0.Tables.length c_2] ((gb1_1.at 1).take 1 rfl) ⟨rfl, rfl, rfl, rfl⟩ rfl rfl rfl rfl ?_
    refine RW.pure tabOk 2 rfl ?_
    refine RW.done ?_
    refine NW.next ?_
    by_cases c2 : it5_1 < (p0.Tables.length : Int)
    ·
     rw [if_pos c2] at H
     refine CW.cond_t rfl (decide_eq_true c2) ?_
     refine CW.skip ?_
     refine NW.next ?_
     refine CW.seqJ (fun a w5 => ∃ (lt3_2 : List Bool) (At3_2 : Option Addr) (ct3_2 : Nat) (bt4_2 : Bool), Sat 75 [(1, .pointer (some ⟨b1, 0, none⟩)), (3, .slice At3_2 lt3_2.length ct3_2), (4, .bool bt4_2), (5, .int .i64 it5_1)] a ∧ w4.heap.size ≤ w5.heap.size ∧ Ow Kd.bool 4 w5.heap (okL [(w1.heap.size, some w2.heap.size, some 4)]) (okL []) At3_2 ct3_2 lt3_2 ∧ Sl kDeviceR w5.heap (okL [(0, some w.heap.size, none)]) A1 p0.Devices ∧ Sl kTableR w5.heap (okL [(0, some w.heap.size, none)]) A2 p0.Tables ∧ Sl kEntry w5.heap (okL [(0, some w.heap.size, none)]) A3 p0.Job.Table.List_ ∧ Ext w w5 ∧ Box w5.heap b1 61 [.slice A1 p0.Devices.length c_1, .slice A2 p0.Tables.length c_2, .int .i64 p0.Job.Dev, .int .i64 p0.Job.At, .int .i64 p0.Job.Table.Dev, .int .i64 p0.Job.Table.Size, .slice A3 p0.Job.Table.List_.length c_3, .int .i64 p0.Next] ∧ hermitageref9_round.j0 it5_1 (hermitageref9_round.l1 p0 k (hermitageref9_round.l0 p0 k n1) n2) lt3_2 bt4_2 = some r) ?_ ?_
     ·
      refine CW.block ?_
      refine CW.seq ?_
      refine CW.seq ?_
      refine CW.lex [.W, .W, .W, .L] rfl ?_
      refine RW.pure tabOk 2 rfl ?_
      obtain ⟨g2, H⟩ := guard_some H
      obtain ⟨ad1, e1, a1⟩ := at_bool ft3_1.slL g2.1 g2.2
      refine RW.index tabOk g2.1 g2.2 e1 ⟨rfl, rfl, rfl, rfl⟩ rfl rfl rfl rfl rfl rfl ?_
      refine RW.load tabOk [.bool (rd lt3_1 it5_1)] a1 ⟨rfl, rfl, rfl, rfl⟩ rfl rfl rfl rfl ?_
      refine RW.done ?_
      refine NW.next ?_
      by_cases c3 : (rd lt3_1 it5_1) = true
      ·
       rw [if_pos c3] at H
       refine CW.cond_t rfl (c3) ?_
       refine CW.exit ?_
       refine NW.exit_then (NW.exit_hit ?_)
       exact NW.J fun a ha => ⟨lt3_1, At3_1, ct3_1, bt4_1, ha.sub ⟨rfl, rfl, rfl, rfl, trivial⟩, by omega, (ft3_1.sub ⟨(.inl ⟨by omega, by omega, rfl⟩), trivial⟩ trivial), gF1_1, gF2_1, gF3_1, x0_1, gb1_1, H⟩
      ·
       rw [if_neg c3] at H
       refine CW.cond_f rfl (bool_f c3) ?_
       refine CW.skip ?_
       refine NW.next ?_
       refine CW.seq ?_
       refine CW.lex [.W] rfl ?_
       refine RW.pure tabOk 1 rfl ?_
       refine RW.done ?_
       refine NW.next ?_
       refine CW.seq ?_
       refine CW.seq ?_
       refine CW.lex [.W] rfl ?_
       refine RW.pure tabOk 1 rfl ?_
       refine RW.done ?_
       refine NW.next ?_
       refine CW.block ?_
       refine CW.loop (fun n3 a w6 => ∃ (bt6_3 : Bool) (it7_3 : Int), Sat 75 [(1, .pointer (some ⟨b1, 0, none⟩)), (3, .slice At3_1 lt3_1.length ct3_1), (4, .bool bt4_1), (5, .int .i64 it5_1), (6, .bool bt6_3), (7, .int .i64 it7_3)] a ∧ w4.heap.size ≤ w6.heap.size ∧ Sl kDeviceR w6.heap (okL [(0, some w.heap.size, none)]) A1 p0.Devices ∧ Sl kTableR w6.heap (okL [(0, some w.heap.size, none)]) A2 p0.Tables ∧ Sl kEntry w6.heap (okL [(0, some w.heap.size, none)]) A3 p0.Job.Table.List_ ∧ Ow Kd.bool 4 w6.heap (okL [(w1.heap.size, some w2.heap.size, some 4)]) (okL []) At3_1 ct3_1 lt3_1 ∧ Ext w w6 ∧ Box w6.heap b1 61 [.slice A1 p0.Devices.length c_1, .slice A2 p0.Tables.length c_2, .int .i64 p0.Job.Dev, .int .i64 p0.Job.At, .int .i64 p0.Job.Table.Dev, .int .i64 p0.Job.Table.Size, .slice A3 p0.Job.Table.List_.length c_3, .int .i64 p0.Next] ∧ hermitageref9_round.l2 p0 k bt4_1 it5_1 lt3_1 (hermitageref9_round.l1 p0 k (hermitageref9_round.l0 p0 k n1) n2) n3 bt6_3 it7_3 = some r) k ?_ ?_
       · exact fun a ha => ⟨true, 0, ha.sub ⟨rfl, rfl, rfl, rfl, rfl, rfl, trivial⟩, by omega, gF1_1, gF2_1, gF3_1, ft3_1, x0_1, gb1_1, H⟩
       intro n3 a w6 hI hp
       obtain ⟨bt6_3, it7_3, hS, hle, gF1_3, gF2_3, gF3_3, gL1_t3_3, x0_3, gb1_3, H⟩ := hI
       cases n3 with
       | zero => cases H
       | succ n3 =>
        rw [hermitageref9_round.l2] at H
        refine CW.go hp hS ?_
        refine CW.seq ?_
        refine CW.seq ?_
        refine CW.lex [.W, .W, .L, .W, .W, .W, .L, .W, .W] rfl ?_
        refine RW.pure tabOk 2 rfl ?_
        refine RW.load tabOk [.slice A2 p0.Tables.length c_2] ((gb1_3.at 1).take 1 rfl) ⟨rfl, rfl, rfl, rfl⟩ rfl rfl rfl rfl ?_
        refine RW.pure tabOk 1 rfl ?_
        obtain ⟨g3, H⟩ := guard_some H
        obtain ⟨ad2, A4, c_4, e2, a2, l3, h11⟩ := kTableR_at gF2_3 g3.1 g3.2
        refine RW.index tabOk g3.1 g3.2 e2 ⟨rfl, rfl, rfl, rfl⟩ rfl rfl rfl rfl rfl rfl ?_
        refine RW.pure tabOk 1 rfl ?_
        refine RW.load tabOk [.slice A4 ((rd p0.Tables it5_1).List_).length c_4] (a2.fld 2) ⟨rfl, rfl, rfl, rfl⟩ rfl rfl rfl rfl ?_
        refine RW.pure tabOk 2 rfl ?_
        refine RW.done ?_
        refine NW.next ?_
        by_cases c4 : it7_3 < (((rd p0.Tables it5_1).List_).length : Int)
        ·
         rw [if_pos c4] at H
         refine CW.cond_t rfl (decide_eq_true c4) ?_
         refine CW.skip ?_
         refine NW.next ?_
         refine CW.seqJ (fun a w7 => ∃ (bt6_4 : Bool), Sat 75 [(1, .pointer (some ⟨b1, 0, none⟩)), (3, .slice At3_1 lt3_1.length ct3_1), (4, .bool bt4_1), (5, .int .i64 it5_1), (6, .bool bt6_4), (7, .int .i64 it7_3)] a ∧ w6.heap.size ≤ w7.heap.size ∧ Sl kDeviceR w7.heap (okL [(0, some w.heap.size, none)]) A1 p0.Devices ∧ Sl kTableR w7.heap (okL [(0, some w.heap.size, none)]) A2 p0.Tables ∧ Sl kEntry w7.heap (okL [(0, some w.heap.size, none)]) A3 p0.Job.Table.List_ ∧ Ow Kd.bool 4 w7.heap (okL [(w1.heap.size, some w2.heap.size, some 4)]) (okL []) At3_1 ct3_1 lt3_1 ∧ Ext w w7 ∧ Box w7.heap b1 61 [.slice A1 p0.Devices.length c_1, .slice A2 p0.Tables.length c_2, .int .i64 p0.Job.Dev, .int .i64 p0.Job.At, .int .i64 p0.Job.Table.Dev, .int .i64 p0.Job.Table.Size, .slice A3 p0.Job.Table.List_.length c_3, .int .i64 p0.Next] ∧ hermitageref9_round.j1 it7_3 (hermitageref9_round.l2 p0 k bt4_1 it5_1 lt3_1 (hermitageref9_round.l1 p0 k (hermitageref9_round.l0 p0 k n1) n2) n3) bt6_4 = some r) ?_ ?_
         ·
          refine CW.block ?_
          refine CW.seq ?_
          refine CW.ord [0, 0, 2, 0, 14, 30, 62, 0, 254, 510, 1022, 2047, 4095] (ofL [(1, .W), (3, .W), (7, .W), (0, .L), (2, .L), (4, .W), (5, .W), (6, .L), (8, .W), (9, .W), (10, .L), (11, .X), (12, .W)] .nil) mixed (by kernel_rfl) ?_
          intro w8 x3
          have sx3 := x3.size
          refine RW.pure tabOk 3 rfl ?_
          have h12 := gb1_3.ext x3
          refine RW.load tabOk [.slice A1 p0.Devices.length c_1, .slice A2 p0.Tables.length c_2, .int .i64 p0.Job.Dev, .int .i64 p0.Job.At, .int .i64 p0.Job.Table.Dev, .int .i64 p0.Job.Table.Size, .slice A3 p0.Job.Table.List_.length c_3, .int .i64 p0.Next] (h12.at 0) ⟨rfl, rfl, rfl, rfl⟩ rfl rfl rfl rfl ?_
          refine RW.load tabOk [.slice A2 p0.Tables.length c_2] ((h12.at 1).take 1 rfl) ⟨rfl, rfl, rfl, rfl⟩ rfl rfl rfl rfl ?_
          obtain ⟨g4, H⟩ := guard_some H
          have h13 := gF2_3.ext x3
          obtain ⟨ad3, A5, c_5, e3, a3, l4, h14⟩ := kTableR_at h13 g4.1 g4.2
          refine RW.index tabOk g4.1 g4.2 e3 ⟨rfl, rfl, rfl, rfl⟩ rfl rfl rfl rfl rfl rfl ?_
          refine RW.pure tabOk 1 rfl ?_
          refine RW.load tabOk [.slice A5 ((rd p0.Tables it5_1).List_).length c_5] (a3.fld 2) ⟨rfl, rfl, rfl, rfl⟩ rfl rfl rfl rfl ?_
          obtain ⟨g5, H⟩ := guard_some H
          obtain ⟨ad4, e4, a4⟩ := kEntry_at h14 g5.1 g5.2
          refine RW.index tabOk g5.1 g5.2 e4 ⟨rfl, rfl, rfl, rfl⟩ rfl rfl rfl rfl rfl rfl ?_
          refine RW.pure tabOk 1 rfl ?_
          refine RW.load tabOk [.int .i64 ((rd ((rd p0.Tables it5_1).List_) it7_3).Dev)] ((a4.fld 2).take 1 rfl) ⟨rfl, rfl, rfl, rfl⟩ rfl rfl rfl rfl ?_
          have h15 := gF1_3.ext x3
          have h16 := gF3_3.ext x3
          obtain ⟨y1, h17, H⟩ := bind_some H
          refine RW.callF (.inl rfl) ent70 ⟨rfl, rfl, rfl, rfl⟩ rfl rfl (hermitageref9_Table.calls k p0 A1 c_1 A2 c_2 A3 c_3 ((rd ((rd p0.Tables it5_1).List_) it7_3).Dev) _ _ h15.all hl1 h13.all hl2 h16.all hl3 h17) ?_
          rintro _ w9 ⟨rfl, x4⟩
          refine ⟨_, rfl, x4, ?_⟩
          have sx4 := x4.size
          refine RW.pure tabOk 1 rfl ?_
          refine RW.done ?_
          refine NW.next ?_
          refine CW.lex [.W, .W, .W, .W, .W, .W, .W, .W, .L, .W, .W, .W] rfl ?_
          refine RW.pure tabOk 2 rfl ?_
          by_cases c5 : bt6_3 = true
          ·
           rw [if_pos c5] at H
           refine RW.bool 50 (b' := true) (c5) rfl ?_
           refine RW.pure tabOk 3 rfl ?_
           by_cases c6 : y1 < 0
           ·
            rw [if_pos c6] at H
            refine RW.bool 53 (b' := true) (decide_eq_true c6) rfl ?_
            refine RW.pure tabOk 7 rfl ?_
            refine RW.done ?_
            refine NW.norm_block ?_
            have h18 := h15.ext x4
            have h19 := h13.ext x4
            have h20 := h16.ext x4
            have h21 := (gL1_t3_3.ext x3).ext x4
            have h22 := Ext.trans (Ext.trans x0_3 x3) x4
            have h23 := h12.ext x4
            exact NW.J fun a ha => ⟨true, ha.sub ⟨rfl, rfl, rfl, rfl, rfl, rfl, trivial⟩, by omega, h18, h19, h20, h21, h22, h23, H⟩
           ·
            rw [if_neg c6] at H
            refine RW.bool 53 (b' := false) (decide_eq_false c6) rfl ?_
            refine RW.pure tabOk 2 rfl ?_
            obtain ⟨g6, H⟩ := guard_some H
            have h24 := (gL1_t3_3.ext x3).ext x4
            obtain ⟨ad5, e5, a5⟩ := at_bool h24.slL g6.1 g6.2
            refine RW.index tabOk g6.1 g6.2 e5 ⟨rfl, rfl, rfl, rfl⟩ rfl rfl rfl rfl rfl rfl ?_
            refine RW.load tabOk [.bool (rd lt3_1 y1)] a5 ⟨rfl, rfl, rfl, rfl⟩ rfl rfl rfl rfl ?_
            refine RW.pure tabOk 3 rfl ?_
            refine RW.done ?_
            refine NW.norm_block ?_
            have h25 := h15.ext x4
            have h26 := h13.ext x4
            have h27 := h16.ext x4
            have h28 := Ext.trans (Ext.trans x0_3 x3) x4
            have h29 := h12.ext x4
            exact NW.J fun a ha => ⟨(rd lt3_1 y1), ha.sub ⟨rfl, rfl, rfl, rfl, rfl, rfl, trivial⟩, by omega, h25, h26, h27, h24, h28, h29, H⟩
          ·
           rw [if_neg c5] at H
           refine RW.bool 50 (b' := false) (bool_f c5) rfl ?_
           refine RW.pure tabOk 10 rfl ?_
           refine RW.done ?_
           refine NW.norm_block ?_
           have h30 := h15.ext x4
           have h31 := h13.ext x4
           have h32 := h16.ext x4
           have h33 := (gL1_t3_3.ext x3).ext x4
           have h34 := Ext.trans (Ext.trans x0_3 x3) x4
           have h35 := h12.ext x4
           exact NW.J fun a ha => ⟨false, ha.sub ⟨rfl, rfl, rfl, rfl, rfl, rfl, trivial⟩, by omega, h30, h31, h32, h33, h34, h35, H⟩
         intro a w7 hJ hp
         obtain ⟨bt6_4, hS, hle, gF1_4, gF2_4, gF3_4, gL1_t3_4, x0_4, gb1_4, H⟩ := hJ
         unfold hermitageref9_round.j1 at H
         refine CW.go hp hS ?_
         refine CW.lex [.W, .W, .W] rfl ?_
         refine RW.pure tabOk 3 rfl ?_
         refine RW.done ?_
         exact NW.J fun a ha => ⟨n3, Nat.lt_succ_self n3, bt6_4, (w64 (it7_3 + 1)), ha.sub ⟨rfl, rfl, rfl, rfl, rfl, rfl, trivial⟩, by omega, gF1_4, gF2_4, gF3_4, gL1_t3_4, x0_4, gb1_4, H⟩
        ·
         rw [if_neg c4] at H
         refine CW.cond_f rfl (decide_eq_false c4) ?_
         refine CW.exit ?_
         refine NW.exit_then (NW.exit_then (NW.exit_hit ?_))
         refine NW.next ?_
         refine CW.seq ?_
         refine CW.lex [.W] rfl ?_
         refine RW.pure tabOk 1 rfl ?_
         refine RW.done ?_
         refine NW.next ?_
         by_cases c7 : bt6_3 = true
         ·
          rw [if_pos c7] at H
          refine CW.cond_t rfl (c7) ?_
          refine CW.lex [.W, .W, .W, .M, .W] rfl ?_
          refine RW.pure tabOk 2 rfl ?_
          obtain ⟨g7, H⟩ := guard_some H
          obtain ⟨ad6, e6, a6⟩ := at_bool gL1_t3_3.slL g7.1 g7.2
          refine RW.index tabOk g7.1 g7.2 e6 ⟨rfl, rfl, rfl, rfl⟩ rfl rfl rfl rfl rfl rfl ?_
          refine RW.storeElL0 (y := true) (lv := []) tabOk gL1_t3_3 (j := it5_1.toNat) (by have := g7; omega) default [.bool true] (fun cs ok' hr => by cases hr; exact ⟨by simp, rfl⟩) trivial ⟨rfl, rfl, rfl⟩ rfl rfl e6 rfl rfl rfl rfl rfl ?_
          intro w10 x5 h36
          have sx5 := x5.size
          have h37 := h36.sub (l' := [(w1.heap.size, some w2.heap.size, some 4)]) (li' := []) ⟨(.inl ⟨by omega, by omega, rfl⟩), trivial⟩ trivial
          refine RW.tell 3 (v' := .slice At3_1 (lt3_1.set it5_1.toNat true).length ct3_1) (by simp only [List.length_set]) rfl ?_
          refine RW.pure tabOk 1 rfl ?_
          refine RW.done ?_
          refine NW.norm_block ?_
          have h38 := gF1_3.turnL x5 ⟨⟨.inr (.inl (by omega)), trivial⟩, trivial⟩
          have h39 := gF2_3.turnL x5 ⟨⟨.inr (.inl (by omega)), trivial⟩, trivial⟩
          have h40 := gF3_3.turnL x5 ⟨⟨.inr (.inl (by omega)), trivial⟩, trivial⟩
          have h41 := Ext.turn x0_3 x5 ⟨by omega, trivial⟩
          have h42 := gb1_3.turnL x5 (.inl (by decide))
          exact NW.J fun a ha => ⟨(lt3_1.set it5_1.toNat true), At3_1, ct3_1, true, ha.sub ⟨rfl, rfl, rfl, rfl, trivial⟩, by omega, (h37.sub ⟨(.inl ⟨by omega, by omega, rfl⟩), trivial⟩ trivial), h38, h39, h40, h41, h42, H⟩
         ·
          rw [if_neg c7] at H
          refine CW.cond_f rfl (bool_f c7) ?_
          refine CW.skip ?_
          refine NW.norm_block ?_
          exact NW.J fun a ha => ⟨lt3_1, At3_1, ct3_1, bt4_1, ha.sub ⟨rfl, rfl, rfl, rfl, trivial⟩, by omega, (gL1_t3_3.sub ⟨(.inl ⟨by omega, by omega, rfl⟩), trivial⟩ trivial), gF1_3, gF2_3, gF3_3, x0_3, gb1_3, H⟩
     intro a w5 hJ hp
     obtain ⟨lt3_2, At3_2, ct3_2, bt4_2, hS, hle, ft3_2, gF1_2, gF2_2, gF3_2, x0_2, gb1_2, H⟩ := hJ
     unfold hermitageref9_round.j0 at H
     refine CW.go hp hS ?_
     refine CW.lex [.W, .W, .W] rfl ?_
     refine RW.pure tabOk 3 rfl ?_
     refine RW.done ?_
     exact NW.J fun a ha => ⟨n2, Nat.lt_succ_self n2, lt3_2, At3_2, ct3_2, bt4_2, (w64 (it5_1 + 1)), ha.sub ⟨rfl, rfl, rfl, rfl, trivial⟩, by omega, (ft3_2.sub ⟨(.inl ⟨by omega, by omega, rfl⟩), trivial⟩ trivial), gF1_2, gF2_2, gF3_2, x0_2, gb1_2, H⟩
    ·
     rw [if_neg c2] at H
     refine CW.cond_f rfl (decide_eq_false c2) ?_
     refine CW.exit ?_
     refine NW.exit_then (NW.exit_then (NW.exit_hit ?_))
     refine NW.norm_block ?_
     exact NW.J fun a ha => ⟨n1, Nat.lt_succ_self n1, lt3_1, At3_1, ct3_1, bt4_1, ha.sub ⟨rfl, rfl, rfl, trivial⟩, by omega, (ft3_1.sub ⟨(.inl ⟨by omega, by omega, rfl⟩), trivial⟩ trivial), gF1_1, gF2_1, gF3_1, x0_1, gb1_1, H⟩
  ·
   rw [if_neg c1] at H
   refine CW.cond_f rfl (bool_f c1) ?_
   refine CW.exit ?_
   refine NW.exit_then (NW.exit_then (NW.exit_hit ?_))
   refine NW.next ?_
   refine CW.seq ?_
   refine CW.seq ?_
   refine CW.lex [.W] rfl ?_
   refine RW.pure tabOk 1 rfl ?_
   refine RW.done ?_
   refine NW.next ?_
   refine CW.block ?_
   refine CW.loop (fun n4 a w11 => ∃ (it9_5 : Int), Sat 75 [(3, .slice At3_0 lt3_0.length ct3_0), (9, .int .i64 it9_5)] a ∧ w3.heap.size ≤ w11.heap.size ∧ Ow Kd.bool 4 w11.heap (okL [(w1.heap.size, some w2.heap.size, some 4)]) (okL []) At3_0 ct3_0 lt3_0 ∧ Ext w w11 ∧ hermitageref9_round.l3 lt3_0 n4 it9_5 = some r) k ?_ ?_
   · exact fun a ha => ⟨0, ha.sub ⟨rfl, rfl, trivial⟩, by omega, ft3_0, x0_0, H⟩
   intro n4 a w11 hI hp
   obtain ⟨it9_5, hS, hle, gL0_t3_5, x0_5, H⟩ := hI
   cases n4 with
   | zero => cases H
   | succ n4 =>
    rw [hermitageref9_round.l3] at H
    refine CW.go hp hS ?_
    refine CW.seq ?_
    refine CW.seq ?_
    refine CW.lex [.W, .W, .W, .W] rfl ?_
    refine RW.pure tabOk 4 rfl ?_
    refine RW.done ?_
    refine NW.next ?_
    by_cases c8 : it9_5 < (lt3_0.length : Int)
    ·
     rw [if_pos c8] at H
     refine CW.cond_t rfl (decide_eq_true c8) ?_
     refine CW.skip ?_
     refine NW.next ?_
     refine CW.seq ?_
     refine CW.block ?_
     refine CW.seq ?_
     refine CW.lex [.W, .W, .W, .L, .W] rfl ?_
     refine RW.pure tabOk 2 rfl ?_
     obtain ⟨g8, H⟩ := guard_some H
     obtain ⟨ad7, e7, a7⟩ := at_bool gL0_t3_5.slL g8.1 g8.2
     refine RW.index tabOk g8.1 g8.2 e7 ⟨rfl, rfl, rfl, rfl⟩ rfl rfl rfl rfl rfl rfl ?_
     refine RW.load tabOk [.bool (rd lt3_0 it9_5)] a7 ⟨rfl, rfl, rfl, rfl⟩ rfl rfl rfl rfl ?_
     refine RW.pure tabOk 1 rfl ?_
     refine RW.done ?_
     refine NW.next ?_
     by_cases c9 : (rd lt3_0 it9_5) = true
     ·
      rw [if_pos c9] at H
      refine CW.cond_f rfl (not_f (c9)) ?_
      refine CW.skip ?_
      refine NW.norm_block (NW.next ?_)
      refine CW.lex [.W, .W, .W] rfl ?_
      refine RW.pure tabOk 3 rfl ?_
      refine RW.done ?_
      exact NW.J fun a ha => ⟨n4, Nat.lt_succ_self n4, (w64 (it9_5 + 1)), ha.sub ⟨rfl, rfl, trivial⟩, by omega, gL0_t3_5, x0_5, H⟩
     ·
      rw [if_neg c9] at H
      refine CW.cond_t rfl (not_t (bool_f c9)) ?_
      refine CW.seq ?_
      refine CW.lex [.W] rfl ?_
      refine RW.pure tabOk 1 rfl ?_
      refine RW.done ?_
      refine NW.next ?_
      refine CW.ret ?_
      refine NW.ret_block (NW.ret_then (NW.ret_then (NW.ret_block (NW.ret_then ?_))))
      obtain rfl := Option.some.inj H
      exact NW.ret1 rfl (by rfl) ⟨rfl, x0_5⟩
    ·
     rw [if_neg c8] at H
     refine CW.cond_f rfl (decide_eq_false c8) ?_
     refine CW.exit ?_
     refine NW.exit_then (NW.exit_then (NW.exit_hit ?_))
     refine NW.next ?_
     refine CW.seq ?_
     refine CW.lex [.W] rfl ?_
     refine RW.pure tabOk 1 rfl ?_
     refine RW.done ?_
     refine NW.next ?_
     refine CW.ret ?_
     obtain rfl := Option.some.inj H
     exact NW.ret1 rfl (by rfl) ⟨rfl, x0_5⟩

set_option maxHeartbeats 4000000 in
set_option maxRecDepth 100000 in
theorem hermitageref7_End.calls (p0 : Table) (A1 : Option Addr) (c_1 : Nat) (r : Int) (w : World) (hs1 : Sl kEntry w.heap okAll A1 p0.List_) (hl1 : p0.List_.length ≤ c_1) (H : hermitageref7_End.f p0 = some r) :
    Calls Try.prog 52 #[.agg #[.int .i64 p0.Dev, .int .i64 p0.Size, .slice A1 p0.List_.length c_1]] w fun e w' => e = .returned (.int .i64 r) ∧ Ext w w' := by
 have h1 : Sl kEntry w.heap (okL [(0, some w.heap.size, none)]) A1 p0.List_ := hs1.old _ rfl
 have x0 : Ext w w := Upd.refl _ w
 unfold hermitageref7_End.f at H
 refine calls_start Try.func52 rfl 21 rfl [.agg #[.int .i64 p0.Dev, .int .i64 p0.Size, .slice A1 p0.List_.length c_1]] rfl ?_
 refine CW.seq ?_
 refine CW.lex [.X, .W] rfl ?_
 refine RW.box (cs := [.int .i64 p0.Dev, .int .i64 p0.Size, .slice A1 p0.List_.length c_1]) (.inl rfl) ⟨rfl, rfl, rfl, rfl⟩ rfl rfl rfl ?_
 intro b1 w1 x1 l1 h2
 have sx1 := x1.size
 have ltb1 := h2.lt
 refine RW.pure tabOk 1 rfl ?_
 refine RW.done ?_
 refine NW.next ?_
 refine CW.seq ?_
 refine CW.seq ?_
 refine CW.lex [.W, .L, .W, .W] rfl ?_
 refine RW.pure tabOk 1 rfl ?_
 refine RW.load tabOk [.slice A1 p0.List_.length c_1] (h2.at 2) ⟨rfl, rfl, rfl, rfl⟩ rfl rfl rfl rfl ?_
 refine RW.pure tabOk 2 rfl ?_
 refine RW.done ?_
 refine NW.next ?_
 by_cases c1 : (p0.List_.length : Int) = 0
 ·
  rw [if_pos c1] at H
  refine CW.cond_t rfl (beq_t c1) ?_
  refine CW.seq ?_
  refine CW.lex [.W] rfl ?_
  refine RW.pure tabOk 1 rfl ?_
  refine RW.done ?_
  refine NW.next ?_
  refine CW.ret ?_
  refine NW.ret_then ?_
  obtain rfl := Option.some.inj H
  have h3 := Ext.trans x0 x1
  exact NW.ret1 rfl (by rfl) ⟨rfl, h3⟩
 ·
  rw [if_neg c1] at H
  refine CW.cond_f rfl (beq_f c1) ?_
  refine CW.skip ?_
  refine NW.next ?_
  refine CW.seq ?_
  refine CW.lex [.W, .L, .W, .L, .W, .W, .W, .L, .X, .M] rfl ?_
  refine RW.pure tabOk 1 rfl ?_
  refine RW.load tabOk [.slice A1 p0.List_.length c_1] (h2.at 2) ⟨rfl, rfl, rfl, rfl⟩ rfl rfl rfl rfl ?_
  refine RW.pure tabOk 1 rfl ?_
  refine RW.load tabOk [.slice A1 p0.List_.length c_1] (h2.at 2) ⟨rfl, rfl, rfl, rfl⟩ rfl rfl rfl rfl ?_
  refine RW.pure tabOk 2 rfl ?_
  obtain ⟨g1, H⟩ := guard_some H
  have h4 := h1.ext x1
  obtain ⟨ad1, e1, a1⟩ := kEntry_at h4 g1.1 g1.2
  refine RW.index tabOk g1.1 g1.2 e1 ⟨rfl, rfl, rfl, rfl⟩ rfl rfl rfl rfl rfl rfl ?_
  refine RW.load tabOk [.int .i64 ((rd p0.List_ (w64 ((p0.List_.length : Int) - 1))).From), .int .i64 ((rd p0.List_ (w64 ((p0.List_.length : Int) - 1))).Len), .int .i64 ((rd p0.List_ (w64 ((p0.List_.length : Int) - 1))).Dev), .int .i64 ((rd p0.List_ (w64 ((p0.List_.length : Int) - 1))).To), .int .i64 ((rd p0.List_ (w64 ((p0.List_.length : Int) - 1))).Stale)] a1 ⟨rfl, rfl, rfl, rfl⟩ rfl rfl rfl rfl ?_
  refine RW.alloc tabOk (.inl rfl) ⟨rfl, rfl, rfl, rfl⟩ rfl rfl ?_
  intro b2 w2 x2 l2 h5
  have sx2 := x2.size
  have ltb2 := h5.lt
  refine RW.storeBox tabOk h5 [.int .i64 ((rd p0.List_ (w64 ((p0.List_.length : Int) - 1))).From), .int .i64 ((rd p0.List_ (w64 ((p0.List_.length : Int) - 1))).Len), .int .i64 ((rd p0.List_ (w64 ((p0.List_.length : Int) - 1))).Dev), .int .i64 ((rd p0.List_ (w64 ((p0.List_.length : Int) - 1))).To), .int .i64 ((rd p0.List_ (w64 ((p0.List_.length : Int) - 1))).Stale)] ⟨rfl, rfl, rfl⟩ rfl rfl rfl rfl rfl rfl rfl rfl ?_
  intro w3 x3 h6
  have h7 : Box w3.heap b2 45 [.int .i64 ((rd p0.List_ (w64 ((p0.List_.length : Int) - 1))).From), .int .i64 ((rd p0.List_ (w64 ((p0.List_.length : Int) - 1))).Len), .int .i64 ((rd p0.List_ (w64 ((p0.List_.length : Int) - 1))).Dev), .int .i64 ((rd p0.List_ (w64 ((p0.List_.length : Int) - 1))).To), .int .i64 ((rd p0.List_ (w64 ((p0.List_.length : Int) - 1))).Stale)] := h6
  have sx3 := x3.size
  refine RW.done ?_
  refine NW.next ?_
  refine CW.seq ?_
  refine CW.lex [.W, .L, .W, .L, .W, .W] rfl ?_
  refine RW.pure tabOk 1 rfl ?_
  refine RW.load tabOk [.int .i64 ((rd p0.List_ (w64 ((p0.List_.length : Int) - 1))).From)] ((h7.at 0).take 1 rfl) ⟨rfl, rfl, rfl, rfl⟩ rfl rfl rfl rfl ?_
  refine RW.pure tabOk 1 rfl ?_
  refine RW.load tabOk [.int .i64 ((rd p0.List_ (w64 ((p0.List_.length : Int) - 1))).Len)] ((h7.at 1).take 1 rfl) ⟨rfl, rfl, rfl, rfl⟩ rfl rfl rfl rfl ?_
  refine RW.pure tabOk 2 rfl ?_
  refine RW.done ?_
  refine NW.next ?_
  refine CW.ret ?_
  obtain rfl := Option.some.inj H
  have h8 := Ext.turnB (Ext.trans (Ext.trans x0 x1) x2) x3 (by omega)
  exact NW.ret1 rfl (by rfl) ⟨rfl, h8⟩

set_option maxHeartbeats 4000000 in
set_option maxRecDepth 100000 in
theorem hermitageref0_EqEntries.calls (k : Nat) (A1 : Option Addr) (c_1 : Nat) (p0 : List Entry) (A2 : Option Addr) (c_2 : Nat) (p1 : List Entry) (r : Bool) (w : World) (hs1 : Sl kEntry w.heap okAll A1 p0) (hl1 : p0.length ≤ c_1) (hs2 : Sl kEntry w.heap okAll A2 p1) (hl2 : p1.length ≤ c_2) (H : hermitageref0_EqEntries.f k p0 p1 = some r) :
    Calls Try.prog 60 #[.slice A1 p0.length c_1, .slice A2 p1.length c_2] w fun e w' => e = .returned (.bool r) ∧ Ext w w' := by
 have h1 : Sl kEntry w.heap (okL [(0, some w.heap.size, none)]) A1 p0 := hs1.old _ rfl
 have h2 : Sl kEntry w.heap (okL [(0, some w.heap.size, none)]) A2 p1 := hs2.old _ rfl
 have x0 : Ext w w := Upd.refl _ w
 unfold hermitageref0_EqEntries.f at H
 refine calls_start Try.func60 rfl 26 rfl [.slice A1 p0.length c_1, .slice A2 p1.length c_2] rfl ?_
 refine CW.seq ?_
 refine CW.lex [.W] rfl ?_
 refine RW.pure tabOk 1 rfl ?_
 refine RW.done ?_
 refine NW.next ?_
 refine CW.seq ?_
 refine CW.seq ?_
 refine CW.lex [.W, .W, .W, .W, .W] rfl ?_
 refine RW.pure tabOk 5 rfl ?_
 refine RW.done ?_
 refine NW.next ?_
 by_cases c1 : (p0.length : Int) = (p1.length : Int)
 ·
  rw [if_pos c1] at H
  refine CW.cond_f rfl (bne_f c1) ?_
  refine CW.skip ?_
  refine NW.next ?_
  refine CW.seq ?_
  refine CW.seq ?_
  refine CW.lex [.W] rfl ?_
  refine RW.pure tabOk 1 rfl ?_
  refine RW.done ?_
  refine NW.next ?_
  refine CW.block ?_
  refine CW.loop (fun n1 a w1 => ∃ (it5_0 : Int), Sat 26 [(0, .slice A1 p0.length c_1), (1, .slice A2 p1.length c_2), (5, .int .i64 it5_0)] a ∧ w.heap.size ≤ w1.heap.size ∧ Sl kEntry w1.heap (okL [(0, some w.heap.size, none)]) A1 p0 ∧ Sl kEntry w1.heap (okL [(0, some w.heap.size, none)]) A2 p1 ∧ Ext w w1 ∧ hermitageref0_EqEntries.l0 p0 p1 n1 it5_0 = some r) k ?_ ?_
  · exact fun a ha => ⟨0, ha.sub ⟨rfl, rfl, rfl, trivial⟩, by omega, h1, h2, x0, H⟩
  intro n1 a w1 hI hp
  obtain ⟨it5_0, hS, hle, gF1_0, gF2_0, x0_0, H⟩ := hI
  cases n1 with
  | zero => cases H
  | succ n1 =>
   rw [hermitageref0_EqEntries.l0] at H
   refine CW.go hp hS ?_
   refine CW.seq ?_
   refine CW.seq ?_
   refine CW.lex [.W, .W, .W, .W] rfl ?_
   refine RW.pure tabOk 4 rfl ?_
   refine RW.done ?_
   refine NW.next ?_
   by_cases c2 : it5_0 < (p0.length : Int)
   ·
    rw [if_pos c2] at H
    refine CW.cond_t rfl (decide_eq_true c2) ?_
    refine CW.skip ?_
    refine NW.next ?_
    refine CW.seq ?_
    refine CW.block ?_
    refine CW.seq ?_
    refine CW.ord [0, 0, 3, 7, 0, 0, 48, 112, 255] (ofL [(0, .W), (1, .W), (2, .W), (4, .W), (5, .W), (6, .W), (3, .L), (7, .L), (8, .W)] .nil) mixed (by kernel_rfl) ?_
    intro w2 x1
    have sx1 := x1.size
    refine RW.pure tabOk 2 rfl ?_
    obtain ⟨g1, H⟩ := guard_some H
    have h3 := gF1_0.ext x1
    obtain ⟨ad1, e1, a1⟩ := kEntry_at h3 g1.1 g1.2
    refine RW.index tabOk g1.1 g1.2 e1 ⟨rfl, rfl, rfl, rfl⟩ rfl rfl rfl rfl rfl rfl ?_
    refine RW.pure tabOk 2 rfl ?_
    obtain ⟨g2, H⟩ := guard_some H
    have h4 := gF2_0.ext x1
    obtain ⟨ad2, e2, a2⟩ := kEntry_at h4 g2.1 g2.2
    refine RW.index tabOk g2.1 g2.2 e2 ⟨rfl, rfl, rfl, rfl⟩ rfl rfl rfl rfl rfl rfl ?_
    refine RW.load tabOk [.int .i64 ((rd p0 it5_0).From), .int .i64 ((rd p0 it5_0).Len), .int .i64 ((rd p0 it5_0).Dev), .int .i64 ((rd p0 it5_0).To), .int .i64 ((rd p0 it5_0).Stale)] a1 ⟨rfl, rfl, rfl, rfl⟩ rfl rfl rfl rfl ?_
    refine RW.load tabOk [.int .i64 ((rd p1 it5_0).From), .int .i64 ((rd p1 it5_0).Len), .int .i64 ((rd p1 it5_0).Dev), .int .i64 ((rd p1 it5_0).To), .int .i64 ((rd p1 it5_0).Stale)] a2 ⟨rfl, rfl, rfl, rfl⟩ rfl rfl rfl rfl ?_
    refine RW.eqAgg eqgEntry (eqEntry (rd p0 it5_0) (rd p1 it5_0)) ⟨rfl, rfl, rfl, rfl⟩ rfl rfl rfl rfl ?_
    refine RW.done ?_
    refine NW.next ?_
    by_cases c3 : (rd p0 it5_0) = (rd p1 it5_0)
    ·
     rw [if_pos c3] at H
     refine CW.cond_f rfl (not_f (decide_eq_true c3)) ?_
     refine CW.skip ?_
     refine NW.norm_block (NW.next ?_)
     refine CW.lex [.W, .W, .W] rfl ?_
     refine RW.pure tabOk 3 rfl ?_
     refine RW.done ?_
     have h5 := Ext.trans x0_0 x1
     exact NW.J fun a ha => ⟨n1, Nat.lt_succ_self n1, (w64 (it5_0 + 1)), ha.sub ⟨rfl, rfl, rfl, trivial⟩, by omega, h3, h4, h5, H⟩
    ·
     rw [if_neg c3] at H
     refine CW.cond_t rfl (not_t (decide_eq_false c3)) ?_
     refine CW.seq ?_
     refine CW.lex [.W] rfl ?_
     refine RW.pure tabOk 1 rfl ?_
     refine RW.done ?_
     refine NW.next ?_
     refine CW.ret ?_
     refine NW.ret_block (NW.ret_then (NW.ret_then (NW.ret_block (NW.ret_then ?_))))
     obtain rfl := Option.some.inj H
     have h6 := Ext.trans x0_0 x1
     exact NW.ret1 rfl (by rfl) ⟨rfl, h6⟩
   ·
    rw [if_neg c2] at H
    refine CW.cond_f rfl (decide_eq_false c2) ?_
    refine CW.exit ?_
    refine NW.exit_then (NW.exit_then (NW.exit_hit ?_))
    refine NW.next ?_
    refine CW.seq ?_
    refine CW.lex [.W] rfl ?_
    refine RW.pure tabOk 1 rfl ?_
    refine RW.done ?_
    refine NW.next ?_
    refine CW.ret ?_
    obtain rfl := Option.some.inj H
    exact NW.ret1 rfl (by rfl) ⟨rfl, x0_0⟩
 ·
  rw [if_neg c1] at H
  refine CW.cond_t rfl (bne_t c1) ?_
  refine CW.seq ?_
  refine CW.lex [.W] rfl ?_
  refine RW.pure tabOk 1 rfl ?_
  refine RW.done ?_
  refine NW.next ?_
  refine CW.ret ?_
  refine NW.ret_then ?_
  obtain rfl := Option.some.inj H
  exact NW.ret1 rfl (by rfl) ⟨rfl, x0⟩

set_option maxHeartbeats 4000000 in
set_option maxRecDepth 100000 in
theorem hermitageref0_EqTable.calls (k : Nat) (p0 : Table) (A1 : Option Addr) (c_1 : Nat) (p1 : Table) (A2 : Option Addr) (c_2 : Nat) (r : Bool) (w : World) (hs1 : Sl kEntry w.heap okAll A1 p0.List_) (hl1 : p0.List_.length ≤ c_1) (hs2 : Sl kEntry w.heap okAll A2 p1.List_) (hl2 : p1.List_.length ≤ c_2) (H : hermitageref0_EqTable.f k p0 p1 = some r) :
    Calls Try.prog 58 #[.agg #[.int .i64 p0.Dev, .int .i64 p0.Size, .slice A1 p0.List_.length c_1], .agg #[.int .i64 p1.Dev, .int .i64 p1.Size, .slice A2 p1.List_.length c_2]] w fun e w' => e = .returned (.bool r) ∧ Ext w w' := by
 have h1 : Sl kEntry w.heap (okL [(0, some w.heap.size, none)]) A1 p0.List_ := hs1.old _ rfl
 have h2 : Sl kEntry w.heap (okL [(0, some w.heap.size, none)]) A2 p1.List_ := hs2.old _ rfl
 have x0 : Ext w w := Upd.refl _ w
 unfold hermitageref0_EqTable.f at H
 refine calls_start Try.func58 rfl 24 rfl [.agg #[.int .i64 p0.Dev, .int .i64 p0.Size, .slice A1 p0.List_.length c_1], .agg #[.int .i64 p1.Dev, .int .i64 p1.Size, .slice A2 p1.List_.length c_2]] rfl ?_
 refine CW.seq ?_
 refine CW.lex [.X, .X, .W] rfl ?_
 refine RW.box (cs := [.int .i64 p0.Dev, .int .i64 p0.Size, .slice A1 p0.List_.length c_1]) (.inl rfl) ⟨rfl, rfl, rfl, rfl⟩ rfl rfl rfl ?_
 intro b1 w1 x1 l1 h3
 have sx1 := x1.size
 have ltb1 := h3.lt
 refine RW.box (cs := [.int .i64 p1.Dev, .int .i64 p1.Size, .slice A2 p1.List_.length c_2]) (.inl rfl) ⟨rfl, rfl, rfl, rfl⟩ rfl rfl rfl ?_
 intro b2 w2 x2 l2 h4
 have sx2 := x2.size
 have ltb2 := h4.lt
 refine RW.pure tabOk 1 rfl ?_
 refine RW.done ?_
 refine NW.next ?_
 refine CW.seq ?_
 refine CW.lex [.W, .L, .W, .L, .W, .W, .W, .L, .W, .L, .W, .W, .W, .W, .L, .W, .L, .X, .W, .W] rfl ?_
 refine RW.pure tabOk 1 rfl ?_
 have h5 := h3.ext x2
 refine RW.load tabOk [.int .i64 p0.Dev] ((h5.at 0).take 1 rfl) ⟨rfl, rfl, rfl, rfl⟩ rfl rfl rfl rfl ?_
 refine RW.pure tabOk 1 rfl ?_
 refine RW.load tabOk [.int .i64 p1.Dev] ((h4.at 0).take 1 rfl) ⟨rfl, rfl, rfl, rfl⟩ rfl rfl rfl rfl ?_
 refine RW.pure tabOk 2 rfl ?_
 by_cases c1 : p0.Dev = p1.Dev
 ·
  rw [if_pos c1] at H
  refine RW.bool 10 (b' := true) (beq_t c1) rfl ?_
  refine RW.pure tabOk 1 rfl ?_
  refine RW.load tabOk [.int .i64 p0.Size] ((h5.at 1).take 1 rfl) ⟨rfl, rfl, rfl, rfl⟩ rfl rfl rfl rfl ?_
  refine RW.pure tabOk 1 rfl ?_
  refine RW.load tabOk [.int .i64 p1.Size] ((h4.at 1).take 1 rfl) ⟨rfl, rfl, rfl, rfl⟩ rfl rfl rfl rfl ?_
  refine RW.pure tabOk 3 rfl ?_
  by_cases c2 : p0.Size = p1.Size
  ·
   rw [if_pos c2] at H
   refine RW.bool 17 (b' := true) (beq_t c2) rfl ?_
   refine RW.pure tabOk 1 rfl ?_
   refine RW.load tabOk [.slice A1 p0.List_.length c_1] (h5.at 2) ⟨rfl, rfl, rfl, rfl⟩ rfl rfl rfl rfl ?_
   refine RW.pure tabOk 1 rfl ?_
   refine RW.load tabOk [.slice A2 p1.List_.length c_2] (h4.at 2) ⟨rfl, rfl, rfl, rfl⟩ rfl rfl rfl rfl ?_
   have h6 := (h1.ext x1).ext x2
   have h7 := (h2.ext x1).ext x2
   obtain ⟨y1, h8, H⟩ := bind_some H
   refine RW.callF (.inl rfl) ent60 ⟨rfl, rfl, rfl, rfl⟩ rfl rfl (hermitageref0_EqEntries.calls k A1 c_1 p0.List_ A2 c_2 p1.List_ _ _ h6.all hl1 h7.all hl2 h8) ?_
   rintro _ w3 ⟨rfl, x3⟩
   refine ⟨_, rfl, x3, ?_⟩
   have sx3 := x3.size
   refine RW.pure tabOk 2 rfl ?_
   refine RW.done ?_
   refine NW.next ?_
   refine CW.ret ?_
   obtain rfl := Option.some.inj H
   have h9 := Ext.trans (Ext.trans (Ext.trans x0 x1) x2) x3
   exact NW.ret1 rfl (by rfl) ⟨rfl, h9⟩
  ·
   rw [if_neg c2] at H
   refine RW.bool 17 (b' := false) (beq_f c2) rfl ?_
   refine RW.pure tabOk 7 rfl ?_
   refine RW.done ?_
   refine NW.next ?_
   refine CW.ret ?_
   obtain rfl := Option.some.inj H
   have h10 := Ext.trans (Ext.trans x0 x1) x2
   exact NW.ret1 rfl (by rfl) ⟨rfl, h10⟩
 ·
  rw [if_neg c1] at H
  refine RW.bool 10 (b' := false) (beq_f c1) rfl ?_
  refine RW.pure tabOk 14 rfl ?_
  refine RW.done ?_
  refine NW.next ?_
  refine CW.ret ?_
  obtain rfl := Option.some.inj H
  have h11 := Ext.trans (Ext.trans x0 x1) x2
  exact NW.ret1 rfl (by rfl) ⟨rfl, h11⟩

end Go.Proofs.Ytnaajldlloglkaa.W
