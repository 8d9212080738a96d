/- Walks; printed by a program of the claim. -/
import Derived.Test.YtnaajldlloglkaaGreatDoorMoveW1
set_option linter.unusedVariables false
set_option linter.unusedSimpArgs false
set_option maxHeartbeats 20000000
set_option maxRecDepth 100000
namespace Go.Proofs.YtnaajldlloglkaaGreatDoor.W
open Go.H Go.Proofs
theorem room_Busy.calls {k:Nat} {p0:Device} {A1:Option Addr} {c_1:Nat} {A2:Option Addr} {c_2:Nat} {r:Int} {w:World} (H:room_Busy.f k p0=some r) (hs1:Sl kSeg w.heap okAll A1 p0.Free) (hl1:p0.Free.length≤c_1) (hs2:Sl kSeg w.heap okAll A2 p0.Late) (hl2:p0.Late.length≤c_2):
 Calls Tryz.prog 33 #[.agg #[iv p0.ID,iv p0.Size,.slice A1 p0.Free.length c_1,.slice A2 p0.Late.length c_2]] w fun e w'=>e=.returned (.int .u64 r)∧Ext w w':=by
 have h1:Sl kSeg w.heap (okL [(0,some w.heap.size,none)]) A1 p0.Free:=hs1.old _ rfl
 have h2:Sl kSeg w.heap (okL [(0,some w.heap.size,none)]) A2 p0.Late:=hs2.old _ rfl
 have x0:Ext w w:=Upd.refl _ w
 unfold room_Busy.f at H
 refine cst Tryz.func33 14 ?_
 refine CW.seq (CW.lex [.X,.W] rfl (RW.bx fun b1 w1 x1 sx1 l1 ltb1 h3=>?_))
 refine pu 1 rfl (RW.done (NW.next (CW.seq (CW.ord [0,1,3,0,8,31,0,64,255,511,1023,2047] (ofL [(0,.W),(3,.W),(6,.W),(1,.L),(4,.L),(7,.L),(2,.X),(5,.X),(8,.X),(9,.W),(10,.W),(11,.W)] .nil) mixed (by kernel_rfl) ?_))))
 intro w2 x2
 have sx2:=x2.size
 refine pu 3 rfl ?_
 have h4:=h3.ext x2
 refine RW.lb tk [iv p0.Size] h4 1 ?_
 refine RW.lb tk [.slice A1 p0.Free.length c_1] h4 2 ?_
 refine RW.lb tk [.slice A2 p0.Late.length c_2] h4 3 ?_
 refine RW.cp H ent39 (fun _ h=>seg_To.calls h) fun y1 w3 x3 sx3 H=>?_
 have h6:=((h1.ext x1).ext x2).ext x3
 refine RW.cp H ent57 (fun _ h=>seg_Make.calls h h6.all hl1) fun y2 w4 x4 sx4 H=>?_
 have h8:=(((h2.ext x1).ext x2).ext x3).ext x4
 refine RW.cp H ent57 (fun _ h=>seg_Make.calls h h8.all hl2) fun y3 w5 x5 sx5 H=>?_
 refine pu 3 rfl (RW.done (NW.next (CW.ret ?_)))
 obtain rfl:=Option.some.inj H
 have h10:=((((x0.tr x1).tr x2).tr x3).tr x4).tr x5
 exact NW.r1 ⟨rfl,h10⟩
theorem math_bits_OnesCount64.calls {p0:Int} {r:Int} {w:World} (H:math_bits_OnesCount64.f p0=some r):
 Calls Tryz.prog 58 #[.int .u64 p0] w fun e w'=>e=.returned (iv r)∧Ext w w':=by
 have x0:Ext w w:=Upd.refl _ w
 unfold math_bits_OnesCount64.f at H
 refine cst Tryz.func58 35 ?_
 refine CW.seq (CW.lw 1 rfl (pu 1 rfl (RW.done (NW.next (CW.seq (CW.lw 7 rfl (pu 1 rfl ?_)))))))
 refine RW.shift (by omega) ⟨rfl,rfl,rfl,rfl⟩ rfl rfl rfl rfl (pu 5 rfl (RW.done (NW.next (CW.seq (CW.lw 7 rfl (pu 1 rfl (RW.shift (by omega) ⟨rfl,rfl,rfl,rfl⟩ rfl rfl rfl rfl ?_)))))))
 refine pu 5 rfl (RW.done (NW.next (CW.seq (CW.lw 6 rfl (pu 1 rfl (RW.shift (by omega) ⟨rfl,rfl,rfl,rfl⟩ rfl rfl rfl rfl (pu 4 rfl ?_)))))))
 refine RW.done (NW.next (CW.seq (CW.lw 5 rfl (pu 2 rfl (RW.shift (by omega) ⟨rfl,rfl,rfl,rfl⟩ rfl rfl rfl rfl (pu 2 rfl (RW.done ?_)))))))
 refine NW.next (CW.seq (CW.lw 5 rfl (pu 2 rfl (RW.shift (by omega) ⟨rfl,rfl,rfl,rfl⟩ rfl rfl rfl rfl (pu 2 rfl (RW.done (NW.next ?_)))))))
 refine CW.seq (CW.lw 5 rfl (pu 2 rfl (RW.shift (by omega) ⟨rfl,rfl,rfl,rfl⟩ rfl rfl rfl rfl (pu 2 rfl (RW.done (NW.next (CW.seq ?_)))))))
 refine CW.lw 4 rfl (pu 4 rfl (RW.done (NW.next (CW.ret ?_))))
 obtain rfl:=Option.some.inj H
 exact NW.r1 ⟨rfl,x0⟩
theorem seg_Set_Count.calls {p0:Int} {r:Int} {w:World} (H:seg_Set_Count.f p0=some r):
 Calls Tryz.prog 34 #[.int .u64 p0] w fun e w'=>e=.returned (iv r)∧Ext w w':=by
 have x0:Ext w w:=Upd.refl _ w
 unfold seg_Set_Count.f at H
 refine cst Tryz.func34 5 ?_
 refine CW.seq (CW.lw 1 rfl (pu 1 rfl (RW.done (NW.next (CW.seq (CW.lex [.W,.X,.W] rfl (pu 1 rfl ?_)))))))
 refine RW.cp H ent58 (fun _ h=>math_bits_OnesCount64.calls h) fun y1 w1 x1 sx1 H=>?_
 refine pu 1 rfl (RW.done (NW.next (CW.ret ?_)))
 obtain rfl:=Option.some.inj H
 have h2:=x0.tr x1
 exact NW.r1 ⟨rfl,h2⟩
theorem move_Loose.calls {k:Nat} {A1:Option Addr} {c_1:Nat} {p0:List Device} {p1:Int} {r:Int} {w:World} (H:move_Loose.f k p0 p1=some r) (hs1:Sl kDeviceR w.heap okAll A1 p0) (hl1:p0.length≤c_1):
 Calls Tryz.prog 32 #[.slice A1 p0.length c_1,iv p1] w fun e w'=>e=.returned (iv r)∧Ext w w':=by
 have h1:Sl kDeviceR w.heap (okL [(0,some w.heap.size,none)]) A1 p0:=hs1.old _ rfl
 have x0:Ext w w:=Upd.refl _ w
 unfold move_Loose.f at H
 refine cst Tryz.func32 28 ?_
 refine CW.seq (CW.lw 1 rfl (pu 1 rfl (RW.done (NW.next (CW.seq (CW.lw 1 rfl (pu 1 rfl ?_)))))))
 refine RW.done (NW.next (CW.seq (CW.seq (CW.lw 3 rfl (pu 3 rfl (RW.done (NW.next ?_)))))))
 refine CW.block ?_
 refine CW.loop (fun n1 a w1=>∃(vb:Int) (va:Int),Sat 28 [(1,iv p1),(5,iv vb),(8,.slice A1 p0.length c_1),(9,iv (p0.length:Int)),(10,iv va)] a∧w.heap.size≤w1.heap.size∧Ext w w1∧move_Loose.l0 p0 p1 k n1 vb va=some r) k ?_ ?_
 exact fun a ha=>⟨0,0,ha.sb,by omega,x0,H⟩
 rintro n1 a w1 ⟨vb,va,hS,hle,vd,H⟩ hp
 obtain _|n1:=n1
 cases H
 rw [move_Loose.l0] at H
 refine CW.go hp hS (CW.seq (CW.lw 1 rfl (pu 1 rfl (RW.done (NW.next (CW.seq (CW.i H (fun c1 H=>?_) fun c1 H=>?_)))))))
 refine CW.skip (NW.next ?_)
 refine CW.seqJ (fun a w2=>∃(vc:Int),Sat 28 [(1,iv p1),(5,iv vc),(8,.slice A1 p0.length c_1),(9,iv (p0.length:Int)),(10,iv va)] a∧w1.heap.size≤w2.heap.size∧Ext w w2∧move_Loose.j0 va (move_Loose.l0 p0 p1 k n1) vc=some r) ?_ ?_
 refine CW.block (CW.seq (CW.lex [.W,.L,.X,.M] rfl ?_))
 obtain ⟨g1,H⟩:=guard_some H
 obtain ⟨ad1,A2,c_2,A3,c_3,e1,a1,l1,h2,l2,h3⟩:=kDeviceR_at (h1.ext vd) g1.1 g1.2
 refine RW.ix tk g1 e1 ?_
 refine RW.ld tk _ a1 ?_
 refine RW.al tk fun b1 w3 x1 sx1 l3 ltb1 h4=>?_
 refine RW.sf tk h4 fun w4 x2 sx2 h6=>?_
 refine RW.done (NW.next (CW.seq (CW.lex [.W,.L,.W,.W] rfl (pu 1 rfl (RW.lb tk [iv ((rd p0 va).ID)] h6 0 ?_)))))
 refine pu 2 rfl (RW.done (NW.next ?_))
 have j1:=(vd.tr x1).tB x2
 refine CW.n H (fun c2 H=>?_) fun c2 H=>?_
 refine CW.skip (NW.norm_block ?_)
 exact NW.J fun a ha=>⟨vb,ha.sb,by omega,j1,H⟩
 refine CW.ord [0,0,2,0,8,24,62,127,255] (ofL [(0,.W),(1,.W),(2,.L),(3,.L),(4,.X),(5,.X),(6,.W),(7,.W),(8,.W)] .nil) mixed (by kernel_rfl) ?_
 intro w5 x3
 have sx3:=x3.size
 refine pu 2 rfl ?_
 have h8:=h6.ext x3
 refine RW.lb tk [iv ((rd p0 va).Size)] h8 1 ?_
 refine RW.lw tk h8 ?_
 have h9:=((h2.ext x1).turnB x2 h4 ⟨.inr (by omega),trivial⟩).ext x3
 have h10:=((h3.ext x1).turnB x2 h4 ⟨.inr (by omega),trivial⟩).ext x3
 refine RW.cp H ent33 (fun _ h=>room_Busy.calls h h9.all l1 h10.all l2) fun y1 w6 x4 sx4 H=>?_
 refine RW.cp H ent34 (fun _ h=>seg_Set_Count.calls h) fun y2 w7 x5 sx5 H=>?_
 refine pu 3 rfl (RW.done (NW.norm_block ?_))
 have h13:=((j1.tr x3).tr x4).tr x5
 exact NW.J fun a ha=>⟨(w64 (vb+(w64 (((rd p0 va).Size)-y2)))),ha.sb,by omega,h13,H⟩
 rintro a w2 ⟨vc,hS,hle,ve,H⟩ hp
 unfold move_Loose.j0 at H
 refine CW.go hp hS (CW.lw 2 rfl (pu 2 rfl (RW.done ?_)))
 exact NW.J fun a ha=>⟨n1,Nat.lt_succ_self n1,vc,(w64 (va+1)),ha.sb,by omega,ve,H⟩
 refine CW.exit ?_
 refine NW.exit_then (NW.exit_then (NW.exit_hit ?_))
 refine NW.next (CW.seq (CW.lw 2 rfl (pu 2 rfl (RW.done (NW.next (CW.ret ?_))))))
 obtain rfl:=Option.some.inj H
 exact NW.r1 ⟨rfl,vd⟩
theorem math_bits_TrailingZeros64.calls {p0:Int} {r:Int} {w:World} (H:math_bits_TrailingZeros64.f p0=some r) {gT:Nat} (hG:Box w.heap 0 gT (arrI .u8 64 tz)):
 Calls Tryz.prog 126 #[.int .u64 p0] w fun e w'=>e=.returned (iv r)∧Ext w w':=by
 have hG0:0<w.heap.size:=hG.lt
 have x0:Ext w w:=Upd.refl _ w
 unfold math_bits_TrailingZeros64.f at H
 refine cst Tryz.func126 14 ?_
 refine CW.seq (CW.lw 1 rfl (pu 1 rfl (RW.done (NW.next (CW.seq (CW.seq (CW.lw 2 rfl ?_)))))))
 refine pu 2 rfl (RW.done (NW.next (CW.i H (fun c1 H=>?_) fun c1 H=>?_)))
 refine CW.seq (CW.lw 1 rfl (pu 1 rfl (RW.done (NW.next (CW.ret (NW.ret_then ?_))))))
 obtain rfl:=Option.some.inj H
 exact NW.r1 ⟨rfl,x0⟩
 refine CW.skip (NW.next (CW.seq (CW.lex [.W,.W,.W,.W,.W,.W,.W,.L,.W,.W] rfl (pu 2 rfl (RW.neg ⟨rfl,rfl,rfl,rfl⟩ rfl rfl (pu 2 rfl (RW.shift (by omega) ⟨rfl,rfl,rfl,rfl⟩ rfl rfl rfl rfl ?_)))))))
 obtain ⟨g1,H⟩:=guard_some H
 refine RW.indexBox tk g1.1 g1.2 ⟨rfl,rfl,rfl,rfl⟩ rfl rfl rfl rfl rfl rfl rfl (RW.ld tk [.int .u8 (tz ((wu64 ((uand p0 (wu64 (0-p0)))*285870213051353865)).fdiv (2^min (58:Int).toNat 64)).toNat)] (hG.elF (by have:=g1;omega)) ?_)
 refine pu 2 rfl (RW.done (NW.next (CW.ret ?_)))
 obtain rfl:=Option.some.inj H
 exact NW.r1 ⟨rfl,x0⟩
theorem seg_Set_Least.calls {p0:Int} {r:Int} {w:World} (H:seg_Set_Least.f p0=some r) {gT:Nat} (hG:Box w.heap 0 gT (arrI .u8 64 tz)):
 Calls Tryz.prog 90 #[.int .u64 p0] w fun e w'=>e=.returned (iv r)∧Ext w w':=by
 have hG0:0<w.heap.size:=hG.lt
 have x0:Ext w w:=Upd.refl _ w
 unfold seg_Set_Least.f at H
 refine cst Tryz.func90 5 ?_
 refine CW.seq (CW.lw 1 rfl (pu 1 rfl (RW.done (NW.next (CW.seq (CW.lex [.W,.X,.W] rfl (pu 1 rfl ?_)))))))
 refine RW.cp H ent126 (fun _ h=>math_bits_TrailingZeros64.calls h hG) fun y1 w1 x1 sx1 H=>?_
 refine pu 1 rfl (RW.done (NW.next (CW.ret ?_)))
 obtain rfl:=Option.some.inj H
 have h2:=x0.tr x1
 exact NW.r1 ⟨rfl,h2⟩
theorem seg_Set_Sectors.calls {k:Nat} {p0:Int} {r:(List Int)} {w:World} (H:seg_Set_Sectors.f k p0=some r) {gT:Nat} (hG:Box w.heap 0 gT (arrI .u8 64 tz)):
 Calls Tryz.prog 64 #[.int .u64 p0] w fun e w'=>∃(B1:Option Addr) (d1:Nat),e=.returned (.slice B1 r.length d1)∧Ext w w'∧Ow (Kd.int .i64) 3 w'.heap (okL [(w.heap.size,none,some 3)]) (okL []) B1 d1 r:=by
 have hG0:0<w.heap.size:=hG.lt
 have x0:Ext w w:=Upd.refl _ w
 unfold seg_Set_Sectors.f at H
 refine cst Tryz.func64 15 ?_
 refine CW.seq (CW.lw 1 rfl (pu 1 rfl (RW.done (NW.next (CW.seq (CW.block ?_))))))
 refine CW.loop (fun n1 a w1=>∃(vb:Int) (va:List Int) (vc:Option Addr) (vd:Nat),Sat 15 [(0,.int .u64 vb),(2,.slice vc va.length vd)] a∧w.heap.size≤w1.heap.size∧Ow (Kd.int .i64) 3 w1.heap (okL [(w.heap.size,none,some 3)]) (okL []) vc vd va∧Ext w w1∧seg_Set_Sectors.l0 n1 vb va=some r) k ?_ ?_
 exact fun a ha=>⟨p0,([]:List Int),none,0,ha.sb,by omega,Ow.nil,x0,H⟩
 rintro n1 a w1 ⟨vb,va,vc,vd,hS,hle,vf,ve,H⟩ hp
 obtain _|n1:=n1
 cases H
 rw [seg_Set_Sectors.l0] at H
 refine CW.go hp hS ?_
 have h1:Ow (Kd.int .i64) 3 w1.heap (okL [(w.heap.size,some w1.heap.size,some 3)]) (okL []) vc vd va:=vf.close
 have xt1:Ext w1 w1:=Upd.refl _ _
 refine CW.seq (CW.seq (CW.lw 2 rfl (pu 2 rfl (RW.done (NW.next (CW.n H (fun c1 H=>?_) fun c1 H=>?_))))))
 refine CW.exit ?_
 refine NW.exit_then (NW.exit_then (NW.exit_hit ?_))
 refine NW.next (CW.seq (CW.lw 2 rfl (pu 2 rfl (RW.done (NW.next (CW.ret ?_))))))
 obtain rfl:=Option.some.inj H
 exact NW.r1 ⟨vc,vd,rfl,ve,(h1.sub (l':=[(w.heap.size,none,some 3)]) (li':=[]) ⟨(.inl ⟨by omega,trivial,rfl⟩),trivial⟩ trivial)⟩
 refine CW.skip (NW.next (CW.seq (CW.block (CW.lex [.W,.W,.X,.X,.M,.W] rfl (pu 2 rfl (RW.cp H ent90 (fun _ h=>seg_Set_Least.calls h (hG.ext ve)) fun y1 w2 x1 sx1 H=>?_))))))
 refine RW.buildSlice (cs:=[iv y1]) tk (.inl rfl) ⟨rfl,rfl,rfl,rfl⟩ rfl rfl rfl rfl rfl rfl rfl ?_
 intro b1 w3 x2 l1 h3
 have sx2:=x2.size
 have ltb1:=h3.lt
 have h4:=(h1.ext x1).ext x2
 obtain ⟨g1,H⟩:=guard_some H
 refine RW.append1L (d:=(Kd.int .i64)) (v:=y1) (l:=[(w.heap.size,some w1.heap.size,some 3)]) (li:=[]) (ly:=[]) (xs:=va) tk h4 h3 rfl trivial (by simp only [maxLen];omega) g1 ⟨rfl,rfl,rfl,rfl⟩ rfl rfl rfl rfl rfl rfl rfl ?_
 intro A1 c_1 w4 x3 h5
 have sx3:=x3.size
 have h6:=h5.close.sub (l':=[(w.heap.size,some w4.heap.size,some 3)]) (li':=[]) ⟨(.inl ⟨by omega,by omega,rfl⟩),⟨(.inl ⟨by omega,by omega,rfl⟩),trivial⟩⟩ trivial
 refine pu 1 rfl (RW.done ?_)
 refine NW.norm_block (NW.next ?_)
 refine CW.lw 5 rfl (pu 5 rfl (RW.done ?_))
 have h7:=Ext.turn ((ve.tr x1).tr x2) x3 ⟨by omega,trivial⟩
 exact NW.J fun a ha=>⟨n1,Nat.lt_succ_self n1,(uand vb (wu64 (vb-1))),(va++[y1]),A1,c_1,ha.sb,by omega,(h6.sb),h7,H⟩
theorem seg_Set_Segs.calls {k:Nat} {p0:Int} {r:(List Seg)} {w:World} (H:seg_Set_Segs.f k p0=some r) {gT:Nat} (hG:Box w.heap 0 gT (arrI .u8 64 tz)):
 Calls Tryz.prog 40 #[.int .u64 p0] w fun e w'=>∃(B1:Option Addr) (d1:Nat),e=.returned (.slice B1 r.length d1)∧Ext w w'∧Ow kSeg 105 w'.heap (okL [(w.heap.size,none,some 105)]) (okL []) B1 d1 r:=by
 have hG0:0<w.heap.size:=hG.lt
 have x0:Ext w w:=Upd.refl _ w
 unfold seg_Set_Segs.f at H
 refine cst Tryz.func40 50 ?_
 refine CW.seq (CW.lw 1 rfl (pu 1 rfl (RW.done (NW.next (CW.seq (CW.seq (CW.lex [.W,.X,.W,.W] rfl ?_)))))))
 refine pu 1 rfl ?_
 obtain ⟨y1,h1,H⟩:=bind_some H
 refine RW.cl ent64 (seg_Set_Sectors.calls h1 hG) ?_
 rintro _ w1 ⟨A1,c_1,rfl,x1,h2⟩
 refine ⟨_,rfl,x1,?_⟩
 have sx1:=x1.size
 have h3:Ow (Kd.int .i64) 3 w1.heap (okL [(w.heap.size,some w1.heap.size,some 3)]) (okL []) A1 c_1 y1:=h2.close
 refine pu 2 rfl (RW.done (NW.next (CW.block ?_)))
 refine CW.loop (fun n1 a w2=>∃(va:List Seg) (vc:Option Addr) (vd:Nat) (vb:Int),Sat 50 [(2,.slice vc va.length vd),(7,.slice A1 y1.length c_1),(8,iv (y1.length:Int)),(9,iv vb)] a∧w1.heap.size≤w2.heap.size∧Ow kSeg 105 w2.heap (okL [(w1.heap.size,none,some 105)]) (okL []) vc vd va∧Ow (Kd.int .i64) 3 w2.heap (okL [(w.heap.size,some w1.heap.size,some 3)]) (okL []) A1 c_1 y1∧Ext w w2∧seg_Set_Segs.l0 y1 n1 va vb=some r) k ?_ ?_
 have h4:=x0.tr x1
 exact fun a ha=>⟨([]:List Seg),none,0,0,ha.sb,by omega,Ow.nil,h3,h4,H⟩
 rintro n1 a w2 ⟨va,vc,vd,vb,hS,hle,vm,vi,vk,H⟩ hp
 obtain _|n1:=n1
 cases H
 rw [seg_Set_Segs.l0] at H
 refine CW.go hp hS ?_
 have h5:Ow kSeg 105 w2.heap (okL [(w1.heap.size,some w2.heap.size,some 105)]) (okL []) vc vd va:=vm.close
 have xt1:Ext w2 w2:=Upd.refl _ _
 refine CW.seq (CW.lw 1 rfl (pu 1 rfl (RW.done (NW.next (CW.seq (CW.i H (fun c1 H=>?_) fun c1 H=>?_))))))
 refine CW.skip (NW.next ?_)
 refine CW.seqJ (fun a w3=>∃(ve:List Seg) (vg:Option Addr) (vh:Nat),Sat 50 [(2,.slice vg ve.length vh),(7,.slice A1 y1.length c_1),(8,iv (y1.length:Int)),(9,iv vb)] a∧w2.heap.size≤w3.heap.size∧Ow kSeg 105 w3.heap (okL [(w1.heap.size,none,some 105)]) (okL []) vg vh ve∧Ow (Kd.int .i64) 3 w3.heap (okL [(w.heap.size,some w1.heap.size,some 3)]) (okL []) A1 c_1 y1∧Ext w w3∧seg_Set_Segs.j0 vb (seg_Set_Segs.l0 y1 n1) ve=some r) ?_ ?_
 refine CW.block (CW.seq (CW.lex [.W,.L,.W] rfl ?_))
 obtain ⟨g1,H⟩:=guard_some H
 obtain ⟨ad1,e1,a1⟩:=at_i64 vi.slL g1.1 g1.2
 refine RW.ix tk g1 e1 ?_
 refine RW.ld tk _ a1 ?_
 refine pu 1 rfl (RW.done (NW.next (CW.seq (CW.seq (CW.lw 3 rfl (pu 3 rfl (RW.done ?_)))))))
 refine NW.next ?_
 refine CW.seqJ (fun a w4=>∃(vj:Bool),Sat 50 [(2,.slice vc va.length vd),(4,iv (rd y1 vb)),(5,iv (va.length:Int)),(7,.slice A1 y1.length c_1),(8,iv (y1.length:Int)),(9,iv vb),(33,.bool vj)] a∧w2.heap.size≤w4.heap.size∧Ext w w4∧Ext w2 w4∧seg_Set_Segs.j1 y1 va vb (seg_Set_Segs.l0 y1 n1) vj=some r) ?_ ?_
 refine CW.ord [0,1,3,7,7,23,63,127,255,7,7,1031,3591,7687,15879,32767,7,131071,262143] (ofL [(0,.W),(1,.W),(2,.W),(3,.W),(4,.W),(5,.W),(6,.W),(7,.W),(9,.W),(10,.W),(11,.W),(12,.W),(13,.W),(16,.W),(8,.L),(14,.L),(15,.W),(17,.W),(18,.W)] .nil) mixed (by kernel_rfl) ?_
 intro w5 x2
 have sx2:=x2.size
 refine pu 3 rfl ?_
 have j1:=vk.tr x2
 have j2:=xt1.tr x2
 refine RW.i 17 H (fun c2 H=>?_) fun c2 H=>?_
 refine pu 3 rfl ?_
 obtain ⟨g2,H⟩:=guard_some H
 have h6:=h5.ext x2
 obtain ⟨ad2,e2,a2⟩:=kSeg_at h6.slL g2.1 g2.2
 refine RW.ix tk g2 e2 ?_
 refine pu 4 rfl ?_
 obtain ⟨g3,H⟩:=guard_some H
 obtain ⟨ad3,e3,a3⟩:=kSeg_at h6.slL g3.1 g3.2
 refine RW.ix tk g3 e3 ?_
 refine pu 2 rfl (RW.ld tk [iv ((rd va (w64 ((va.length:Int)-1))).At)] ((a2.fld 0).take 1 rfl) ?_)
 refine RW.ld tk [iv ((rd va (w64 ((va.length:Int)-1))).Len)] (a3.fld 1) ?_
 refine pu 3 rfl (RW.done ?_)
 exact NW.J fun a ha=>⟨((w64 (((rd va (w64 ((va.length:Int)-1))).At)+((rd va (w64 ((va.length:Int)-1))).Len)))==(rd y1 vb)),ha.sb,by omega,j1,j2,H⟩
 refine pu 16 rfl (RW.done ?_)
 exact NW.J fun a ha=>⟨false,ha.sb,by omega,j1,j2,H⟩
 rintro a w4 ⟨vj,hS,hle,vl,vf,H⟩ hp
 unfold seg_Set_Segs.j1 at H
 refine CW.go hp hS (CW.i H (fun c3 H=>?_) fun c3 H=>?_)
 refine CW.seq (CW.lex [.W,.W,.W,.W,.W,.L,.W,.W,.W,.M] rfl (pu 3 rfl ?_))
 obtain ⟨g4,H⟩:=guard_some H
 obtain ⟨ad4,e4,a4⟩:=kSeg_at ((h5.ext vf).slL) g4.1 g4.2
 refine RW.ix tk g4 e4 ?_
 refine pu 1 rfl (RW.ld tk [iv ((rd va (w64 ((va.length:Int)-1))).Len)] (a4.fld 1) ?_)
 refine pu 1 rfl ?_
 obtain ⟨g5,H⟩:=guard_some H
 obtain ⟨ad5,e5,a5⟩:=kSeg_at ((h5.ext vf).slL) g5.1 g5.2
 refine RW.ix tk g5 e5 ?_
 refine pu 1 rfl ?_
 refine RW.storeElL (y:=(⟨(rd va (w64 ((va.length:Int)-1))).At,w64 (((rd va (w64 ((va.length:Int)-1))).Len)+1)⟩:Seg)) (lv:=[]) (k:=1) tk (h5.ext vf) (j:=(w64 ((va.length:Int)-1)).toNat) (by have:=g5;omega) default [iv (w64 (((rd va (w64 ((va.length:Int)-1))).Len)+1))] (fun cs ok' hr=>by obtain rfl:=kSeg_open hr;exact ⟨by simp,kSeg_mk (⟨(rd va (w64 ((va.length:Int)-1))).At,w64 (((rd va (w64 ((va.length:Int)-1))).Len)+1)⟩:Seg)⟩) trivial ⟨rfl,rfl,rfl⟩ rfl rfl e5 rfl rfl rfl rfl rfl ?_
 intro w6 x3 h11
 have sx3:=x3.size
 have h12:=h11.sub (l':=[(w1.heap.size,some w2.heap.size,some 105)]) (li':=[]) ⟨(.inl ⟨by omega,by omega,rfl⟩),trivial⟩ trivial
 refine RW.tell 2 (v':=.slice vc (va.set (w64 ((va.length:Int)-1)).toNat (⟨(rd va (w64 ((va.length:Int)-1))).At,w64 (((rd va (w64 ((va.length:Int)-1))).Len)+1)⟩:Seg)).length vd) (by simp only [List.length_set]) rfl (RW.done (NW.next (CW.exit ?_)))
 refine NW.exit_then (NW.exit_hit ?_)
 have h13:=(vi.ext vf).tL x3
 have h14:=Ext.turn vl x3 ⟨by omega,trivial⟩
 exact NW.J fun a ha=>⟨(va.set (w64 ((va.length:Int)-1)).toNat (⟨(rd va (w64 ((va.length:Int)-1))).At,w64 (((rd va (w64 ((va.length:Int)-1))).Len)+1)⟩:Seg)),vc,vd,ha.sb,by omega,(h12.sb),h13,h14,H⟩
 refine CW.skip (NW.next (CW.lex [.W,.W,.W,.X,.M,.W] rfl (pu 3 rfl (RW.buildSlice (cs:=[iv (rd y1 vb),iv 1]) tk (.inl rfl) ⟨rfl,rfl,rfl,rfl⟩ rfl rfl rfl rfl rfl rfl rfl ?_))))
 intro b1 w7 x4 l1 h15
 have sx4:=x4.size
 have ltb1:=h15.lt
 have h16:=(h5.ext vf).ext x4
 obtain ⟨g6,H⟩:=guard_some H
 refine RW.append1L (d:=kSeg) (v:=(⟨rd y1 vb,1⟩:Seg)) (l:=[(w1.heap.size,some w2.heap.size,some 105)]) (li:=[]) (ly:=[]) (xs:=va) tk h16 h15 (kSeg_mk (⟨rd y1 vb,1⟩:Seg)) trivial (by simp only [maxLen];omega) g6 ⟨rfl,rfl,rfl,rfl⟩ rfl rfl rfl rfl rfl rfl rfl ?_
 intro A2 c_2 w8 x5 h17
 have sx5:=x5.size
 have h18:=h17.close.sub (l':=[(w1.heap.size,some w8.heap.size,some 105)]) (li':=[]) ⟨(.inl ⟨by omega,by omega,rfl⟩),⟨(.inl ⟨by omega,by omega,rfl⟩),trivial⟩⟩ trivial
 refine pu 1 rfl (RW.done (NW.norm_block ?_))
 have h19:=((vi.ext vf).ext x4).tL x5
 have h20:=Ext.turn (vl.tr x4) x5 ⟨by omega,trivial⟩
 exact NW.J fun a ha=>⟨(va++[(⟨rd y1 vb,1⟩:Seg)]),A2,c_2,ha.sb,by omega,(h18.sb),h19,h20,H⟩
 rintro a w3 ⟨ve,vg,vh,hS,hle,vn,vo,vp,H⟩ hp
 unfold seg_Set_Segs.j0 at H
 refine CW.go hp hS ?_
 have h21:Ow kSeg 105 w3.heap (okL [(w1.heap.size,some w3.heap.size,some 105)]) (okL []) vg vh ve:=vn.close
 have xt2:Ext w3 w3:=Upd.refl _ _
 refine CW.lw 2 rfl (pu 2 rfl (RW.done ?_))
 exact NW.J fun a ha=>⟨n1,Nat.lt_succ_self n1,ve,vg,vh,(w64 (vb+1)),ha.sb,by omega,(h21.sb),vo,vp,H⟩
 refine CW.exit ?_
 refine NW.exit_then (NW.exit_then (NW.exit_hit ?_))
 refine NW.next (CW.seq (CW.lw 2 rfl (pu 2 rfl (RW.done (NW.next (CW.ret ?_))))))
 obtain rfl:=Option.some.inj H
 exact NW.r1 ⟨vc,vd,rfl,vk,(h5.sub (l':=[(w.heap.size,none,some 105)]) (li':=[]) ⟨(.inl ⟨by omega,trivial,rfl⟩),trivial⟩ trivial)⟩
theorem move_Remove.calls {k:Nat} {p0:Pool} {A1:Option Addr} {c_1:Nat} {A2:Option Addr} {c_2:Nat} {A3:Option Addr} {c_3:Nat} {p1:Int} {r:Pool×Int} {w:World} (H:move_Remove.f k p0 p1=some r) (hs1:Sl kDeviceR w.heap okAll A1 p0.Devices) (hl1:p0.Devices.length≤c_1) (hs2:Sl kTableR w.heap okAll A2 p0.Tables) (hl2:p0.Tables.length≤c_2) (hs3:Sl kEntry w.heap okAll A3 p0.Job.Table.List_) (hl3:p0.Job.Table.List_.length≤c_3) {gT:Nat} (hG:Box w.heap 0 gT (arrI .u8 64 tz)):
 Calls Tryz.prog 11 #[.agg #[.slice A1 p0.Devices.length c_1,.slice A2 p0.Tables.length c_2,iv p0.Job.Dev,iv p0.Job.At,iv p0.Job.Table.Dev,iv p0.Job.Table.Size,.slice A3 p0.Job.Table.List_.length c_3,iv p0.Next],iv p1] w fun e w'=>∃(B1:Option Addr) (d1:Nat) (B2:Option Addr) (d2:Nat) (B3:Option Addr) (d3:Nat),e=.returned (.tuple #[.agg #[.slice B1 r.1.Devices.length d1,.slice B2 r.1.Tables.length d2,iv r.1.Job.Dev,iv r.1.Job.At,iv r.1.Job.Table.Dev,iv r.1.Job.Table.Size,.slice B3 r.1.Job.Table.List_.length d3,iv r.1.Next],iv r.2])∧Ext w w'∧Ow kDeviceO 40 w'.heap (okL [(w.heap.size,none,some 40)]) (okL [(w.heap.size,none,some 105)]) B1 d1 r.1.Devices∧Ow kTableO 26 w'.heap (okL [(w.heap.size,none,some 26)]) (okL [(w.heap.size,none,some 66)]) B2 d2 r.1.Tables∧Ow kEntry 66 w'.heap (okL [(w.heap.size,none,some 66)]) (okL []) B3 d3 r.1.Job.Table.List_:=by
 have h1:Sl kDeviceR w.heap (okL [(0,some w.heap.size,none)]) A1 p0.Devices:=hs1.old _ rfl
 have h2:Sl kTableR w.heap (okL [(0,some w.heap.size,none)]) A2 p0.Tables:=hs2.old _ rfl
 have h3:Sl kEntry w.heap (okL [(0,some w.heap.size,none)]) A3 p0.Job.Table.List_:=hs3.old _ rfl
 have hG0:0<w.heap.size:=hG.lt
 have x0:Ext w w:=Upd.refl _ w
 unfold move_Remove.f at H
 refine cst Tryz.func11 106 ?_
 refine CW.seq (CW.lex [.X,.X,.W] rfl (RW.bx fun b1 w1 x1 sx1 l1 ltb1 h4=>?_))
 refine RW.al tk fun b2 w2 x2 sx2 l2 ltb2 h5=>?_
 refine pu 1 rfl (RW.done (NW.next (CW.seq (CW.lex [.L,.X,.W,.W,.W,.W,.W] rfl ?_))))
 have h6:=h4.ext x2
 refine RW.lw tk h6 ?_
 have xc1:Ext w2 w2:=Upd.refl _ _
 refine RW.callK (.inl rfl) ent30 ⟨rfl,rfl,rfl,rfl⟩ rfl rfl rfl ?_
 refine cst Tryz.func30 11 ?_
 refine CW.seq (CW.lex [.X,.W,.W] rfl (RW.bx fun b3 w3 x3 sx3 l3 ltb3 h7=>?_))
 refine pu 2 rfl (RW.done (NW.next (CW.seq (CW.seq (CW.lex [.L,.X,.W] rfl (RW.lw tk h7 ?_))))))
 have h8:=((h1.ext x1).ext x2).ext x3
 have h9:=((h2.ext x1).ext x2).ext x3
 have h10:=((h3.ext x1).ext x2).ext x3
 refine RW.cp H ent53 (fun _ h=>chain_May.calls h h8.all hl1 h9.all hl2 h10.all hl3) fun y1 w4 x4 sx4 H=>?_
 refine pu 1 rfl (RW.done (NW.next ?_))
 have j1:=(xc1.tr x3).tr x4
 have j2:=(h5.ext x3).ext x4
 have j3:=(((x0.tr x1).tr x2).tr x3).tr x4
 refine CW.n H (fun c1 H=>?_) fun c1 H=>?_
 refine CW.skip (NW.next (CW.seq (CW.lex [.L,.X,.W,.X,.W,.W] rfl ?_)))
 have h12:=h7.ext x4
 refine RW.lw tk h12 ?_
 have h13:=h8.ext x4
 have h14:=h9.ext x4
 have h15:=h10.ext x4
 obtain ⟨y2,h16,H⟩:=bind_some H
 refine RW.cl ent54 (chain_Own.calls h16 h13.all hl1 h14.all hl2 h15.all hl3) ?_
 rintro _ w5 ⟨mid1,A4,c_4,A5,c_5,A6,c_6,rfl,x5,lomid1,himid1,h17,h18,h19⟩
 refine ⟨_,rfl,x5,?_⟩
 have sx5:=x5.size
 have h20:Ow kDeviceO 40 w5.heap (okL [(w4.heap.size,some w5.heap.size,some 40)]) (okL [(w4.heap.size,some w5.heap.size,some 105)]) A4 c_4 y2.Devices:=h17.close
 have h21:Ow kTableO 26 w5.heap (okL [(w4.heap.size,some w5.heap.size,some 26)]) (okL [(mid1,some w5.heap.size,some 66)]) A5 c_5 y2.Tables:=h18.close
 have h22:Ow kEntry 66 w5.heap (okL [(w4.heap.size,some mid1,some 66)]) (okL []) A6 c_6 y2.Job.Table.List_:=h19.close
 refine pu 1 rfl (RW.bx fun b4 w6 x6 sx6 l4 ltb4 h23=>?_)
 refine pu 2 rfl (RW.done (NW.next (CW.ret ?_)))
 have h24:=(j1.tr x5).tr x6
 refine NW.ret2 rfl (by rfl) (by rfl) ⟨_,rfl,h24,?_⟩
 refine pu 5 rfl (RW.done (NW.next (CW.seq (CW.seq (CW.lw 2 rfl (pu 2 rfl (RW.done ?_)))))))
 refine NW.next (CW.cond_f rfl rfl (CW.skip (NW.next (CW.seq (CW.lex [.W,.W,.W,.W,.L,.W,.X,.W,.W,.W,.W,.W] rfl (pu 4 rfl (RW.lb tk [.slice A4 y2.Devices.length c_4] h23 0 ?_)))))))
 refine pu 1 rfl ?_
 have h25:=h20.ext x6
 refine RW.cp H ent31 (fun _ h=>room_Find.calls h (h25.all.to kDevice_ro rfl) h25.len) fun y3 w7 x7 sx7 H=>?_
 refine pu 5 rfl (RW.done (NW.next (CW.seq (CW.block (CW.seq (CW.lw 3 rfl (pu 3 rfl ?_)))))))
 refine RW.done (NW.next ?_)
 have j4:=((j2.ext x5).ext x6).ext x7
 have j5:=((j3.tr x5).tr x6).tr x7
 refine CW.n H (fun c2 H=>?_) fun c2 H=>?_
 refine CW.seq (CW.lex [.W,.W,.W,.W,.W,.L,.W,.W] rfl (pu 5 rfl ?_))
 have h27:=h23.ext x7
 refine RW.lb tk [iv y2.Job.Dev] h27 2 ?_
 refine pu 2 rfl (RW.done (NW.next (CW.n H (fun c3 H=>?_) fun c3 H=>?_)))
 refine CW.seq (CW.lex [.W,.W,.W,.W,.L,.W,.W,.W] rfl (pu 4 rfl (RW.lb tk [.slice A4 y2.Devices.length c_4] h27 0 ?_)))
 refine pu 3 rfl (RW.done (NW.next (CW.i H (fun c4 H=>?_) fun c4 H=>?_)))
 refine CW.seq (CW.lex [.W,.M,.W] rfl (pu 1 rfl (RW.sf tk j4 fun w8 x8 sx8 h30=>?_)))
 refine pu 1 rfl (RW.done (NW.next (CW.ret ?_)))
 refine NW.ret_block (NW.ret_then ?_)
 obtain rfl:=Option.some.inj H
 have h31:=j5.tB x8
 exact NW.ret2 rfl (resOne_cell tk (h30.at 0) rfl rfl rfl) (by rfl) ⟨none,0,none,0,none,0,rfl,h31,Ow.nil,Ow.nil,Ow.nil⟩
 refine CW.seq (CW.lex [.W,.W,.W,.W,.L,.W,.W,.W] rfl (pu 4 rfl (RW.lb tk [.slice A5 y2.Tables.length c_5] h27 1 ?_)))
 refine pu 3 rfl (RW.done (NW.next (CW.i H (fun c5 H=>?_) fun c5 H=>?_)))
 refine CW.seq (CW.lex [.W,.M,.W] rfl (pu 1 rfl (RW.sf tk j4 fun w9 x9 sx9 h34=>?_)))
 refine pu 1 rfl (RW.done (NW.next (CW.ret ?_)))
 refine NW.ret_block (NW.ret_then ?_)
 obtain rfl:=Option.some.inj H
 have h35:=j5.tB x9
 exact NW.ret2 rfl (resOne_cell tk (h34.at 0) rfl rfl rfl) (by rfl) ⟨none,0,none,0,none,0,rfl,h35,Ow.nil,Ow.nil,Ow.nil⟩
 refine CW.seq (CW.ord [0,1,3,7,15,0,63,0,128,384,896,1920,0,8064,16256,32767,65535,131071,262143] (ofL [(0,.W),(1,.W),(2,.W),(3,.W),(5,.W),(7,.W),(8,.W),(9,.W),(10,.W),(12,.W),(4,.L),(11,.L),(13,.W),(14,.L),(6,.X),(15,.X),(16,.X),(17,.W),(18,.W)] .nil) mixed (by kernel_rfl) ?_)
 intro w10 x10
 have sx10:=x10.size
 refine pu 10 rfl ?_
 have h36:=h27.ext x10
 refine RW.lb tk [.slice A4 y2.Devices.length c_4] h36 0 ?_
 refine RW.lb tk [.slice A4 y2.Devices.length c_4] h36 0 ?_
 obtain ⟨g1,H⟩:=guard_some H
 have h37:=(h25.ext x7).ext x10
 obtain ⟨ad1,A7,c_7,A8,c_8,e1,a1,h38,h39⟩:=kDeviceO_ato h37 g1.1 g1.2
 refine RW.ix tk g1 e1 ?_
 refine RW.ld tk _ a1 ?_
 refine RW.cp H ent32 (fun _ h=>move_Loose.calls h (h37.all.to kDevice_ro rfl) h37.len) fun y4 w11 x11 sx11 H=>?_
 have h41:=h38.ext x11
 have h42:=h39.ext x11
 refine RW.cp H ent33 (fun _ h=>room_Busy.calls h h41.all h41.len h42.all h42.len) fun y5 w12 x12 sx12 H=>?_
 refine RW.cp H ent34 (fun _ h=>seg_Set_Count.calls h) fun y6 w13 x13 sx13 H=>?_
 refine pu 2 rfl (RW.done (NW.next ?_))
 have j6:=(((j4.ext x10).ext x11).ext x12).ext x13
 have j7:=(((j5.tr x10).tr x11).tr x12).tr x13
 refine CW.i H (fun c6 H=>?_) fun c6 H=>?_
 refine CW.seq (CW.lex [.W,.M,.W] rfl (pu 1 rfl (RW.sf tk j6 fun w14 x14 sx14 h47=>?_)))
 refine pu 1 rfl (RW.done (NW.next (CW.ret ?_)))
 refine NW.ret_block (NW.ret_then ?_)
 obtain rfl:=Option.some.inj H
 have h48:=j7.tB x14
 exact NW.ret2 rfl (resOne_cell tk (h47.at 0) rfl rfl rfl) (by rfl) ⟨none,0,none,0,none,0,rfl,h48,Ow.nil,Ow.nil,Ow.nil⟩
 refine CW.skip ?_
 refine NW.norm_block (NW.next ?_)
 refine CW.seq (CW.lex [.W,.W,.W,.W,.W,.W,.W,.L,.W,.W,.W,.L,.W,.W,.W,.W,.W,.M] rfl (pu 7 rfl ?_))
 have h49:=((h36.ext x11).ext x12).ext x13
 refine RW.lb tk [.slice A4 y2.Devices.length c_4] h49 0 ?_
 refine pu 1 rfl ?_
 obtain ⟨g2,H⟩:=guard_some H
 have h50:=((h37.ext x11).ext x12).ext x13
 obtain ⟨ad2,A9,c_9,A10,c_10,e2,a2,h51,h52⟩:=kDeviceO_ato h50 g2.1 g2.2
 refine RW.ix tk g2 e2 ?_
 refine pu 1 rfl (RW.ld tk [iv ((rd y2.Devices y3.1).Size)] ((a2.fld 1).take 1 rfl) ?_)
 refine pu 5 rfl (RW.sp tk h49 [.slice A4 y2.Devices.length c_4,.slice A5 y2.Tables.length c_5,iv p1,iv 0,iv p1,iv ((rd y2.Devices y3.1).Size),.slice none 0 0,iv y2.Next] fun w15 x15 sx15 h54=>?_)
 refine RW.done (NW.next (CW.seq (CW.lex [.W,.W,.W,.W,.L,.M] rfl (pu 4 rfl (RW.lb tk [.slice A4 y2.Devices.length c_4] h54 0 ?_)))))
 refine RW.callKM ent35 ⟨rfl,rfl,rfl,rfl⟩ rfl rfl rfl ?_
 refine cst Tryz.func35 28 ?_
 refine CW.seq (CW.lw 3 rfl (pu 3 rfl (RW.done (NW.next (CW.block ?_)))))
 refine CW.loop (fun n1 a w16=>∃(vb:List Device) (va:Int),Sat 28 [(0,.slice A4 vb.length c_4),(4,.slice A4 vb.length c_4),(5,iv (y2.Devices.length:Int)),(6,iv va)] a∧w15.heap.size≤w16.heap.size∧Ow kDeviceO 40 w16.heap (okL [(w4.heap.size,none,some 40)]) (okL [(w4.heap.size,none,some 105)]) A4 c_4 vb∧Ow kTableO 26 w16.heap (okL [(w4.heap.size,some w5.heap.size,some 26)]) (okL [(mid1,some w5.heap.size,some 66)]) A5 c_5 y2.Tables∧Ext w w16∧vb.length=y2.Devices.length∧Box w16.heap b2 30 [.slice none 0 0,.slice none 0 0,iv 0,iv 0,iv 0,iv 0,.slice none 0 0,iv 0]∧Box w16.heap b4 78 [.slice A4 vb.length c_4,.slice A5 y2.Tables.length c_5,iv p1,iv 0,iv p1,iv ((rd y2.Devices y3.1).Size),.slice none 0 0,iv y2.Next]∧move_Remove.l0 p1 k y2 y3 n1 vb va=some r) k ?_ ?_
 have h55:=h50.tB x15 h49
 have h56:=((((((h21.ext x6).ext x7).ext x10).ext x11).ext x12).ext x13).tB x15 h49
 have h57:=j7.tB x15
 have h58:=j6.tB x15
 exact fun a ha=>⟨y2.Devices,0,ha.sb,by omega,(h55.sb),h56,h57,(by (try simp only [List.length_set]) <;>omega),h58,h54,H⟩
 rintro n1 a w16 ⟨vb,va,hS,hle,vg,ve,vd,vh,vc,vf,H⟩ hp
 obtain _|n1:=n1
 cases H
 rw [move_Remove.l0] at H
 refine CW.go hp hS ?_
 have h59:Ow kDeviceO 40 w16.heap (okL [(w4.heap.size,some w16.heap.size,some 40)]) (okL [(w4.heap.size,some w16.heap.size,some 105)]) A4 c_4 vb:=vg.close
 have xt1:Ext w16 w16:=Upd.refl _ _
 refine CW.seq (CW.lw 1 rfl (pu 1 rfl (RW.done (NW.next (CW.seq (CW.i H (fun c7 H=>?_) fun c7 H=>?_))))))
 refine CW.skip (NW.next (CW.seq (CW.block (CW.seq (CW.lex [.W,.W,.L,.X,.W,.M] rfl (pu 1 rfl ?_))))))
 obtain ⟨g3,H⟩:=guard_some H
 obtain ⟨ad3,A11,c_11,A12,c_12,e3,a3,h60,h61⟩:=kDeviceO_ato h59 g3.1 g3.2
 refine RW.ix tk g3 e3 ?_
 refine RW.ld tk _ a3 ?_
 refine RW.al tk fun b5 w17 x16 sx16 l11 ltb5 h62=>?_
 refine pu 1 rfl (RW.sf tk h62 fun w18 x17 sx17 h64=>?_)
 refine RW.done (NW.next (CW.ord [0,0,0,0,0,16,48,0,128,496,1008,2032,4083,8179,16371,32767,65535,131071] (ofL [(0,.W),(1,.W),(2,.W),(3,.W),(4,.W),(7,.W),(5,.L),(8,.L),(6,.X),(9,.X),(10,.W),(11,.X),(12,.W),(13,.W),(14,.M),(15,.W),(16,.W),(17,.M)] .nil) mixed (by kernel_rfl) ?_))
 intro w19 x18
 have sx18:=x18.size
 refine pu 6 rfl ?_
 have h65:=h64.ext x18
 refine RW.lb tk [.slice A11 ((rd vb va).Free).length c_11] h65 2 ?_
 refine RW.lb tk [.slice A12 ((rd vb va).Late).length c_12] h65 3 ?_
 have h66:=((h60.ext x16).tB x17 h62).ext x18
 refine RW.cp H ent57 (fun _ h=>seg_Make.calls h h66.all h66.len) fun y7 w20 x19 sx19 H=>?_
 have h68:=(((h61.ext x16).tB x17 h62).ext x18).ext x19
 refine RW.cp H ent57 (fun _ h=>seg_Make.calls h h68.all h68.len) fun y8 w21 x20 sx20 H=>?_
 refine pu 1 rfl ?_
 have h70:=(((((hG.ext vd).ext x16).tB x17).ext x18).ext x19).ext x20
 obtain ⟨y9,h71,H⟩:=bind_some H
 refine RW.cl ent40 (seg_Set_Segs.calls h71 h70) ?_
 rintro _ w22 ⟨A13,c_13,rfl,x21,h72⟩
 refine ⟨_,rfl,x21,?_⟩
 have sx21:=x21.size
 have h73:Ow kSeg 105 w22.heap (okL [(w21.heap.size,some w22.heap.size,some 105)]) (okL []) A13 c_13 y9:=h72.close
 obtain ⟨g4,H⟩:=guard_some H
 have h74:=(((((h59.ext x16).turnB x17 h62 ⟨.inr (by omega),trivial⟩ ⟨.inl (nq rfl),trivial⟩).ext x18).ext x19).ext x20).ext x21
 obtain ⟨ad4,A14,c_14,A15,c_15,e4,a4,h75,h76⟩:=kDeviceO_ato h74 g4.1 g4.2
 refine RW.ix tk g4 e4 ?_
 refine pu 1 rfl ?_
 refine RW.storeElL (y:=(⟨(rd vb va).ID,(rd vb va).Size,y9,(rd vb va).Late⟩:Device)) (lv:=[(w21.heap.size,some w22.heap.size,some 105)]) (k:=2) tk h74 (j:=va.toNat) (by have:=g4;omega) default [.slice A13 y9.length c_13] (fun cs ok' hr=>by obtain ⟨qa1,qc1,qa2,qc2,rfl,q1,q2⟩:=kDeviceO_open hr;exact ⟨by simp,kDeviceO_mk (⟨(rd vb va).ID,(rd vb va).Size,y9,(rd vb va).Late⟩:Device) (h73.mono (fun _ _ ho=>Or.inr (okL_sub (l:=[(w21.heap.size,some w22.heap.size,some 105)]) (l':=[(w21.heap.size,some w22.heap.size,some 105)]) ⟨(.inl ⟨by omega,by omega,rfl⟩),trivial⟩ ho)) (fun _ _ ho=>Or.inr (okL_sub (l:=[]) (l':=[(w21.heap.size,some w22.heap.size,some 105)]) trivial ho))) (q2.mono (fun _ _ ho=>Or.inl ho) (fun _ _ ho=>Or.inl ho))⟩) ⟨⟨.inl (nq rfl),trivial⟩,trivial⟩ ⟨rfl,rfl,rfl⟩ rfl rfl e4 rfl rfl rfl rfl rfl ?_
 intro w23 x22 h77
 have sx22:=x22.size
 have h78:=h77.close.sub (l':=[(w4.heap.size,some w16.heap.size,some 40)]) (li':=[(w4.heap.size,some w22.heap.size,some 105)]) ⟨(.inl ⟨by omega,by omega,rfl⟩),trivial⟩ ⟨(.inl ⟨by omega,by omega,rfl⟩),⟨(.inl ⟨by omega,by omega,rfl⟩),trivial⟩⟩
 refine RW.tell 0 (v':=.slice A4 (vb.set va.toNat (⟨(rd vb va).ID,(rd vb va).Size,y9,(rd vb va).Late⟩:Device)).length c_4) (by simp only [List.length_set]) rfl (RW.tell 4 (v':=.slice A4 (vb.set va.toNat (⟨(rd vb va).ID,(rd vb va).Size,y9,(rd vb va).Late⟩:Device)).length c_4) (by simp only [List.length_set]) rfl (RW.tell 13 (v':=.slice A4 (vb.set va.toNat (⟨(rd vb va).ID,(rd vb va).Size,y9,(rd vb va).Late⟩:Device)).length c_4) (by simp only [List.length_set]) rfl ?_))
 have h79:=((((((vf.ext x16).tB x17).ext x18).ext x19).ext x20).ext x21).tL x22
 have h80:Box w23.heap b4 78 [.slice A4 (vb.set va.toNat (⟨(rd vb va).ID,(rd vb va).Size,y9,(rd vb va).Late⟩:Device)).length c_4,.slice A5 y2.Tables.length c_5,iv p1,iv 0,iv p1,iv ((rd y2.Devices y3.1).Size),.slice none 0 0,iv y2.Next]:=by simpa only [List.length_set] using h79
 obtain ⟨g5,H⟩:=guard_some H
 obtain ⟨ad5,A16,c_16,A17,c_17,e5,a5,h81,h82⟩:=kDeviceO_ato h78 g5.1 g5.2
 refine RW.ix tk g5 e5 ?_
 refine pu 1 rfl ?_
 refine RW.storeElL (y:=(⟨(rd (vb.set va.toNat (⟨(rd vb va).ID,(rd vb va).Size,y9,(rd vb va).Late⟩:Device)) va).ID,(rd (vb.set va.toNat (⟨(rd vb va).ID,(rd vb va).Size,y9,(rd vb va).Late⟩:Device)) va).Size,(rd (vb.set va.toNat (⟨(rd vb va).ID,(rd vb va).Size,y9,(rd vb va).Late⟩:Device)) va).Free,([]:List Seg)⟩:Device)) (lv:=[]) (k:=3) tk h78 (j:=va.toNat) (by have:=g5;omega) default [.slice none 0 0] (fun cs ok' hr=>by obtain ⟨qa1,qc1,qa2,qc2,rfl,q1,q2⟩:=kDeviceO_open hr;exact ⟨by simp,kDeviceO_mk (⟨(rd (vb.set va.toNat (⟨(rd vb va).ID,(rd vb va).Size,y9,(rd vb va).Late⟩:Device)) va).ID,(rd (vb.set va.toNat (⟨(rd vb va).ID,(rd vb va).Size,y9,(rd vb va).Late⟩:Device)) va).Size,(rd (vb.set va.toNat (⟨(rd vb va).ID,(rd vb va).Size,y9,(rd vb va).Late⟩:Device)) va).Free,([]:List Seg)⟩:Device) (q1.mono (fun _ _ ho=>Or.inl ho) (fun _ _ ho=>Or.inl ho)) Ow.nil⟩) trivial ⟨rfl,rfl,rfl⟩ rfl rfl e5 rfl rfl rfl rfl rfl ?_
 intro w24 x23 h83
 have sx23:=x23.size
 have h84:=h83.sub (l':=[(w4.heap.size,some w16.heap.size,some 40)]) (li':=[(w4.heap.size,some w22.heap.size,some 105)]) ⟨(.inl ⟨by omega,by omega,rfl⟩),trivial⟩ ⟨(.inl ⟨by omega,by omega,rfl⟩),trivial⟩
 refine RW.tell 0 (v':=.slice A4 ((vb.set va.toNat (⟨(rd vb va).ID,(rd vb va).Size,y9,(rd vb va).Late⟩:Device)).set va.toNat (⟨(rd (vb.set va.toNat (⟨(rd vb va).ID,(rd vb va).Size,y9,(rd vb va).Late⟩:Device)) va).ID,(rd (vb.set va.toNat (⟨(rd vb va).ID,(rd vb va).Size,y9,(rd vb va).Late⟩:Device)) va).Size,(rd (vb.set va.toNat (⟨(rd vb va).ID,(rd vb va).Size,y9,(rd vb va).Late⟩:Device)) va).Free,([]:List Seg)⟩:Device)).length c_4) (by simp only [List.length_set]) rfl (RW.tell 4 (v':=.slice A4 ((vb.set va.toNat (⟨(rd vb va).ID,(rd vb va).Size,y9,(rd vb va).Late⟩:Device)).set va.toNat (⟨(rd (vb.set va.toNat (⟨(rd vb va).ID,(rd vb va).Size,y9,(rd vb va).Late⟩:Device)) va).ID,(rd (vb.set va.toNat (⟨(rd vb va).ID,(rd vb va).Size,y9,(rd vb va).Late⟩:Device)) va).Size,(rd (vb.set va.toNat (⟨(rd vb va).ID,(rd vb va).Size,y9,(rd vb va).Late⟩:Device)) va).Free,([]:List Seg)⟩:Device)).length c_4) (by simp only [List.length_set]) rfl ?_)
 have h85:=h80.tL x23
 have h86:Box w24.heap b4 78 [.slice A4 ((vb.set va.toNat (⟨(rd vb va).ID,(rd vb va).Size,y9,(rd vb va).Late⟩:Device)).set va.toNat (⟨(rd (vb.set va.toNat (⟨(rd vb va).ID,(rd vb va).Size,y9,(rd vb va).Late⟩:Device)) va).ID,(rd (vb.set va.toNat (⟨(rd vb va).ID,(rd vb va).Size,y9,(rd vb va).Late⟩:Device)) va).Size,(rd (vb.set va.toNat (⟨(rd vb va).ID,(rd vb va).Size,y9,(rd vb va).Late⟩:Device)) va).Free,([]:List Seg)⟩:Device)).length c_4,.slice A5 y2.Tables.length c_5,iv p1,iv 0,iv p1,iv ((rd y2.Devices y3.1).Size),.slice none 0 0,iv y2.Next]:=by simpa only [List.length_set] using h85
 refine RW.done ?_
 refine NW.norm_block (NW.next ?_)
 refine CW.lw 2 rfl (pu 2 rfl (RW.done ?_))
 have h87:=(((((((ve.ext x16).tB x17 h62).ext x18).ext x19).ext x20).ext x21).tL x22).tL x23
 have h88:=Ext.turn (Ext.turn ((((((vd.tr x16).tB x17).tr x18).tr x19).tr x20).tr x21) x22 ⟨by omega,trivial⟩) x23 ⟨by omega,trivial⟩
 have h89:=(((((((vc.ext x16).tB x17).ext x18).ext x19).ext x20).ext x21).tL x22).tL x23
 exact NW.J fun a ha=>⟨n1,Nat.lt_succ_self n1,((vb.set va.toNat (⟨(rd vb va).ID,(rd vb va).Size,y9,(rd vb va).Late⟩:Device)).set va.toNat (⟨(rd (vb.set va.toNat (⟨(rd vb va).ID,(rd vb va).Size,y9,(rd vb va).Late⟩:Device)) va).ID,(rd (vb.set va.toNat (⟨(rd vb va).ID,(rd vb va).Size,y9,(rd vb va).Late⟩:Device)) va).Size,(rd (vb.set va.toNat (⟨(rd vb va).ID,(rd vb va).Size,y9,(rd vb va).Late⟩:Device)) va).Free,([]:List Seg)⟩:Device)),(w64 (va+1)),ha.sb,by omega,(h84.sb),h87,h88,(by (try simp only [List.length_set]) <;>omega),h89,h86,H⟩
 refine CW.exit ?_
 refine NW.exit_then (NW.exit_then (NW.exit_hit ?_))
 refine NW.end_ ?_
 refine NW.ret0 rfl ⟨_,rfl,?_⟩
 refine RW.done (NW.next (CW.seq (CW.lex [.W,.W,.W,.L,.M,.W] rfl (pu 3 rfl (RW.lw tk vf ?_)))))
 refine RW.sf tk vc fun w25 x24 sx24 h91=>?_
 refine pu 1 rfl (RW.done (NW.next (CW.ret ?_)))
 have h92:=h59.tB x24 vc
 have h93:=ve.tB x24 vc
 obtain rfl:=Option.some.inj H
 have h94:=vd.tB x24
 exact NW.ret2 rfl (resOne_cell tk (h91.at 0) rfl rfl rfl) (by rfl) ⟨A4,c_4,A5,c_5,none,0,rfl,h94,(h92.sub (l':=[(w.heap.size,none,some 40)]) (li':=[(w.heap.size,none,some 105)]) ⟨(.inl ⟨by omega,trivial,rfl⟩),trivial⟩ ⟨(.inl ⟨by omega,trivial,rfl⟩),trivial⟩),(h93.sub (l':=[(w.heap.size,none,some 26)]) (li':=[(w.heap.size,none,some 66)]) ⟨(.inl ⟨by omega,trivial,rfl⟩),trivial⟩ ⟨(.inl ⟨by omega,trivial,rfl⟩),trivial⟩),Ow.nil⟩
 refine CW.seq (CW.lex [.W,.M,.W] rfl (pu 1 rfl (RW.sf tk j4 fun w26 x25 sx25 h97=>?_)))
 refine pu 1 rfl (RW.done (NW.next (CW.ret ?_)))
 refine NW.ret_block (NW.ret_then ?_)
 obtain rfl:=Option.some.inj H
 have h98:=j5.tB x25
 exact NW.ret2 rfl (resOne_cell tk (h97.at 0) rfl rfl rfl) (by rfl) ⟨none,0,none,0,none,0,rfl,h98,Ow.nil,Ow.nil,Ow.nil⟩
 refine CW.seq (CW.lex [.W,.M,.W] rfl (pu 1 rfl (RW.sf tk j4 fun w27 x26 sx26 h101=>?_)))
 refine pu 1 rfl (RW.done (NW.next (CW.ret ?_)))
 refine NW.ret_block (NW.ret_then ?_)
 obtain rfl:=Option.some.inj H
 have h102:=j5.tB x26
 exact NW.ret2 rfl (resOne_cell tk (h101.at 0) rfl rfl rfl) (by rfl) ⟨none,0,none,0,none,0,rfl,h102,Ow.nil,Ow.nil,Ow.nil⟩
 refine CW.seq (CW.lw 2 rfl (pu 2 rfl (RW.done (NW.next (CW.ret (NW.ret_then ?_))))))
 refine NW.ret2 rfl (by rfl) (by rfl) ⟨_,rfl,j1,?_⟩
 refine pu 5 rfl (RW.done (NW.next (CW.seq (CW.seq (CW.lw 2 rfl (pu 2 rfl (RW.done ?_)))))))
 refine NW.next (CW.cond_t rfl rfl (CW.seq (CW.lex [.W,.M,.W] rfl (pu 1 rfl (RW.sf tk j2 fun w28 x27 sx27 h106=>?_)))))
 refine pu 1 rfl (RW.done (NW.next (CW.ret (NW.ret_then ?_))))
 obtain rfl:=Option.some.inj H
 have h107:=j3.tB x27
 exact NW.ret2 rfl (resOne_cell tk (h106.at 0) rfl rfl rfl) (by rfl) ⟨none,0,none,0,none,0,rfl,h107,Ow.nil,Ow.nil,Ow.nil⟩
theorem l10_num.calls {p0:Int} {r:Int} {w:World} (H:l10_num.f p0=some r):
 Calls Tryz.prog 12 #[iv p0] w fun e w'=>e=.returned (iv r)∧Ext w w':=by
 have x0:Ext w w:=Upd.refl _ w
 unfold l10_num.f at H
 refine cst Tryz.func12 4 ?_
 refine CW.seq (CW.lw 1 rfl (pu 1 rfl (RW.done (NW.next (CW.seq (CW.lw 2 rfl (pu 2 rfl ?_)))))))
 refine RW.done (NW.next (CW.ret ?_))
 obtain rfl:=Option.some.inj H
 exact NW.r1 ⟨rfl,x0⟩
theorem seg_One.calls {p0:Int} {r:Int} {w:World} (H:seg_One.f p0=some r):
 Calls Tryz.prog 37 #[iv p0] w fun e w'=>e=.returned (.int .u64 r)∧Ext w w':=by
 have x0:Ext w w:=Upd.refl _ w
 unfold seg_One.f at H
 refine cst Tryz.func37 5 ?_
 refine CW.seq (CW.lw 1 rfl (pu 1 rfl (RW.done (NW.next (CW.seq (CW.lw 3 rfl (pu 1 rfl ?_)))))))
 obtain ⟨g1,H⟩:=guard_some H
 refine RW.shift g1 ⟨rfl,rfl,rfl,rfl⟩ rfl rfl rfl rfl (pu 1 rfl (RW.done (NW.next (CW.ret ?_))))
 obtain rfl:=Option.some.inj H
 exact NW.r1 ⟨rfl,x0⟩
theorem seg_Set_Has.calls {p0:Int} {p1:Int} {r:Bool} {w:World} (H:seg_Set_Has.f p0 p1=some r):
 Calls Tryz.prog 63 #[.int .u64 p0,iv p1] w fun e w'=>e=.returned (.bool r)∧Ext w w':=by
 have x0:Ext w w:=Upd.refl _ w
 unfold seg_Set_Has.f at H
 refine cst Tryz.func63 18 ?_
 refine CW.seq (CW.lw 1 rfl (pu 1 rfl (RW.done (NW.next (CW.seq (CW.lex [.W,.W,.W,.W,.W,.W,.W,.W,.W,.X,.W,.W,.W,.W] rfl (pu 3 rfl ?_)))))))
 refine RW.i 7 H (fun c1 H=>?_) fun c1 H=>?_
 refine pu 4 rfl (RW.i 11 H (fun c2 H=>?_) fun c2 H=>?_)
 refine pu 2 rfl (RW.cp H ent37 (fun _ h=>seg_One.calls h) fun y1 w1 x1 sx1 H=>?_)
 refine pu 4 rfl (RW.done (NW.next (CW.ret ?_)))
 obtain rfl:=Option.some.inj H
 have h2:=x0.tr x1
 exact NW.r1 ⟨rfl,h2⟩
 refine pu 7 rfl (RW.done (NW.next (CW.ret ?_)))
 obtain rfl:=Option.some.inj H
 exact NW.r1 ⟨rfl,x0⟩
 refine pu 11 rfl (RW.done (NW.next (CW.ret ?_)))
 obtain rfl:=Option.some.inj H
 exact NW.r1 ⟨rfl,x0⟩
theorem room_Free.calls {k:Nat} {A1:Option Addr} {c_1:Nat} {p0:List Device} {p1:Int} {r:Int} {w:World} (H:room_Free.f k p0 p1=some r) (hs1:Sl kDeviceR w.heap okAll A1 p0) (hl1:p0.length≤c_1):
 Calls Tryz.prog 95 #[.slice A1 p0.length c_1,iv p1] w fun e w'=>e=.returned (iv r)∧Ext w w':=by
 have h1:Sl kDeviceR w.heap (okL [(0,some w.heap.size,none)]) A1 p0:=hs1.old _ rfl
 have x0:Ext w w:=Upd.refl _ w
 unfold room_Free.f at H
 refine cst Tryz.func95 26 ?_
 refine CW.seq (CW.lw 1 rfl (pu 1 rfl (RW.done (NW.next (CW.seq (CW.lw 1 rfl (pu 1 rfl ?_)))))))
 refine RW.done (NW.next (CW.seq (CW.seq (CW.lw 3 rfl (pu 3 rfl (RW.done (NW.next ?_)))))))
 refine CW.block ?_
 refine CW.loop (fun n1 a w1=>∃(vb:Int) (va:Int),Sat 26 [(1,iv p1),(5,iv vb),(8,.slice A1 p0.length c_1),(9,iv (p0.length:Int)),(10,iv va)] a∧w.heap.size≤w1.heap.size∧Ext w w1∧room_Free.l0 p0 p1 k n1 vb va=some r) k ?_ ?_
 exact fun a ha=>⟨0,0,ha.sb,by omega,x0,H⟩
 rintro n1 a w1 ⟨vb,va,hS,hle,vd,H⟩ hp
 obtain _|n1:=n1
 cases H
 rw [room_Free.l0] at H
 refine CW.go hp hS (CW.seq (CW.lw 1 rfl (pu 1 rfl (RW.done (NW.next (CW.seq (CW.i H (fun c1 H=>?_) fun c1 H=>?_)))))))
 refine CW.skip (NW.next ?_)
 refine CW.seqJ (fun a w2=>∃(vc:Int),Sat 26 [(1,iv p1),(5,iv vc),(8,.slice A1 p0.length c_1),(9,iv (p0.length:Int)),(10,iv va)] a∧w1.heap.size≤w2.heap.size∧Ext w w2∧room_Free.j0 va (room_Free.l0 p0 p1 k n1) vc=some r) ?_ ?_
 refine CW.block (CW.seq (CW.lex [.W,.L,.X,.M] rfl ?_))
 obtain ⟨g1,H⟩:=guard_some H
 obtain ⟨ad1,A2,c_2,A3,c_3,e1,a1,l1,h2,l2,h3⟩:=kDeviceR_at (h1.ext vd) g1.1 g1.2
 refine RW.ix tk g1 e1 ?_
 refine RW.ld tk _ a1 ?_
 refine RW.al tk fun b1 w3 x1 sx1 l3 ltb1 h4=>?_
 refine RW.sf tk h4 fun w4 x2 sx2 h6=>?_
 refine RW.done (NW.next (CW.seq (CW.lex [.W,.L,.W,.W] rfl (pu 1 rfl (RW.lb tk [iv ((rd p0 va).ID)] h6 0 ?_)))))
 refine pu 2 rfl (RW.done (NW.next ?_))
 have j1:=(vd.tr x1).tB x2
 refine CW.n H (fun c2 H=>?_) fun c2 H=>?_
 refine CW.skip (NW.norm_block ?_)
 exact NW.J fun a ha=>⟨vb,ha.sb,by omega,j1,H⟩
 refine CW.lex [.W,.W,.L,.X,.X,.W,.W] rfl (pu 2 rfl (RW.lb tk [.slice A2 ((rd p0 va).Free).length c_2] h6 2 ?_))
 have h8:=(h2.ext x1).turnB x2 h4 ⟨.inr (by omega),trivial⟩
 refine RW.cp H ent57 (fun _ h=>seg_Make.calls h h8.all l1) fun y1 w5 x3 sx3 H=>?_
 refine RW.cp H ent34 (fun _ h=>seg_Set_Count.calls h) fun y2 w6 x4 sx4 H=>?_
 refine pu 2 rfl (RW.done (NW.norm_block ?_))
 have h11:=(j1.tr x3).tr x4
 exact NW.J fun a ha=>⟨(w64 (vb+y2)),ha.sb,by omega,h11,H⟩
 rintro a w2 ⟨vc,hS,hle,ve,H⟩ hp
 unfold room_Free.j0 at H
 refine CW.go hp hS (CW.lw 2 rfl (pu 2 rfl (RW.done ?_)))
 exact NW.J fun a ha=>⟨n1,Nat.lt_succ_self n1,vc,(w64 (va+1)),ha.sb,by omega,ve,H⟩
 refine CW.exit ?_
 refine NW.exit_then (NW.exit_then (NW.exit_hit ?_))
 refine NW.next (CW.seq (CW.lw 2 rfl (pu 2 rfl (RW.done (NW.next (CW.ret ?_))))))
 obtain rfl:=Option.some.inj H
 exact NW.r1 ⟨rfl,vd⟩
theorem room_emptiest.calls {k:Nat} {A1:Option Addr} {c_1:Nat} {p0:List Device} {p1:Int} {r:Int} {w:World} (H:room_emptiest.f k p0 p1=some r) (hs1:Sl kDeviceR w.heap okAll A1 p0) (hl1:p0.length≤c_1):
 Calls Tryz.prog 128 #[.slice A1 p0.length c_1,iv p1] w fun e w'=>e=.returned (iv r)∧Ext w w':=by
 have h1:Sl kDeviceR w.heap (okL [(0,some w.heap.size,none)]) A1 p0:=hs1.old _ rfl
 have x0:Ext w w:=Upd.refl _ w
 unfold room_emptiest.f at H
 refine cst Tryz.func128 34 ?_
 refine CW.seq (CW.lw 1 rfl (pu 1 rfl (RW.done (NW.next (CW.seq (CW.lw 2 rfl (pu 2 rfl ?_)))))))
 refine RW.done (NW.next (CW.seq (CW.seq (CW.lw 3 rfl (pu 3 rfl (RW.done (NW.next ?_)))))))
 refine CW.block ?_
 refine CW.loop (fun n1 a w1=>∃(vc:Int) (vb:Int) (va:Int),Sat 34 [(1,iv p1),(5,iv vc),(6,iv vb),(10,.slice A1 p0.length c_1),(11,iv (p0.length:Int)),(12,iv va)] a∧w.heap.size≤w1.heap.size∧Ext w w1∧room_emptiest.l0 p0 p1 k n1 vc vb va=some r) k ?_ ?_
 exact fun a ha=>⟨(-1),0,0,ha.sb,by omega,x0,H⟩
 rintro n1 a w1 ⟨vc,vb,va,hS,hle,vf,H⟩ hp
 obtain _|n1:=n1
 cases H
 rw [room_emptiest.l0] at H
 refine CW.go hp hS (CW.seq (CW.lw 1 rfl (pu 1 rfl (RW.done (NW.next (CW.seq (CW.i H (fun c1 H=>?_) fun c1 H=>?_)))))))
 refine CW.skip (NW.next ?_)
 refine CW.seqJ (fun a w2=>∃(vd:Int) (ve:Int),Sat 34 [(1,iv p1),(5,iv vd),(6,iv ve),(10,.slice A1 p0.length c_1),(11,iv (p0.length:Int)),(12,iv va)] a∧w1.heap.size≤w2.heap.size∧Ext w w2∧room_emptiest.j0 va (room_emptiest.l0 p0 p1 k n1) vd ve=some r) ?_ ?_
 refine CW.block (CW.seq (CW.lex [.W,.W,.L,.X,.W,.M] rfl (pu 1 rfl ?_)))
 obtain ⟨g1,H⟩:=guard_some H
 obtain ⟨ad1,A2,c_2,A3,c_3,e1,a1,l1,h2,l2,h3⟩:=kDeviceR_at (h1.ext vf) g1.1 g1.2
 refine RW.ix tk g1 e1 ?_
 refine RW.ld tk _ a1 ?_
 refine RW.al tk fun b1 w3 x1 sx1 l3 ltb1 h4=>?_
 refine pu 1 rfl (RW.sf tk h4 fun w4 x2 sx2 h6=>?_)
 refine RW.done (NW.next (CW.seq (CW.lex [.W,.L,.X,.X,.W] rfl (pu 1 rfl (RW.lb tk [.slice A2 ((rd p0 va).Free).length c_2] h6 2 ?_)))))
 have h7:=(h2.ext x1).turnB x2 h4 ⟨.inr (by omega),trivial⟩
 refine RW.cp H ent57 (fun _ h=>seg_Make.calls h h7.all l1) fun y1 w5 x3 sx3 H=>?_
 refine RW.cp H ent34 (fun _ h=>seg_Set_Count.calls h) fun y2 w6 x4 sx4 H=>?_
 refine pu 1 rfl (RW.done (NW.next ?_))
 refine CW.seqJ (fun a w7=>∃(vg:Bool),Sat 34 [(1,iv p1),(5,iv vc),(6,iv vb),(7,iv va),(9,iv y2),(10,.slice A1 p0.length c_1),(11,iv (p0.length:Int)),(12,iv va),(29,.bool vg)] a∧w6.heap.size≤w7.heap.size∧Ext w w7∧room_emptiest.j1 vc vb va y2 (room_emptiest.l0 p0 p1 k n1) vg=some r) ?_ ?_
 refine CW.lex [.W,.L,.W,.W,.W,.W,.W,.W,.W] rfl (pu 1 rfl ?_)
 have h10:=(h6.ext x3).ext x4
 refine RW.lb tk [iv ((rd p0 va).ID)] h10 0 ?_
 refine pu 3 rfl ?_
 have j1:=(((vf.tr x1).tB x2).tr x3).tr x4
 refine RW.n 25 H (fun c2 H=>?_) fun c2 H=>?_
 refine pu 4 rfl (RW.done ?_)
 exact NW.J fun a ha=>⟨false,ha.sb,by omega,j1,H⟩
 refine pu 4 rfl (RW.done ?_)
 exact NW.J fun a ha=>⟨(decide (vb<y2)),ha.sb,by omega,j1,H⟩
 rintro a w7 ⟨vg,hS,hle,vh,H⟩ hp
 unfold room_emptiest.j1 at H
 refine CW.go hp hS (CW.i H (fun c3 H=>?_) fun c3 H=>?_)
 refine CW.lw 4 rfl (pu 4 rfl (RW.done (NW.norm_block ?_)))
 exact NW.J fun a ha=>⟨va,y2,ha.sb,by omega,vh,H⟩
 refine CW.skip (NW.norm_block ?_)
 exact NW.J fun a ha=>⟨vc,vb,ha.sb,by omega,vh,H⟩
 rintro a w2 ⟨vd,ve,hS,hle,vi,H⟩ hp
 unfold room_emptiest.j0 at H
 refine CW.go hp hS (CW.lw 2 rfl (pu 2 rfl (RW.done ?_)))
 exact NW.J fun a ha=>⟨n1,Nat.lt_succ_self n1,vd,ve,(w64 (va+1)),ha.sb,by omega,vi,H⟩
 refine CW.exit ?_
 refine NW.exit_then (NW.exit_then (NW.exit_hit ?_))
 refine NW.next (CW.seq (CW.lw 2 rfl (pu 2 rfl (RW.done (NW.next (CW.ret ?_))))))
 obtain rfl:=Option.some.inj H
 exact NW.r1 ⟨rfl,vf⟩
theorem chain_Find_1.calls {p0:Table} {A1:Option Addr} {c_1:Nat} {p1:Int} {r:Int} {w:World} (H:chain_Find_1.f p0 p1=some r) (hs1:Sl kEntry w.heap okAll A1 p0.List_) (hl1:p0.List_.length≤c_1):
 Calls Tryz.prog 88 #[.agg #[iv p0.Dev,iv p0.Size,.slice A1 p0.List_.length c_1],iv p1] w fun e w'=>e=.returned (iv r)∧Ext w w':=by
 have h1:Sl kEntry w.heap (okL [(0,some w.heap.size,none)]) A1 p0.List_:=hs1.old _ rfl
 have x0:Ext w w:=Upd.refl _ w
 unfold chain_Find_1.f at H
 refine cst Tryz.func88 9 ?_
 refine CW.seq (CW.lex [.X,.W] rfl (RW.bx fun b1 w1 x1 sx1 l1 ltb1 h2=>?_))
 refine pu 1 rfl (RW.done (NW.next (CW.seq (CW.lex [.W,.L,.W,.W,.W] rfl (pu 1 rfl (RW.lb tk [iv p0.Dev] h2 0 ?_))))))
 refine pu 3 rfl (RW.done (NW.next (CW.ret ?_)))
 obtain rfl:=Option.some.inj H
 have h3:=x0.tr x1
 exact NW.r1 ⟨rfl,h3⟩
theorem chain_Find.calls {k:Nat} {p0:Pool} {A1:Option Addr} {c_1:Nat} {A2:Option Addr} {c_2:Nat} {A3:Option Addr} {c_3:Nat} {p1:Int} {r:Int×Bool} {w:World} (H:chain_Find.f k p0 p1=some r) (hs1:Sl kDeviceR w.heap okAll A1 p0.Devices) (hl1:p0.Devices.length≤c_1) (hs2:Sl kTableR w.heap okAll A2 p0.Tables) (hl2:p0.Tables.length≤c_2) (hs3:Sl kEntry w.heap okAll A3 p0.Job.Table.List_) (hl3:p0.Job.Table.List_.length≤c_3):
 Calls Tryz.prog 60 #[.agg #[.slice A1 p0.Devices.length c_1,.slice A2 p0.Tables.length c_2,iv p0.Job.Dev,iv p0.Job.At,iv p0.Job.Table.Dev,iv p0.Job.Table.Size,.slice A3 p0.Job.Table.List_.length c_3,iv p0.Next],iv p1] w fun e w'=>e=.returned (.tuple #[iv r.1,.bool r.2])∧Ext w w':=by
 have h1:Sl kDeviceR w.heap (okL [(0,some w.heap.size,none)]) A1 p0.Devices:=hs1.old _ rfl
 have h2:Sl kTableR w.heap (okL [(0,some w.heap.size,none)]) A2 p0.Tables:=hs2.old _ rfl
 have h3:Sl kEntry w.heap (okL [(0,some w.heap.size,none)]) A3 p0.Job.Table.List_:=hs3.old _ rfl
 have x0:Ext w w:=Upd.refl _ w
 unfold chain_Find.f at H
 refine cst Tryz.func60 12 ?_
 refine CW.seq (CW.lex [.X,.W,.W] rfl (RW.bx fun b1 w1 x1 sx1 l1 ltb1 h4=>?_))
 refine pu 2 rfl (RW.done (NW.next (CW.seq (CW.lex [.W,.L,.W,.X,.W,.W,.W,.W] rfl (pu 1 rfl (RW.lb tk [.slice A2 p0.Tables.length c_2] h4 1 ?_))))))
 refine pu 1 rfl ?_
 have xc1:Ext w1 w1:=Upd.refl _ _
 refine RW.callV (R:=fun e w2=>∃(vd:Int) (ve:Bool),e=.returned (.tuple #[iv vd,.bool ve])∧w1.heap.size≤w2.heap.size∧Ext w w2∧Ext w1 w2∧chain_Find.j0 vd ve=some r) (.inl rfl) ent87 ⟨rfl,rfl,rfl,rfl⟩ rfl rfl rfl ?_ ?_
 refine cst Tryz.func87 49 ?_
 refine CW.seq (CW.lw 2 rfl (pu 2 rfl (RW.done (NW.next (CW.seq (CW.lw 3 rfl (pu 3 rfl ?_)))))))
 refine RW.done (NW.next (CW.seq (CW.lw 3 rfl (pu 3 rfl (RW.done (NW.next (CW.seq ?_)))))))
 refine CW.block ?_
 refine CW.loop (fun n1 a w3=>∃(va:Int) (vb:Int),Sat 49 [(0,.slice A2 p0.Tables.length c_2),(1,iv p1),(2,.func (.func 88) #[] #[]),(8,iv (p0.Tables.length:Int)),(9,iv va),(10,iv vb)] a∧w1.heap.size≤w3.heap.size∧Ext w w3∧Ext w1 w3∧chain_Find.l0 p0 p1 n1 va vb=some r) k ?_ ?_
 have h5:=x0.tr x1
 exact fun a ha=>⟨0,(p0.Tables.length:Int),ha.sb,by omega,h5,xc1,H⟩
 rintro n1 a w3 ⟨va,vb,hS,hle,vc,vf,H⟩ hp
 obtain _|n1:=n1
 cases H
 rw [chain_Find.l0] at H
 refine CW.go hp hS (CW.seq (CW.seq (CW.lw 3 rfl (pu 3 rfl (RW.done (NW.next (CW.i H (fun c1 H=>?_) fun c1 H=>?_)))))))
 refine CW.skip (NW.next (CW.block (CW.seq (CW.lw 7 rfl (pu 4 rfl (RW.shift (by omega) ⟨rfl,rfl,rfl,rfl⟩ rfl rfl rfl rfl (pu 2 rfl ?_)))))))
 refine RW.done (NW.next (CW.seq (CW.lex [.W,.W,.W,.W,.L,.W,.M,.W] rfl (pu 3 rfl ?_))))
 obtain ⟨g1,H⟩:=guard_some H
 obtain ⟨ad1,A4,c_4,e1,a1,l2,h6⟩:=kTableR_at (h2.ext vc) g1.1 g1.2
 refine RW.ix tk g1 e1 ?_
 refine RW.ld tk _ a1 ?_
 refine pu 1 rfl ?_
 obtain ⟨y1,h7,H⟩:=bind_some H
 refine RW.callV (cap:=[]) (.inr rfl) ent88 ⟨rfl,rfl,rfl,rfl⟩ rfl rfl rfl (chain_Find_1.calls h7 h6.all l2) ?_
 rintro _ w4 ⟨rfl,x2⟩
 refine ⟨_,rfl,x2,?_⟩
 have sx2:=x2.size
 refine pu 1 rfl (RW.done (NW.next ?_))
 have j1:=vc.tr x2
 have j2:=vf.tr x2
 refine CW.i H (fun c2 H=>?_) fun c2 H=>?_
 refine CW.lw 3 rfl (pu 3 rfl (RW.done (NW.norm_block ?_)))
 exact NW.J fun a ha=>⟨n1,Nat.lt_succ_self n1,(w64 ((w64 ((wu64 (w64 (va+vb))).fdiv (2^min (1:Int).toNat 64)))+1)),vb,ha.sb,by omega,j1,j2,H⟩
 refine CW.lw 2 rfl (pu 2 rfl (RW.done (NW.norm_block ?_)))
 exact NW.J fun a ha=>⟨n1,Nat.lt_succ_self n1,va,(w64 ((wu64 (w64 (va+vb))).fdiv (2^min (1:Int).toNat 64))),ha.sb,by omega,j1,j2,H⟩
 refine CW.exit ?_
 refine NW.exit_then (NW.exit_then (NW.exit_hit ?_))
 refine NW.next (CW.seq (CW.lex [.W,.W,.W,.W,.W,.W,.W,.W,.W,.L,.W,.M,.W,.W,.W,.W] rfl (pu 5 rfl (RW.i 39 H (fun c3 H=>?_) fun c3 H=>?_))))
 refine pu 3 rfl ?_
 obtain ⟨g2,H⟩:=guard_some H
 obtain ⟨ad2,A5,c_5,e2,a2,l3,h12⟩:=kTableR_at (h2.ext vc) g2.1 g2.2
 refine RW.ix tk g2 e2 ?_
 refine RW.ld tk _ a2 ?_
 refine pu 1 rfl ?_
 obtain ⟨y2,h13,H⟩:=bind_some H
 refine RW.callV (cap:=[]) (.inr rfl) ent88 ⟨rfl,rfl,rfl,rfl⟩ rfl rfl rfl (chain_Find_1.calls h13 h12.all l3) ?_
 rintro _ w5 ⟨rfl,x3⟩
 refine ⟨_,rfl,x3,?_⟩
 have sx3:=x3.size
 refine pu 4 rfl (RW.done (NW.next (CW.ret ?_)))
 have h14:=vc.tr x3
 have h15:=vf.tr x3
 exact NW.ret2 rfl (by rfl) (by rfl) ⟨va,(y2==0),rfl,by omega,h14,h15,H⟩
 refine pu 11 rfl (RW.done (NW.next (CW.ret ?_)))
 exact NW.ret2 rfl (by rfl) (by rfl) ⟨va,false,rfl,by omega,vc,vf,H⟩
 rintro _ w2 ⟨vd,ve,rfl,hle,vg,vh,H⟩
 refine ⟨_,rfl,vh,?_⟩
 unfold chain_Find.j0 at H
 refine pu 4 rfl (RW.done (NW.next (CW.ret ?_)))
 obtain rfl:=Option.some.inj H
 exact NW.ret2 rfl (by rfl) (by rfl) ⟨rfl,vg⟩
end Go.Proofs.YtnaajldlloglkaaGreatDoor.W
