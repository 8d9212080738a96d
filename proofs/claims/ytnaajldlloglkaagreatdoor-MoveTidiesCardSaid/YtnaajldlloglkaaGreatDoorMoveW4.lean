/- Walks; printed by a program of the claim. -/
import Derived.Test.YtnaajldlloglkaaGreatDoorMoveW3
set_option linter.unusedVariables false
set_option linter.unusedSimpArgs false
set_option maxHeartbeats 20000000
set_option maxRecDepth 100000
namespace Go.Proofs.YtnaajldlloglkaaGreatDoor.W
open Go.H Go.Proofs
theorem r0_CopyTables.calls {k:Nat} {A1:Option Addr} {c_1:Nat} {p0:List Table} {r:(List Table)} {w:World} (H:r0_CopyTables.f k p0=some r) (hs1:Sl kTableR w.heap okAll A1 p0) (hl1:p0.length≤c_1):
 Calls Tryz.prog 68 #[.slice A1 p0.length c_1] w fun e w'=>∃(B1:Option Addr) (d1:Nat),e=.returned (.slice B1 r.length d1)∧Ext w w'∧Ow kTableO 26 w'.heap (okL [(w.heap.size,none,some 26)]) (okL [(w.heap.size,none,some 66)]) B1 d1 r:=by
 have h1:Sl kTableR w.heap (okL [(0,some w.heap.size,none)]) A1 p0:=hs1.old _ rfl
 have x0:Ext w w:=Upd.refl _ w
 unfold r0_CopyTables.f at H
 refine cst Tryz.func68 20 ?_
 refine CW.seq (CW.lw 1 rfl (pu 1 rfl (RW.done (NW.next (CW.seq (CW.lw 1 rfl (pu 1 rfl ?_)))))))
 refine RW.done (NW.next (CW.seq (CW.seq (CW.lw 1 rfl (pu 1 rfl (RW.done (NW.next ?_)))))))
 refine CW.block ?_
 refine CW.loop (fun n1 a w1=>∃(va:List Table) (vb:Option Addr) (vc:Nat) (vd:Int),Sat 20 [(0,.slice A1 p0.length c_1),(3,.slice vb va.length vc),(4,iv vd)] a∧w.heap.size≤w1.heap.size∧Ow kTableO 26 w1.heap (okL [(w.heap.size,none,some 26)]) (okL [(w.heap.size,none,some 66)]) vb vc va∧Ext w w1∧r0_CopyTables.l0 p0 k n1 va vd=some r) k ?_ ?_
 exact fun a ha=>⟨([]:List Table),none,0,0,ha.sb,by omega,Ow.nil,x0,H⟩
 rintro n1 a w1 ⟨va,vb,vc,vd,hS,hle,vf,ve,H⟩ hp
 obtain _|n1:=n1
 cases H
 rw [r0_CopyTables.l0] at H
 refine CW.go hp hS ?_
 have h2:Ow kTableO 26 w1.heap (okL [(w.heap.size,some w1.heap.size,some 26)]) (okL [(w.heap.size,some w1.heap.size,some 66)]) vb vc va:=vf.close
 have xt1:Ext w1 w1:=Upd.refl _ _
 refine CW.seq (CW.seq (CW.lw 4 rfl (pu 4 rfl (RW.done (NW.next (CW.i H (fun c1 H=>?_) fun c1 H=>?_))))))
 refine CW.skip (NW.next (CW.seq (CW.block (CW.lex [.W,.W,.W,.W,.L,.X,.X,.M,.W] rfl (pu 3 rfl ?_)))))
 obtain ⟨g1,H⟩:=guard_some H
 obtain ⟨ad1,A2,c_2,e1,a1,l1,h3⟩:=kTableR_at (h1.ext ve) g1.1 g1.2
 refine RW.ix tk g1 e1 ?_
 refine RW.ld tk _ a1 ?_
 obtain ⟨y1,h4,H⟩:=bind_some H
 refine RW.cl ent69 (r0_CopyTable.calls h4 h3.all l1) ?_
 rintro _ w2 ⟨A3,c_3,rfl,x1,h5⟩
 refine ⟨_,rfl,x1,?_⟩
 have sx1:=x1.size
 have h6:Ow kEntry 66 w2.heap (okL [(w1.heap.size,some w2.heap.size,some 66)]) (okL []) A3 c_3 y1.List_:=h5.close
 refine RW.buildSlice (cs:=[iv y1.Dev,iv y1.Size,.slice A3 y1.List_.length c_3]) tk (.inl rfl) ⟨rfl,rfl,rfl,rfl⟩ rfl rfl rfl rfl rfl rfl rfl ?_
 intro b1 w3 x2 l2 h7
 have sx2:=x2.size
 have ltb1:=h7.lt
 have h8:=(h2.ext x1).ext x2
 have h9:=h6.ext x2
 obtain ⟨g2,H⟩:=guard_some H
 refine RW.append1L (d:=kTableO) (v:=y1) (l:=[(w.heap.size,some w1.heap.size,some 26)]) (li:=[(w.heap.size,some w1.heap.size,some 66)]) (ly:=[(w1.heap.size,some w2.heap.size,some 66)]) (xs:=va) tk h8 h7 (kTableO_mk y1 (h9.sub (l':=[(w1.heap.size,some w2.heap.size,some 66)]) (li':=[(w1.heap.size,some w2.heap.size,some 66)]) ⟨(.inl ⟨by omega,by omega,rfl⟩),trivial⟩ trivial)) ⟨⟨.inl (nq rfl),trivial⟩,trivial⟩ (by simp only [maxLen];omega) g2 ⟨rfl,rfl,rfl,rfl⟩ rfl rfl rfl rfl rfl rfl rfl ?_
 intro A4 c_4 w4 x3 h10
 have sx3:=x3.size
 have h11:=h10.close.sub (l':=[(w.heap.size,some w4.heap.size,some 26)]) (li':=[(w.heap.size,some w2.heap.size,some 66)]) ⟨(.inl ⟨by omega,by omega,rfl⟩),⟨(.inl ⟨by omega,by omega,rfl⟩),trivial⟩⟩ ⟨(.inl ⟨by omega,by omega,rfl⟩),⟨(.inl ⟨by omega,by omega,rfl⟩),trivial⟩⟩
 refine pu 1 rfl (RW.done ?_)
 refine NW.norm_block (NW.next ?_)
 refine CW.lw 3 rfl (pu 3 rfl (RW.done ?_))
 have h12:=Ext.turn ((ve.tr x1).tr x2) x3 ⟨by omega,trivial⟩
 exact NW.J fun a ha=>⟨n1,Nat.lt_succ_self n1,(va++[y1]),A4,c_4,(w64 (vd+1)),ha.sb,by omega,(h11.sb),h12,H⟩
 refine CW.exit ?_
 refine NW.exit_then (NW.exit_then (NW.exit_hit ?_))
 refine NW.next (CW.seq (CW.lw 2 rfl (pu 2 rfl (RW.done (NW.next (CW.ret ?_))))))
 obtain rfl:=Option.some.inj H
 exact NW.r1 ⟨vb,vc,rfl,ve,(h2.sub (l':=[(w.heap.size,none,some 26)]) (li':=[(w.heap.size,none,some 66)]) ⟨(.inl ⟨by omega,trivial,rfl⟩),trivial⟩ ⟨(.inl ⟨by omega,trivial,rfl⟩),trivial⟩)⟩
theorem r0_CopyPool.calls {k:Nat} {p0:Pool} {A1:Option Addr} {c_1:Nat} {A2:Option Addr} {c_2:Nat} {A3:Option Addr} {c_3:Nat} {r:Pool} {w:World} (H:r0_CopyPool.f k p0=some r) (hs1:Sl kDeviceR w.heap okAll A1 p0.Devices) (hl1:p0.Devices.length≤c_1) (hs2:Sl kTableR w.heap okAll A2 p0.Tables) (hl2:p0.Tables.length≤c_2) (hs3:Sl kEntry w.heap okAll A3 p0.Job.Table.List_) (hl3:p0.Job.Table.List_.length≤c_3):
 Calls Tryz.prog 44 #[.agg #[.slice A1 p0.Devices.length c_1,.slice A2 p0.Tables.length c_2,iv p0.Job.Dev,iv p0.Job.At,iv p0.Job.Table.Dev,iv p0.Job.Table.Size,.slice A3 p0.Job.Table.List_.length c_3,iv p0.Next]] w fun e w'=>∃(B1:Option Addr) (d1:Nat) (B2:Option Addr) (d2:Nat) (B3:Option Addr) (d3:Nat),e=.returned (.agg #[.slice B1 r.Devices.length d1,.slice B2 r.Tables.length d2,iv r.Job.Dev,iv r.Job.At,iv r.Job.Table.Dev,iv r.Job.Table.Size,.slice B3 r.Job.Table.List_.length d3,iv r.Next])∧Ext w w'∧Ow kDeviceO 40 w'.heap (okL [(w.heap.size,none,some 40)]) (okL [(w.heap.size,none,some 105)]) B1 d1 r.Devices∧Ow kTableO 26 w'.heap (okL [(w.heap.size,none,some 26)]) (okL [(w.heap.size,none,some 66)]) B2 d2 r.Tables∧Ow kEntry 66 w'.heap (okL [(w.heap.size,none,some 66)]) (okL []) B3 d3 r.Job.Table.List_:=by
 have h1:Sl kDeviceR w.heap (okL [(0,some w.heap.size,none)]) A1 p0.Devices:=hs1.old _ rfl
 have h2:Sl kTableR w.heap (okL [(0,some w.heap.size,none)]) A2 p0.Tables:=hs2.old _ rfl
 have h3:Sl kEntry w.heap (okL [(0,some w.heap.size,none)]) A3 p0.Job.Table.List_:=hs3.old _ rfl
 have x0:Ext w w:=Upd.refl _ w
 unfold r0_CopyPool.f at H
 refine cst Tryz.func44 20 ?_
 refine CW.seq (CW.lex [.X,.X] rfl (RW.bx fun b1 w1 x1 sx1 l1 ltb1 h4=>?_))
 refine RW.al tk fun b2 w2 x2 sx2 l2 ltb2 h5=>?_
 refine RW.done (NW.next (CW.seq (CW.lex [.L,.X,.M] rfl ?_)))
 have h6:=h4.ext x2
 refine RW.lw tk h6 ?_
 refine RW.al tk fun b3 w3 x3 sx3 l3 ltb3 h7=>?_
 refine RW.sf tk h7 fun w4 x4 sx4 h9=>?_
 refine RW.done (NW.next (CW.seq (CW.lex [.W,.L,.X,.W,.M] rfl (pu 1 rfl ?_))))
 have h10:=(h6.ext x3).tB x4
 refine RW.lb tk [.slice A1 p0.Devices.length c_1] h10 0 ?_
 have h11:=(((h1.ext x1).ext x2).ext x3).turnB x4 h7 ⟨.inr (by omega),trivial⟩
 obtain ⟨y1,h12,H⟩:=bind_some H
 refine RW.cl ent67 (r0_CopyDevices.calls h12 h11.all hl1) ?_
 rintro _ w5 ⟨A4,c_4,rfl,x5,h13⟩
 refine ⟨_,rfl,x5,?_⟩
 have sx5:=x5.size
 have h14:Ow kDeviceO 40 w5.heap (okL [(w4.heap.size,some w5.heap.size,some 40)]) (okL [(w4.heap.size,some w5.heap.size,some 105)]) A4 c_4 y1:=h13.close
 refine pu 1 rfl ?_
 have h15:=h9.ext x5
 refine RW.sp tk h15 [.slice A4 y1.length c_4,.slice A2 p0.Tables.length c_2,iv p0.Job.Dev,iv p0.Job.At,iv p0.Job.Table.Dev,iv p0.Job.Table.Size,.slice A3 p0.Job.Table.List_.length c_3,iv p0.Next] fun w6 x6 sx6 h17=>?_
 refine RW.done (NW.next (CW.seq (CW.lex [.W,.L,.X,.W,.M] rfl (pu 1 rfl ?_))))
 have h18:=(h10.ext x5).tB x6
 refine RW.lb tk [.slice A2 p0.Tables.length c_2] h18 1 ?_
 have h19:=(((((h2.ext x1).ext x2).ext x3).turnB x4 h7 ⟨.inr (by omega),trivial⟩).ext x5).turnB x6 h15 ⟨.inr (by omega),trivial⟩
 obtain ⟨y2,h20,H⟩:=bind_some H
 refine RW.cl ent68 (r0_CopyTables.calls h20 h19.all hl2) ?_
 rintro _ w7 ⟨A5,c_5,rfl,x7,h21⟩
 refine ⟨_,rfl,x7,?_⟩
 have sx7:=x7.size
 have h22:Ow kTableO 26 w7.heap (okL [(w6.heap.size,some w7.heap.size,some 26)]) (okL [(w6.heap.size,some w7.heap.size,some 66)]) A5 c_5 y2:=h21.close
 refine pu 1 rfl ?_
 have h23:=h17.ext x7
 refine RW.sp tk h23 [.slice A4 y1.length c_4,.slice A5 y2.length c_5,iv p0.Job.Dev,iv p0.Job.At,iv p0.Job.Table.Dev,iv p0.Job.Table.Size,.slice A3 p0.Job.Table.List_.length c_3,iv p0.Next] fun w8 x8 sx8 h25=>?_
 refine RW.done (NW.next (CW.seq (CW.lex [.W,.W,.L,.X,.W,.W,.M] rfl (pu 2 rfl ?_))))
 have h26:=(h18.ext x7).tB x8
 refine RW.lb tk [iv p0.Job.Table.Dev,iv p0.Job.Table.Size,.slice A3 p0.Job.Table.List_.length c_3] h26 4 ?_
 have h27:=(((((((h3.ext x1).ext x2).ext x3).turnB x4 h7 ⟨.inr (by omega),trivial⟩).ext x5).turnB x6 h15 ⟨.inr (by omega),trivial⟩).ext x7).turnB x8 h23 ⟨.inr (by omega),trivial⟩
 obtain ⟨y3,h28,H⟩:=bind_some H
 refine RW.cl ent69 (r0_CopyTable.calls h28 h27.all hl3) ?_
 rintro _ w9 ⟨A6,c_6,rfl,x9,h29⟩
 refine ⟨_,rfl,x9,?_⟩
 have sx9:=x9.size
 have h30:Ow kEntry 66 w9.heap (okL [(w8.heap.size,some w9.heap.size,some 66)]) (okL []) A6 c_6 y3.List_:=h29.close
 refine pu 2 rfl ?_
 have h31:=h25.ext x9
 refine RW.sp tk h31 [.slice A4 y1.length c_4,.slice A5 y2.length c_5,iv p0.Job.Dev,iv p0.Job.At,iv y3.Dev,iv y3.Size,.slice A6 y3.List_.length c_6,iv p0.Next] fun w10 x10 sx10 h33=>?_
 refine RW.done (NW.next (CW.seq (CW.lex [.L,.M] rfl (RW.lw tk h33 ?_))))
 have h34:=(((((((h5.ext x3).tB x4).ext x5).tB x6).ext x7).tB x8).ext x9).tB x10
 refine RW.sf tk h34 fun w11 x11 sx11 h36=>?_
 refine RW.done (NW.next (CW.ret ?_))
 have h37:=(((((h14.tB x6 h15).ext x7).tB x8 h23).ext x9).tB x10 h31).tB x11 h34
 have h38:=(((h22.tB x8 h23).ext x9).tB x10 h31).tB x11 h34
 have h39:=(h30.tB x10 h31).tB x11 h34
 obtain rfl:=Option.some.inj H
 have h40:=((((((((((x0.tr x1).tr x2).tr x3).tB x4).tr x5).tB x6).tr x7).tB x8).tr x9).tB x10).tB x11
 exact NW.ret1 rfl (resOne_cell tk (h36.at 0) rfl rfl rfl) ⟨A4,c_4,A5,c_5,A6,c_6,rfl,h40,(h37.sub (l':=[(w.heap.size,none,some 40)]) (li':=[(w.heap.size,none,some 105)]) ⟨(.inl ⟨by omega,trivial,rfl⟩),trivial⟩ ⟨(.inl ⟨by omega,trivial,rfl⟩),trivial⟩),(h38.sub (l':=[(w.heap.size,none,some 26)]) (li':=[(w.heap.size,none,some 66)]) ⟨(.inl ⟨by omega,trivial,rfl⟩),trivial⟩ ⟨(.inl ⟨by omega,trivial,rfl⟩),trivial⟩),(h39.sub (l':=[(w.heap.size,none,some 66)]) (li':=[]) ⟨(.inl ⟨by omega,trivial,rfl⟩),trivial⟩ trivial)⟩
theorem r0_Between.calls {p0:Int} {p1:Int} {p2:Int} {r:Bool} {w:World} (H:r0_Between.f p0 p1 p2=some r):
 Calls Tryz.prog 21 #[iv p0,iv p1,iv p2] w fun e w'=>e=.returned (.bool r)∧Ext w w':=by
 have x0:Ext w w:=Upd.refl _ w
 unfold r0_Between.f at H
 refine cst Tryz.func21 15 ?_
 refine CW.seq (CW.lw 1 rfl (pu 1 rfl (RW.done (NW.next (CW.seq (CW.lw 9 rfl (pu 4 rfl ?_)))))))
 refine RW.i 10 H (fun c1 H=>?_) fun c1 H=>?_
 refine pu 5 rfl (RW.done (NW.next (CW.ret ?_)))
 obtain rfl:=Option.some.inj H
 exact NW.r1 ⟨rfl,x0⟩
 refine pu 5 rfl (RW.done (NW.next (CW.ret ?_)))
 obtain rfl:=Option.some.inj H
 exact NW.r1 ⟨rfl,x0⟩
theorem r1_Set.calls {k:Nat} {A1:Option Addr} {c_1:Nat} {p0:List Seg} {r:(Nat→Bool)} {w:World} (H:r1_Set.f k p0=some r) (hs1:Sl kSeg w.heap okAll A1 p0) (hl1:p0.length≤c_1):
 Calls Tryz.prog 28 #[.slice A1 p0.length c_1] w fun e w'=>e=.returned (.agg (arrB 64 r).toArray)∧Ext w w':=by
 have h1:Sl kSeg w.heap (okL [(0,some w.heap.size,none)]) A1 p0:=hs1.old _ rfl
 have x0:Ext w w:=Upd.refl _ w
 unfold r1_Set.f at H
 refine cst Tryz.func28 35 ?_
 refine CW.seq (CW.lex [.X] rfl (RW.al tk fun b1 w1 x1 sx1 l1 ltb1 h2=>?_))
 refine RW.done (NW.next (CW.seq (CW.lex [.X] rfl (RW.al tk fun b2 w2 x2 sx2 l2 ltb2 h3=>?_))))
 refine RW.done (NW.next (CW.seq (CW.seq (CW.lw 1 rfl (pu 1 rfl (RW.done (NW.next ?_)))))))
 refine CW.block ?_
 refine CW.loop (fun n1 a w3=>∃(va:Int) (vb:Nat→Bool),Sat 35 [(0,.slice A1 p0.length c_1),(2,.pointer (some ⟨b1,0,none⟩)),(3,.pointer (some ⟨b2,0,none⟩)),(4,iv va)] a∧w2.heap.size≤w3.heap.size∧Ext w w3∧Box w3.heap b1 69 (arrB 64 (fun _=>false))∧Box w3.heap b2 69 (arrB 64 vb)∧r1_Set.l0 p0 k n1 va vb=some r) k ?_ ?_
 have h4:=(x0.tr x1).tr x2
 have h5:=h2.ext x2
 exact fun a ha=>⟨0,(fun _=>false),ha.sb,by omega,h4,h5,h3,H⟩
 rintro n1 a w3 ⟨va,vb,hS,hle,ve,vf,vg,H⟩ hp
 obtain _|n1:=n1
 cases H
 rw [r1_Set.l0] at H
 refine CW.go hp hS ?_
 have xt1:Ext w3 w3:=Upd.refl _ _
 refine CW.seq (CW.seq (CW.lw 4 rfl (pu 4 rfl (RW.done (NW.next (CW.i H (fun c1 H=>?_) fun c1 H=>?_))))))
 refine CW.skip (NW.next (CW.seq (CW.block (CW.seq (CW.lex [.W,.W,.W,.W,.L,.W] rfl (pu 2 rfl ?_))))))
 obtain ⟨g1,H⟩:=guard_some H
 obtain ⟨ad1,e1,a1⟩:=kSeg_at (h1.ext ve) g1.1 g1.2
 refine RW.ix tk g1 e1 ?_
 refine pu 1 rfl (RW.ld tk [iv ((rd p0 va).At)] ((a1.fld 0).take 1 rfl) ?_)
 refine pu 1 rfl (RW.done (NW.next (CW.block ?_)))
 refine CW.loop (fun n2 a w4=>∃(vc:Int) (vd:Nat→Bool),Sat 35 [(0,.slice A1 p0.length c_1),(2,.pointer (some ⟨b1,0,none⟩)),(3,.pointer (some ⟨b2,0,none⟩)),(4,iv va),(5,iv vc)] a∧w3.heap.size≤w4.heap.size∧Ext w w4∧Box w4.heap b1 69 (arrB 64 (fun _=>false))∧Box w4.heap b2 69 (arrB 64 vd)∧r1_Set.l1 p0 va (r1_Set.l0 p0 k n1) n2 vc vd=some r) k ?_ ?_
 exact fun a ha=>⟨((rd p0 va).At),vb,ha.sb,by omega,ve,vf,vg,H⟩
 rintro n2 a w4 ⟨vc,vd,hS,hle,vh,vi,vj,H⟩ hp
 obtain _|n2:=n2
 cases H
 rw [r1_Set.l1] at H
 refine CW.go hp hS ?_
 have xt2:Ext w4 w4:=Upd.refl _ _
 refine CW.seq (CW.seq (CW.ord [0,0,0,6,14,30,0,0,192,448,960,2046,4095] (ofL [(0,.W),(1,.W),(2,.W),(3,.W),(4,.W),(6,.W),(7,.W),(8,.W),(9,.W),(5,.L),(10,.L),(11,.W),(12,.W)] .nil) mixed (by kernel_rfl) ?_))
 intro w5 x3
 have sx3:=x3.size
 refine pu 3 rfl ?_
 obtain ⟨g2,H⟩:=guard_some H
 have h6:=(h1.ext vh).ext x3
 obtain ⟨ad2,e2,a2⟩:=kSeg_at h6 g2.1 g2.2
 refine RW.ix tk g2 e2 ?_
 refine pu 3 rfl ?_
 obtain ⟨g3,H⟩:=guard_some H
 obtain ⟨ad3,e3,a3⟩:=kSeg_at h6 g3.1 g3.2
 refine RW.ix tk g3 e3 ?_
 refine pu 1 rfl (RW.ld tk [iv ((rd p0 va).At)] ((a2.fld 0).take 1 rfl) ?_)
 refine RW.ld tk [iv ((rd p0 va).Len)] (a3.fld 1) ?_
 refine pu 2 rfl (RW.done (NW.next ?_))
 have j1:=vj.ext x3
 have j2:=vh.tr x3
 have j3:=vi.ext x3
 refine CW.i H (fun c2 H=>?_) fun c2 H=>?_
 refine CW.skip (NW.next (CW.seq (CW.block (CW.lex [.W,.W,.M] rfl (pu 1 rfl ?_)))))
 obtain ⟨g4,H⟩:=guard_some H
 refine RW.indexBox tk g4.1 g4.2 ⟨rfl,rfl,rfl,rfl⟩ rfl rfl rfl rfl rfl rfl rfl (RW.storeBox tk j1 [.bool true] ⟨rfl,rfl,rfl⟩ rfl rfl rfl rfl rfl rfl rfl (arrF_fit (by have:=g4;omega)) ?_)
 intro w6 x4 h8
 have h9:Box w6.heap b2 69 (arrB 64 (updF vd vc.toNat true)):=by rw [lay_arrF] at h8;exact h8
 have sx4:=x4.size
 refine RW.done ?_
 refine NW.norm_block (NW.next ?_)
 refine CW.lw 3 rfl (pu 3 rfl (RW.done ?_))
 have h10:=j2.tB x4
 have h11:=j3.tB x4
 exact NW.J fun a ha=>⟨n2,Nat.lt_succ_self n2,(w64 (vc+1)),(updF vd vc.toNat true),ha.sb,by omega,h10,h11,h9,H⟩
 refine CW.exit ?_
 refine NW.exit_then (NW.exit_then (NW.exit_hit ?_))
 refine NW.norm_block (NW.next ?_)
 refine CW.lw 3 rfl (pu 3 rfl (RW.done ?_))
 exact NW.J fun a ha=>⟨n1,Nat.lt_succ_self n1,(w64 (va+1)),vd,ha.sb,by omega,j2,j3,j1,H⟩
 refine CW.exit ?_
 refine NW.exit_then (NW.exit_then (NW.exit_hit ?_))
 refine NW.next (CW.seq (CW.lex [.L,.M] rfl (RW.load tk (arrB 64 vb) (vg.at 0) ⟨rfl,rfl,rfl,rfl⟩ rfl rfl rfl arrF_len ?_)))
 refine RW.storeBox tk vf (arrB 64 vb) ⟨rfl,rfl,rfl⟩ rfl rfl rfl rfl rfl arrF_len (arrF_all fun _=>rfl) (arrF_fitAll arrF_len) ?_
 intro w7 x5 h15
 have h16:Box w7.heap b1 69 (arrB 64 vb):=by rw [lay_arrFull] at h15;exact h15
 have sx5:=x5.size
 refine RW.done (NW.next (CW.ret ?_))
 obtain rfl:=Option.some.inj H
 have h17:=ve.tB x5
 exact NW.ret1 rfl (resOne_cell tk (h16.at 0) rfl rfl arrF_len) ⟨rfl,h17⟩
theorem r1_Of.calls {k:Nat} {p0:Nat→Bool} {r:(List Seg)} {w:World} (H:r1_Of.f k p0=some r):
 Calls Tryz.prog 94 #[.agg (arrB 64 p0).toArray] w fun e w'=>∃(B1:Option Addr) (d1:Nat),e=.returned (.slice B1 r.length d1)∧Ext w w'∧Ow kSeg 105 w'.heap (okL [(w.heap.size,none,some 105)]) (okL []) B1 d1 r:=by
 have x0:Ext w w:=Upd.refl _ w
 unfold r1_Of.f at H
 refine cst Tryz.func94 51 ?_
 refine CW.seq (CW.lex [.X,.W] rfl (RW.box (cs:=(arrB 64 p0)) (.inl rfl) ⟨rfl,rfl,rfl,rfl⟩ rfl rfl rfl ?_))
 intro b1 w1 x1 l1 h1
 have sx1:=x1.size
 have ltb1:=h1.lt
 refine pu 1 rfl (RW.done (NW.next (CW.seq (CW.lw 1 rfl (pu 1 rfl (RW.done (NW.next ?_)))))))
 refine CW.seq (CW.seq (CW.lw 1 rfl (pu 1 rfl (RW.done (NW.next (CW.block ?_))))))
 refine CW.loop (fun n1 a w2=>∃(va:List Seg) (vc:Option Addr) (vd:Nat) (vb:Int),Sat 51 [(1,.pointer (some ⟨b1,0,none⟩)),(3,.slice vc va.length vd),(4,iv vb)] a∧w1.heap.size≤w2.heap.size∧Ow kSeg 105 w2.heap (okL [(w1.heap.size,none,some 105)]) (okL []) vc vd va∧Ext w w2∧Box w2.heap b1 69 (arrB 64 p0)∧r1_Of.l0 p0 n1 va vb=some r) k ?_ ?_
 have h2:=x0.tr x1
 exact fun a ha=>⟨([]:List Seg),none,0,0,ha.sb,by omega,Ow.nil,h2,h1,H⟩
 rintro n1 a w2 ⟨va,vc,vd,vb,hS,hle,vm,vj,vi,H⟩ hp
 obtain _|n1:=n1
 cases H
 rw [r1_Of.l0] at H
 refine CW.go hp hS ?_
 have h3:Ow kSeg 105 w2.heap (okL [(w1.heap.size,some w2.heap.size,some 105)]) (okL []) vc vd va:=vm.close
 have xt1:Ext w2 w2:=Upd.refl _ _
 refine CW.seq (CW.seq (CW.lw 2 rfl (pu 2 rfl (RW.done (NW.next (CW.i H (fun c1 H=>?_) fun c1 H=>?_))))))
 refine CW.skip (NW.next ?_)
 refine CW.seqJ (fun a w3=>∃(ve:List Seg) (vg:Option Addr) (vh:Nat),Sat 51 [(1,.pointer (some ⟨b1,0,none⟩)),(3,.slice vg ve.length vh),(4,iv vb)] a∧w2.heap.size≤w3.heap.size∧Ow kSeg 105 w3.heap (okL [(w1.heap.size,none,some 105)]) (okL []) vg vh ve∧Ext w w3∧Box w3.heap b1 69 (arrB 64 p0)∧r1_Of.j0 vb (r1_Of.l0 p0 n1) ve=some r) ?_ ?_
 refine CW.block (CW.seq (CW.seq (CW.lex [.W,.W,.L,.W] rfl (pu 1 rfl ?_))))
 obtain ⟨g1,H⟩:=guard_some H
 refine RW.indexBox tk g1.1 g1.2 ⟨rfl,rfl,rfl,rfl⟩ rfl rfl rfl rfl rfl rfl rfl (RW.ld tk [.bool (p0 vb.toNat)] (vi.elF (by have:=g1;omega)) ?_)
 refine pu 1 rfl (RW.done (NW.next (CW.n H (fun c2 H=>?_) fun c2 H=>?_)))
 refine CW.skip (NW.next ?_)
 refine CW.seqJ (fun a w4=>∃(vk:Bool),Sat 51 [(1,.pointer (some ⟨b1,0,none⟩)),(3,.slice vc va.length vd),(4,iv vb),(34,.bool vk)] a∧w2.heap.size≤w4.heap.size∧Ext w w4∧Ext w2 w4∧r1_Of.j1 va vb (r1_Of.l0 p0 n1) vk=some r) ?_ ?_
 refine CW.ord [0,1,3,7,15,15,47,111,255,511,1023,15,15,4111,12303,30735,63503,129039,262143,15,1048575,2097151] (ofL [(0,.W),(1,.W),(2,.W),(3,.W),(4,.W),(5,.W),(6,.W),(7,.W),(8,.W),(9,.W),(11,.W),(12,.W),(13,.W),(14,.W),(15,.W),(16,.W),(19,.W),(10,.L),(17,.L),(18,.W),(20,.W),(21,.W)] .nil) mixed (by kernel_rfl) ?_
 intro w5 x2
 have sx2:=x2.size
 refine pu 4 rfl ?_
 have j1:=vj.tr x2
 have j2:=xt1.tr x2
 refine RW.i 16 H (fun c3 H=>?_) fun c3 H=>?_
 refine pu 4 rfl ?_
 obtain ⟨g2,H⟩:=guard_some H
 have h4:=h3.ext x2
 obtain ⟨ad1,e1,a1⟩:=kSeg_at h4.slL g2.1 g2.2
 refine RW.ix tk g2 e1 ?_
 refine pu 5 rfl ?_
 obtain ⟨g3,H⟩:=guard_some H
 obtain ⟨ad2,e2,a2⟩:=kSeg_at h4.slL g3.1 g3.2
 refine RW.ix tk g3 e2 ?_
 refine pu 2 rfl (RW.ld tk [iv ((rd va (w64 ((va.length:Int)-1))).At)] ((a1.fld 0).take 1 rfl) ?_)
 refine RW.ld tk [iv ((rd va (w64 ((va.length:Int)-1))).Len)] (a2.fld 1) ?_
 refine pu 3 rfl (RW.done ?_)
 exact NW.J fun a ha=>⟨((w64 (((rd va (w64 ((va.length:Int)-1))).At)+((rd va (w64 ((va.length:Int)-1))).Len)))==vb),ha.sb,by omega,j1,j2,H⟩
 refine pu 18 rfl (RW.done ?_)
 exact NW.J fun a ha=>⟨false,ha.sb,by omega,j1,j2,H⟩
 rintro a w4 ⟨vk,hS,hle,vl,vf,H⟩ hp
 unfold r1_Of.j1 at H
 refine CW.go hp hS (CW.i H (fun c4 H=>?_) fun c4 H=>?_)
 refine CW.lex [.W,.W,.W,.W,.W,.W,.L,.W,.W,.W,.M] rfl (pu 4 rfl ?_)
 obtain ⟨g4,H⟩:=guard_some H
 obtain ⟨ad3,e3,a3⟩:=kSeg_at ((h3.ext vf).slL) g4.1 g4.2
 refine RW.ix tk g4 e3 ?_
 refine pu 1 rfl (RW.ld tk [iv ((rd va (w64 ((va.length:Int)-1))).Len)] (a3.fld 1) ?_)
 refine pu 1 rfl ?_
 obtain ⟨g5,H⟩:=guard_some H
 obtain ⟨ad4,e4,a4⟩:=kSeg_at ((h3.ext vf).slL) g5.1 g5.2
 refine RW.ix tk g5 e4 ?_
 refine pu 1 rfl ?_
 refine RW.storeElL (y:=(⟨(rd va (w64 ((va.length:Int)-1))).At,w64 (((rd va (w64 ((va.length:Int)-1))).Len)+1)⟩:Seg)) (lv:=[]) (k:=1) tk (h3.ext vf) (j:=(w64 ((va.length:Int)-1)).toNat) (by have:=g5;omega) default [iv (w64 (((rd va (w64 ((va.length:Int)-1))).Len)+1))] (fun cs ok' hr=>by obtain rfl:=kSeg_open hr;exact ⟨by simp,kSeg_mk (⟨(rd va (w64 ((va.length:Int)-1))).At,w64 (((rd va (w64 ((va.length:Int)-1))).Len)+1)⟩:Seg)⟩) trivial ⟨rfl,rfl,rfl⟩ rfl rfl e4 rfl rfl rfl rfl rfl ?_
 intro w6 x3 h9
 have sx3:=x3.size
 have h10:=h9.sub (l':=[(w1.heap.size,some w2.heap.size,some 105)]) (li':=[]) ⟨(.inl ⟨by omega,by omega,rfl⟩),trivial⟩ trivial
 refine RW.tell 3 (v':=.slice vc (va.set (w64 ((va.length:Int)-1)).toNat (⟨(rd va (w64 ((va.length:Int)-1))).At,w64 (((rd va (w64 ((va.length:Int)-1))).Len)+1)⟩:Seg)).length vd) (by simp only [List.length_set]) rfl (RW.done (NW.norm_block ?_))
 have h11:=Ext.turn vl x3 ⟨by omega,trivial⟩
 have h12:=(vi.ext vf).tL x3
 exact NW.J fun a ha=>⟨(va.set (w64 ((va.length:Int)-1)).toNat (⟨(rd va (w64 ((va.length:Int)-1))).At,w64 (((rd va (w64 ((va.length:Int)-1))).Len)+1)⟩:Seg)),vc,vd,ha.sb,by omega,(h10.sb),h11,h12,H⟩
 refine CW.lex [.W,.W,.W,.X,.M,.W] rfl (pu 3 rfl (RW.buildSlice (cs:=[iv vb,iv 1]) tk (.inl rfl) ⟨rfl,rfl,rfl,rfl⟩ rfl rfl rfl rfl rfl rfl rfl ?_))
 intro b2 w7 x4 l2 h13
 have sx4:=x4.size
 have ltb2:=h13.lt
 have h14:=(h3.ext vf).ext x4
 obtain ⟨g6,H⟩:=guard_some H
 refine RW.append1L (d:=kSeg) (v:=(⟨vb,1⟩:Seg)) (l:=[(w1.heap.size,some w2.heap.size,some 105)]) (li:=[]) (ly:=[]) (xs:=va) tk h14 h13 (kSeg_mk (⟨vb,1⟩:Seg)) trivial (by simp only [maxLen];omega) g6 ⟨rfl,rfl,rfl,rfl⟩ rfl rfl rfl rfl rfl rfl rfl ?_
 intro A1 c_1 w8 x5 h15
 have sx5:=x5.size
 have h16:=h15.close.sub (l':=[(w1.heap.size,some w8.heap.size,some 105)]) (li':=[]) ⟨(.inl ⟨by omega,by omega,rfl⟩),⟨(.inl ⟨by omega,by omega,rfl⟩),trivial⟩⟩ trivial
 refine pu 1 rfl (RW.done (NW.norm_block ?_))
 have h17:=Ext.turn (vl.tr x4) x5 ⟨by omega,trivial⟩
 have h18:=((vi.ext vf).ext x4).tL x5
 exact NW.J fun a ha=>⟨(va++[(⟨vb,1⟩:Seg)]),A1,c_1,ha.sb,by omega,(h16.sb),h17,h18,H⟩
 refine CW.exit ?_
 refine NW.exit_then (NW.exit_hit ?_)
 exact NW.J fun a ha=>⟨va,vc,vd,ha.sb,by omega,(h3.sb),vj,vi,H⟩
 rintro a w3 ⟨ve,vg,vh,hS,hle,vn,vo,vp,H⟩ hp
 unfold r1_Of.j0 at H
 refine CW.go hp hS ?_
 have h19:Ow kSeg 105 w3.heap (okL [(w1.heap.size,some w3.heap.size,some 105)]) (okL []) vg vh ve:=vn.close
 have xt2:Ext w3 w3:=Upd.refl _ _
 refine CW.lw 3 rfl (pu 3 rfl (RW.done ?_))
 exact NW.J fun a ha=>⟨n1,Nat.lt_succ_self n1,ve,vg,vh,(w64 (vb+1)),ha.sb,by omega,(h19.sb),vo,vp,H⟩
 refine CW.exit ?_
 refine NW.exit_then (NW.exit_then (NW.exit_hit ?_))
 refine NW.next (CW.seq (CW.lw 2 rfl (pu 2 rfl (RW.done (NW.next (CW.ret ?_))))))
 obtain rfl:=Option.some.inj H
 exact NW.r1 ⟨vc,vd,rfl,vj,(h3.sub (l':=[(w.heap.size,none,some 105)]) (li':=[]) ⟨(.inl ⟨by omega,trivial,rfl⟩),trivial⟩ trivial)⟩
theorem r1_Two.calls {k:Nat} {A1:Option Addr} {c_1:Nat} {p0:List Seg} {A2:Option Addr} {c_2:Nat} {p1:List Seg} {p2:Int} {r:(List Seg)} {w:World} (H:r1_Two.f k p0 p1 p2=some r) (hs1:Sl kSeg w.heap okAll A1 p0) (hl1:p0.length≤c_1) (hs2:Sl kSeg w.heap okAll A2 p1) (hl2:p1.length≤c_2):
 Calls Tryz.prog 70 #[.slice A1 p0.length c_1,.slice A2 p1.length c_2,iv p2] w fun e w'=>∃(B1:Option Addr) (d1:Nat),e=.returned (.slice B1 r.length d1)∧Ext w w'∧Ow kSeg 105 w'.heap (okL [(w.heap.size,none,some 105)]) (okL []) B1 d1 r:=by
 have h1:Sl kSeg w.heap (okL [(0,some w.heap.size,none)]) A1 p0:=hs1.old _ rfl
 have h2:Sl kSeg w.heap (okL [(0,some w.heap.size,none)]) A2 p1:=hs2.old _ rfl
 have x0:Ext w w:=Upd.refl _ w
 unfold r1_Two.f at H
 refine cst Tryz.func70 57 ?_
 refine CW.seq (CW.lw 1 rfl (pu 1 rfl (RW.done (NW.next (CW.seq (CW.lex [.W,.X,.W,.X,.X,.X,.M,.M] rfl (pu 1 rfl ?_)))))))
 refine RW.cp H ent28 (fun _ h=>r1_Set.calls h h1.all hl1) fun y1 w1 x1 sx1 H=>?_
 refine pu 1 rfl ?_
 have h4:=h2.ext x1
 refine RW.cp H ent28 (fun _ h=>r1_Set.calls h h4.all hl2) fun y2 w2 x2 sx2 H=>?_
 refine RW.al tk fun b1 w3 x3 sx3 l1 ltb1 h6=>?_
 refine RW.al tk fun b2 w4 x4 sx4 l2 ltb2 h7=>?_
 have h8:=h6.ext x4
 refine RW.storeBox tk h8 (arrB 64 y1) ⟨rfl,rfl,rfl⟩ rfl rfl rfl rfl rfl arrF_len (arrF_all fun _=>rfl) (arrF_fitAll arrF_len) ?_
 intro w5 x5 h9
 have h10:Box w5.heap b1 69 (arrB 64 y1):=by rw [lay_arrFull] at h9;exact h9
 have sx5:=x5.size
 have h11:=h7.tB x5
 refine RW.storeBox tk h11 (arrB 64 y2) ⟨rfl,rfl,rfl⟩ rfl rfl rfl rfl rfl arrF_len (arrF_all fun _=>rfl) (arrF_fitAll arrF_len) ?_
 intro w6 x6 h12
 have h13:Box w6.heap b2 69 (arrB 64 y2):=by rw [lay_arrFull] at h12;exact h12
 have sx6:=x6.size
 refine RW.done (NW.next (CW.seq (CW.lex [.X] rfl (RW.al tk fun b3 w7 x7 sx7 l3 ltb3 h14=>?_))))
 refine RW.done (NW.next (CW.seq (CW.seq (CW.lw 1 rfl (pu 1 rfl (RW.done (NW.next ?_)))))))
 refine CW.block ?_
 refine CW.loop (fun n1 a w8=>∃(va:Int) (vb:Nat→Bool),Sat 57 [(2,iv p2),(7,.pointer (some ⟨b1,0,none⟩)),(8,.pointer (some ⟨b2,0,none⟩)),(9,.pointer (some ⟨b3,0,none⟩)),(10,iv va)] a∧w7.heap.size≤w8.heap.size∧Ext w w8∧Box w8.heap b1 69 (arrB 64 y1)∧Box w8.heap b2 69 (arrB 64 y2)∧Box w8.heap b3 69 (arrB 64 vb)∧r1_Two.l0 p2 k y1 y2 n1 va vb=some r) k ?_ ?_
 have h15:=((((((x0.tr x1).tr x2).tr x3).tr x4).tB x5).tB x6).tr x7
 have h16:=(h10.tB x6).ext x7
 have h17:=h13.ext x7
 exact fun a ha=>⟨0,(fun _=>false),ha.sb,by omega,h15,h16,h17,h14,H⟩
 rintro n1 a w8 ⟨va,vb,hS,hle,ve,vc,vd,vf,H⟩ hp
 obtain _|n1:=n1
 cases H
 rw [r1_Two.l0] at H
 refine CW.go hp hS ?_
 have xt1:Ext w8 w8:=Upd.refl _ _
 refine CW.seq (CW.seq (CW.lw 2 rfl (pu 2 rfl (RW.done (NW.next (CW.i H (fun c1 H=>?_) fun c1 H=>?_))))))
 refine CW.skip (NW.next ?_)
 refine CW.seqJ (fun a w9=>∃(vg:Nat→Bool),Sat 57 [(2,iv p2),(7,.pointer (some ⟨b1,0,none⟩)),(8,.pointer (some ⟨b2,0,none⟩)),(9,.pointer (some ⟨b3,0,none⟩)),(10,iv va)] a∧w8.heap.size≤w9.heap.size∧Ext w w9∧Box w9.heap b1 69 (arrB 64 y1)∧Box w9.heap b2 69 (arrB 64 y2)∧Box w9.heap b3 69 (arrB 64 vg)∧r1_Two.j0 va (r1_Two.l0 p2 k y1 y2 n1) vg=some r) ?_ ?_
 refine CW.block (CW.seq (CW.lw 1 rfl (pu 1 rfl (RW.done (NW.next (CW.block (CW.seq ?_)))))))
 refine CW.lw 2 rfl (pu 2 rfl (RW.done (NW.next (CW.i H (fun c2 H=>?_) fun c2 H=>?_))))
 refine CW.lex [.W,.W,.W,.L,.W,.W,.W,.L,.W,.W,.M] rfl (pu 2 rfl ?_)
 obtain ⟨g1,H⟩:=guard_some H
 refine RW.indexBox tk g1.1 g1.2 ⟨rfl,rfl,rfl,rfl⟩ rfl rfl rfl rfl rfl rfl rfl (RW.ld tk [.bool (y1 va.toNat)] (vc.elF (by have:=g1;omega)) ?_)
 refine pu 1 rfl (RW.i 36 H (fun c3 H=>?_) fun c3 H=>?_)
 refine pu 4 rfl ?_
 obtain ⟨g2,H⟩:=guard_some H
 refine RW.indexBox tk g2.1 g2.2 ⟨rfl,rfl,rfl,rfl⟩ rfl rfl rfl rfl rfl rfl rfl (RW.storeBox tk vf [.bool true] ⟨rfl,rfl,rfl⟩ rfl rfl rfl rfl rfl rfl rfl (arrF_fit (by have:=g2;omega)) ?_)
 intro w10 x8 h18
 have h19:Box w10.heap b3 69 (arrB 64 (updF vb va.toNat true)):=by rw [lay_arrF] at h18;exact h18
 have sx8:=x8.size
 refine RW.done ?_
 refine NW.norm_block (NW.norm_block ?_)
 have h20:=ve.tB x8
 have h21:=vc.tB x8
 have h22:=vd.tB x8
 exact NW.J fun a ha=>⟨(updF vb va.toNat true),ha.sb,by omega,h20,h21,h22,h19,H⟩
 refine pu 1 rfl ?_
 obtain ⟨g3,H⟩:=guard_some H
 refine RW.indexBox tk g3.1 g3.2 ⟨rfl,rfl,rfl,rfl⟩ rfl rfl rfl rfl rfl rfl rfl (RW.ld tk [.bool (y2 va.toNat)] (vd.elF (by have:=g3;omega)) ?_)
 refine pu 1 rfl ?_
 obtain ⟨g4,H⟩:=guard_some H
 refine RW.indexBox tk g4.1 g4.2 ⟨rfl,rfl,rfl,rfl⟩ rfl rfl rfl rfl rfl rfl rfl (RW.storeBox tk vf [.bool (y2 va.toNat)] ⟨rfl,rfl,rfl⟩ rfl rfl rfl rfl rfl rfl rfl (arrF_fit (by have:=g4;omega)) ?_)
 intro w11 x9 h23
 have h24:Box w11.heap b3 69 (arrB 64 (updF vb va.toNat (y2 va.toNat))):=by rw [lay_arrF] at h23;exact h23
 have sx9:=x9.size
 refine RW.done ?_
 refine NW.norm_block (NW.norm_block ?_)
 have h25:=ve.tB x9
 have h26:=vc.tB x9
 have h27:=vd.tB x9
 exact NW.J fun a ha=>⟨(updF vb va.toNat (y2 va.toNat)),ha.sb,by omega,h25,h26,h27,h24,H⟩
 refine CW.seq (CW.lw 2 rfl (pu 2 rfl (RW.done (NW.next (CW.i H (fun c4 H=>?_) fun c4 H=>?_)))))
 refine CW.lex [.W,.W,.W,.L,.W,.W,.W,.L,.W,.W,.W,.M] rfl (pu 2 rfl ?_)
 obtain ⟨g5,H⟩:=guard_some H
 refine RW.indexBox tk g5.1 g5.2 ⟨rfl,rfl,rfl,rfl⟩ rfl rfl rfl rfl rfl rfl rfl (RW.ld tk [.bool (y1 va.toNat)] (vc.elF (by have:=g5;omega)) ?_)
 refine pu 1 rfl (RW.i 48 H (fun c5 H=>?_) fun c5 H=>?_)
 refine pu 1 rfl ?_
 obtain ⟨g6,H⟩:=guard_some H
 refine RW.indexBox tk g6.1 g6.2 ⟨rfl,rfl,rfl,rfl⟩ rfl rfl rfl rfl rfl rfl rfl (RW.ld tk [.bool (y2 va.toNat)] (vd.elF (by have:=g6;omega)) ?_)
 refine pu 2 rfl ?_
 obtain ⟨g7,H⟩:=guard_some H
 refine RW.indexBox tk g7.1 g7.2 ⟨rfl,rfl,rfl,rfl⟩ rfl rfl rfl rfl rfl rfl rfl (RW.storeBox tk vf [.bool (!(y2 va.toNat))] ⟨rfl,rfl,rfl⟩ rfl rfl rfl rfl rfl rfl rfl (arrF_fit (by have:=g7;omega)) ?_)
 intro w12 x10 h28
 have h29:Box w12.heap b3 69 (arrB 64 (updF vb va.toNat (!(y2 va.toNat)))):=by rw [lay_arrF] at h28;exact h28
 have sx10:=x10.size
 refine RW.done ?_
 refine NW.norm_block (NW.norm_block ?_)
 have h30:=ve.tB x10
 have h31:=vc.tB x10
 have h32:=vd.tB x10
 exact NW.J fun a ha=>⟨(updF vb va.toNat (!(y2 va.toNat))),ha.sb,by omega,h30,h31,h32,h29,H⟩
 refine pu 5 rfl ?_
 obtain ⟨g8,H⟩:=guard_some H
 refine RW.indexBox tk g8.1 g8.2 ⟨rfl,rfl,rfl,rfl⟩ rfl rfl rfl rfl rfl rfl rfl (RW.storeBox tk vf [.bool false] ⟨rfl,rfl,rfl⟩ rfl rfl rfl rfl rfl rfl rfl (arrF_fit (by have:=g8;omega)) ?_)
 intro w13 x11 h33
 have h34:Box w13.heap b3 69 (arrB 64 (updF vb va.toNat false)):=by rw [lay_arrF] at h33;exact h33
 have sx11:=x11.size
 refine RW.done ?_
 refine NW.norm_block (NW.norm_block ?_)
 have h35:=ve.tB x11
 have h36:=vc.tB x11
 have h37:=vd.tB x11
 exact NW.J fun a ha=>⟨(updF vb va.toNat false),ha.sb,by omega,h35,h36,h37,h34,H⟩
 refine CW.lex [.W,.W,.W,.L,.W,.W,.W,.L,.W,.W,.M] rfl (pu 2 rfl ?_)
 obtain ⟨g9,H⟩:=guard_some H
 refine RW.indexBox tk g9.1 g9.2 ⟨rfl,rfl,rfl,rfl⟩ rfl rfl rfl rfl rfl rfl rfl (RW.ld tk [.bool (y1 va.toNat)] (vc.elF (by have:=g9;omega)) ?_)
 refine pu 1 rfl (RW.i 24 H (fun c6 H=>?_) fun c6 H=>?_)
 refine pu 1 rfl ?_
 obtain ⟨g10,H⟩:=guard_some H
 refine RW.indexBox tk g10.1 g10.2 ⟨rfl,rfl,rfl,rfl⟩ rfl rfl rfl rfl rfl rfl rfl (RW.ld tk [.bool (y2 va.toNat)] (vd.elF (by have:=g10;omega)) ?_)
 refine pu 1 rfl ?_
 obtain ⟨g11,H⟩:=guard_some H
 refine RW.indexBox tk g11.1 g11.2 ⟨rfl,rfl,rfl,rfl⟩ rfl rfl rfl rfl rfl rfl rfl (RW.storeBox tk vf [.bool (y2 va.toNat)] ⟨rfl,rfl,rfl⟩ rfl rfl rfl rfl rfl rfl rfl (arrF_fit (by have:=g11;omega)) ?_)
 intro w14 x12 h38
 have h39:Box w14.heap b3 69 (arrB 64 (updF vb va.toNat (y2 va.toNat))):=by rw [lay_arrF] at h38;exact h38
 have sx12:=x12.size
 refine RW.done ?_
 refine NW.norm_block (NW.norm_block ?_)
 have h40:=ve.tB x12
 have h41:=vc.tB x12
 have h42:=vd.tB x12
 exact NW.J fun a ha=>⟨(updF vb va.toNat (y2 va.toNat)),ha.sb,by omega,h40,h41,h42,h39,H⟩
 refine pu 4 rfl ?_
 obtain ⟨g12,H⟩:=guard_some H
 refine RW.indexBox tk g12.1 g12.2 ⟨rfl,rfl,rfl,rfl⟩ rfl rfl rfl rfl rfl rfl rfl (RW.storeBox tk vf [.bool false] ⟨rfl,rfl,rfl⟩ rfl rfl rfl rfl rfl rfl rfl (arrF_fit (by have:=g12;omega)) ?_)
 intro w15 x13 h43
 have h44:Box w15.heap b3 69 (arrB 64 (updF vb va.toNat false)):=by rw [lay_arrF] at h43;exact h43
 have sx13:=x13.size
 refine RW.done ?_
 refine NW.norm_block (NW.norm_block ?_)
 have h45:=ve.tB x13
 have h46:=vc.tB x13
 have h47:=vd.tB x13
 exact NW.J fun a ha=>⟨(updF vb va.toNat false),ha.sb,by omega,h45,h46,h47,h44,H⟩
 rintro a w9 ⟨vg,hS,hle,vh,vi,vj,vk,H⟩ hp
 unfold r1_Two.j0 at H
 refine CW.go hp hS ?_
 have xt2:Ext w9 w9:=Upd.refl _ _
 refine CW.lw 3 rfl (pu 3 rfl (RW.done ?_))
 exact NW.J fun a ha=>⟨n1,Nat.lt_succ_self n1,(w64 (va+1)),vg,ha.sb,by omega,vh,vi,vj,vk,H⟩
 refine CW.exit ?_
 refine NW.exit_then (NW.exit_then (NW.exit_hit ?_))
 refine NW.next (CW.seq (CW.lex [.L,.X,.W] rfl (RW.load tk (arrB 64 vb) (vf.at 0) ⟨rfl,rfl,rfl,rfl⟩ rfl rfl rfl arrF_len ?_)))
 obtain ⟨y3,h48,H⟩:=bind_some H
 refine RW.cl ent94 (r1_Of.calls h48) ?_
 rintro _ w16 ⟨A3,c_3,rfl,x14,h49⟩
 refine ⟨_,rfl,x14,?_⟩
 have sx14:=x14.size
 have h50:Ow kSeg 105 w16.heap (okL [(w8.heap.size,some w16.heap.size,some 105)]) (okL []) A3 c_3 y3:=h49.close
 refine pu 1 rfl (RW.done (NW.next (CW.ret ?_)))
 obtain rfl:=Option.some.inj H
 have h51:=ve.tr x14
 exact NW.r1 ⟨A3,c_3,rfl,h51,(h50.sub (l':=[(w.heap.size,none,some 105)]) (li':=[]) ⟨(.inl ⟨by omega,trivial,rfl⟩),trivial⟩ trivial)⟩
theorem r1_Segs.calls {k:Nat} {A1:Option Addr} {c_1:Nat} {p0:List Seg} {r:Bool} {w:World} (H:r1_Segs.f k p0=some r) (hs1:Sl kSeg w.heap okAll A1 p0) (hl1:p0.length≤c_1):
 Calls Tryz.prog 76 #[.slice A1 p0.length c_1] w fun e w'=>e=.returned (.bool r)∧Ext w w':=by
 have h1:Sl kSeg w.heap (okL [(0,some w.heap.size,none)]) A1 p0:=hs1.old _ rfl
 have x0:Ext w w:=Upd.refl _ w
 unfold r1_Segs.f at H
 refine cst Tryz.func76 71 ?_
 refine CW.seq (CW.lw 1 rfl (pu 1 rfl (RW.done (NW.next (CW.seq (CW.seq (CW.lw 1 rfl ?_)))))))
 refine pu 1 rfl (RW.done (NW.next (CW.block ?_)))
 refine CW.loop (fun n1 a w1=>∃(va:Int),Sat 71 [(0,.slice A1 p0.length c_1),(3,iv va)] a∧w.heap.size≤w1.heap.size∧Ext w w1∧r1_Segs.l0 p0 n1 va=some r) k ?_ ?_
 exact fun a ha=>⟨0,ha.sb,by omega,x0,H⟩
 rintro n1 a w1 ⟨va,hS,hle,vb,H⟩ hp
 obtain _|n1:=n1
 cases H
 rw [r1_Segs.l0] at H
 refine CW.go hp hS (CW.seq (CW.seq (CW.lw 4 rfl (pu 4 rfl (RW.done (NW.next (CW.i H (fun c1 H=>?_) fun c1 H=>?_)))))))
 refine CW.skip (NW.next (CW.seq (CW.block ?_)))
 refine CW.seqJ (fun a w2=>∃(vc:Bool),Sat 71 [(0,.slice A1 p0.length c_1),(3,iv va),(70,.bool vc)] a∧w1.heap.size≤w2.heap.size∧Ext w w2∧r1_Segs.j0 va (r1_Segs.l0 p0 n1) vc=some r) ?_ ?_
 refine CW.ord [0,0,3,7,15,31,63,127,127,511,1023,2047,4095,8191,16383,32767,32767,131071,262143,524287,1048575,2097151,4194303,8388607,8388607,33554431,67108863,134217727,8388607,8388607,813694975,1887436799,4034920447,8329887743,17179869183,34359738367,68719476735,137438953471,274877906943,549755813887,1099511627775,1099511627775,3298534883327,8796093022207,17592186044415,35184372088831,1099511627775,1099511627775,141836999983103,493680720871423,1056630674292735,2182530581135359,4503599627370495,1099511627775,1099511627775,27022697275850751,63051494294814719,135109088332742655,288230376151711743,576460752303423487,1152921504606846975] (ofL [(0,.W),(1,.W),(2,.W),(3,.W),(4,.L),(5,.W),(6,.W),(7,.W),(8,.W),(9,.W),(10,.W),(11,.L),(12,.W),(13,.W),(14,.W),(15,.W),(16,.W),(17,.W),(18,.W),(19,.L),(20,.W),(21,.W),(22,.W),(23,.W),(24,.W),(25,.W),(26,.W),(28,.W),(29,.W),(30,.W),(31,.W),(27,.L),(32,.L),(33,.W),(34,.W),(35,.W),(36,.W),(37,.W),(38,.W),(39,.W),(40,.W),(41,.W),(42,.W),(43,.W),(44,.W),(46,.W),(47,.W),(48,.W),(49,.W),(50,.W),(53,.W),(54,.W),(55,.W),(56,.W),(45,.L),(51,.L),(52,.W),(57,.L),(58,.W),(59,.W),(60,.W)] .nil) mixed (by kernel_rfl) ?_
 intro w3 x1
 have sx1:=x1.size
 refine pu 2 rfl ?_
 obtain ⟨g1,H⟩:=guard_some H
 have h2:=(h1.ext vb).ext x1
 obtain ⟨ad1,e1,a1⟩:=kSeg_at h2 g1.1 g1.2
 refine RW.ix tk g1 e1 ?_
 refine pu 1 rfl (RW.ld tk [iv ((rd p0 va).At)] ((a1.fld 0).take 1 rfl) ?_)
 refine pu 2 rfl ?_
 have j1:=vb.tr x1
 refine RW.i 16 H (fun c2 H=>?_) fun c2 H=>?_
 refine pu 54 rfl (RW.done ?_)
 exact NW.J fun a ha=>⟨true,ha.sb,by omega,j1,H⟩
 refine pu 2 rfl ?_
 obtain ⟨g2,H⟩:=guard_some H
 obtain ⟨ad2,e2,a2⟩:=kSeg_at h2 g2.1 g2.2
 refine RW.ix tk g2 e2 ?_
 refine pu 1 rfl (RW.ld tk [iv ((rd p0 va).Len)] (a2.fld 1) ?_)
 refine pu 3 rfl (RW.i 24 H (fun c3 H=>?_) fun c3 H=>?_)
 refine pu 46 rfl (RW.done ?_)
 exact NW.J fun a ha=>⟨true,ha.sb,by omega,j1,H⟩
 refine pu 2 rfl ?_
 obtain ⟨g3,H⟩:=guard_some H
 obtain ⟨ad3,e3,a3⟩:=kSeg_at h2 g3.1 g3.2
 refine RW.ix tk g3 e3 ?_
 refine pu 1 rfl (RW.ld tk [iv ((rd p0 va).At)] ((a3.fld 0).take 1 rfl) ?_)
 refine pu 3 rfl (RW.i 32 H (fun c4 H=>?_) fun c4 H=>?_)
 refine pu 38 rfl (RW.done ?_)
 exact NW.J fun a ha=>⟨true,ha.sb,by omega,j1,H⟩
 refine pu 2 rfl ?_
 obtain ⟨g4,H⟩:=guard_some H
 obtain ⟨ad4,e4,a4⟩:=kSeg_at h2 g4.1 g4.2
 refine RW.ix tk g4 e4 ?_
 refine pu 3 rfl ?_
 obtain ⟨g5,H⟩:=guard_some H
 obtain ⟨ad5,e5,a5⟩:=kSeg_at h2 g5.1 g5.2
 refine RW.ix tk g5 e5 ?_
 refine pu 1 rfl (RW.ld tk [iv ((rd p0 va).Len)] (a4.fld 1) ?_)
 refine RW.ld tk [iv ((rd p0 va).At)] ((a5.fld 0).take 1 rfl) ?_
 refine pu 4 rfl (RW.i 46 H (fun c5 H=>?_) fun c5 H=>?_)
 refine pu 24 rfl (RW.done ?_)
 exact NW.J fun a ha=>⟨true,ha.sb,by omega,j1,H⟩
 refine pu 3 rfl (RW.i 49 H (fun c6 H=>?_) fun c6 H=>?_)
 refine pu 3 rfl ?_
 obtain ⟨g6,H⟩:=guard_some H
 obtain ⟨ad6,e6,a6⟩:=kSeg_at h2 g6.1 g6.2
 refine RW.ix tk g6 e6 ?_
 refine pu 4 rfl ?_
 obtain ⟨g7,H⟩:=guard_some H
 obtain ⟨ad7,e7,a7⟩:=kSeg_at h2 g7.1 g7.2
 refine RW.ix tk g7 e7 ?_
 refine pu 3 rfl ?_
 obtain ⟨g8,H⟩:=guard_some H
 obtain ⟨ad8,e8,a8⟩:=kSeg_at h2 g8.1 g8.2
 refine RW.ix tk g8 e8 ?_
 refine pu 1 rfl (RW.ld tk [iv ((rd p0 (w64 (va-1))).At)] ((a6.fld 0).take 1 rfl) ?_)
 refine RW.ld tk [iv ((rd p0 (w64 (va-1))).Len)] (a7.fld 1) ?_
 refine pu 1 rfl (RW.ld tk [iv ((rd p0 va).At)] ((a8.fld 0).take 1 rfl) ?_)
 refine pu 3 rfl (RW.done ?_)
 exact NW.J fun a ha=>⟨(decide (((rd p0 va).At)≤(w64 (((rd p0 (w64 (va-1))).At)+((rd p0 (w64 (va-1))).Len))))),ha.sb,by omega,j1,H⟩
 refine pu 21 rfl (RW.done ?_)
 exact NW.J fun a ha=>⟨false,ha.sb,by omega,j1,H⟩
 rintro a w2 ⟨vc,hS,hle,vd,H⟩ hp
 unfold r1_Segs.j0 at H
 refine CW.go hp hS (CW.i H (fun c7 H=>?_) fun c7 H=>?_)
 refine CW.seq (CW.lw 1 rfl (pu 1 rfl (RW.done (NW.next (CW.ret ?_)))))
 refine NW.ret_block (NW.ret_then (NW.ret_then (NW.ret_block (NW.ret_then ?_))))
 obtain rfl:=Option.some.inj H
 exact NW.r1 ⟨rfl,vd⟩
 refine CW.skip ?_
 refine NW.norm_block (NW.next ?_)
 refine CW.lw 3 rfl (pu 3 rfl (RW.done ?_))
 exact NW.J fun a ha=>⟨n1,Nat.lt_succ_self n1,(w64 (va+1)),ha.sb,by omega,vd,H⟩
 refine CW.exit ?_
 refine NW.exit_then (NW.exit_then (NW.exit_hit ?_))
 refine NW.next (CW.seq (CW.lw 1 rfl (pu 1 rfl (RW.done (NW.next (CW.ret ?_))))))
 obtain rfl:=Option.some.inj H
 exact NW.r1 ⟨rfl,vb⟩
theorem r1_Ends.calls {A1:Option Addr} {c_1:Nat} {p0:List Seg} {r:Int} {w:World} (H:r1_Ends.f p0=some r) (hs1:Sl kSeg w.heap okAll A1 p0) (hl1:p0.length≤c_1):
 Calls Tryz.prog 77 #[.slice A1 p0.length c_1] w fun e w'=>e=.returned (iv r)∧Ext w w':=by
 have h1:Sl kSeg w.heap (okL [(0,some w.heap.size,none)]) A1 p0:=hs1.old _ rfl
 have x0:Ext w w:=Upd.refl _ w
 unfold r1_Ends.f at H
 refine cst Tryz.func77 21 ?_
 refine CW.seq (CW.lw 1 rfl (pu 1 rfl (RW.done (NW.next (CW.seq (CW.seq (CW.lw 3 rfl ?_)))))))
 refine pu 3 rfl (RW.done (NW.next (CW.i H (fun c1 H=>?_) fun c1 H=>?_)))
 refine CW.seq (CW.lw 1 rfl (pu 1 rfl (RW.done (NW.next (CW.ret (NW.ret_then ?_))))))
 obtain rfl:=Option.some.inj H
 exact NW.r1 ⟨rfl,x0⟩
 refine CW.skip (NW.next (CW.seq (CW.ord [0,0,2,6,15,31,63,0,0,256,768,1920,3968,8064,16383,32767] (ofL [(0,.W),(1,.W),(2,.W),(3,.W),(4,.W),(5,.W),(7,.W),(8,.W),(9,.W),(10,.W),(11,.W),(12,.W),(6,.L),(13,.L),(14,.W),(15,.W)] .nil) mixed (by kernel_rfl) ?_)))
 intro w1 x1
 have sx1:=x1.size
 refine pu 4 rfl ?_
 obtain ⟨g1,H⟩:=guard_some H
 have h2:=h1.ext x1
 obtain ⟨ad1,e1,a1⟩:=kSeg_at h2 g1.1 g1.2
 refine RW.ix tk g1 e1 ?_
 refine pu 5 rfl ?_
 obtain ⟨g2,H⟩:=guard_some H
 obtain ⟨ad2,e2,a2⟩:=kSeg_at h2 g2.1 g2.2
 refine RW.ix tk g2 e2 ?_
 refine pu 1 rfl (RW.ld tk [iv ((rd p0 (w64 ((p0.length:Int)-1))).At)] ((a1.fld 0).take 1 rfl) ?_)
 refine RW.ld tk [iv ((rd p0 (w64 ((p0.length:Int)-1))).Len)] (a2.fld 1) ?_
 refine pu 2 rfl (RW.done (NW.next (CW.ret ?_)))
 obtain rfl:=Option.some.inj H
 have h3:=x0.tr x1
 exact NW.r1 ⟨rfl,h3⟩
theorem r7_Device.calls {k:Nat} {p0:Device} {A1:Option Addr} {c_1:Nat} {A2:Option Addr} {c_2:Nat} {r:Bool} {w:World} (H:r7_Device.f k p0=some r) (hs1:Sl kSeg w.heap okAll A1 p0.Free) (hl1:p0.Free.length≤c_1) (hs2:Sl kSeg w.heap okAll A2 p0.Late) (hl2:p0.Late.length≤c_2):
 Calls Tryz.prog 50 #[.agg #[iv p0.ID,iv p0.Size,.slice A1 p0.Free.length c_1,.slice A2 p0.Late.length c_2]] w fun e w'=>e=.returned (.bool r)∧Ext w w':=by
 have h1:Sl kSeg w.heap (okL [(0,some w.heap.size,none)]) A1 p0.Free:=hs1.old _ rfl
 have h2:Sl kSeg w.heap (okL [(0,some w.heap.size,none)]) A2 p0.Late:=hs2.old _ rfl
 have x0:Ext w w:=Upd.refl _ w
 unfold r7_Device.f at H
 refine cst Tryz.func50 46 ?_
 refine CW.seq (CW.lex [.X,.W] rfl (RW.bx fun b1 w1 x1 sx1 l1 ltb1 h3=>?_))
 refine pu 1 rfl (RW.done (NW.next (CW.seq (CW.ord [0,1,3,7,15,31,63,127,255,511,1023,2047,4095,8191,16383,32767,65535,131071,262143,524287,1048575,2097151,524287,4718591,16777215,33554431,67108863,134217727,268435455,536870911,134217727,1207959551,4294967295,8589934591,17179869183,34359738367,68719476735,34359738367,171798691839,549755813887,1099511627775,2199023255551,4398046511103,8796093022207] (ofL [(0,.W),(1,.L),(2,.X),(3,.W),(4,.W),(5,.L),(6,.X),(7,.W),(8,.W),(9,.W),(10,.L),(11,.X),(12,.W),(13,.W),(14,.W),(15,.L),(16,.X),(17,.W),(18,.W),(19,.W),(22,.W),(20,.L),(23,.L),(21,.X),(24,.W),(25,.W),(26,.W),(27,.W),(30,.W),(28,.L),(31,.L),(29,.X),(32,.W),(33,.W),(34,.W),(35,.W),(37,.W),(36,.L),(38,.L),(39,.X),(40,.W),(41,.W),(42,.W),(43,.W)] .nil) mixed (by kernel_rfl) ?_))))
 intro w2 x2
 have sx2:=x2.size
 refine pu 1 rfl ?_
 have h4:=h3.ext x2
 refine RW.lb tk [iv p0.ID] h4 0 ?_
 refine RW.cp H ent21 (fun _ h=>r0_Between.calls h) fun y1 w3 x3 sx3 H=>?_
 refine pu 1 rfl ?_
 have j1:=((x0.tr x1).tr x2).tr x3
 refine RW.i 6 H (fun c1 H=>?_) fun c1 H=>?_
 refine pu 1 rfl ?_
 have h6:=h4.ext x3
 refine RW.lb tk [iv p0.Size] h6 1 ?_
 refine RW.cp H ent21 (fun _ h=>r0_Between.calls h) fun y2 w4 x4 sx4 H=>?_
 refine pu 2 rfl ?_
 have j2:=j1.tr x4
 refine RW.i 11 H (fun c2 H=>?_) fun c2 H=>?_
 refine pu 1 rfl ?_
 have h8:=h6.ext x4
 refine RW.lb tk [.slice A1 p0.Free.length c_1] h8 2 ?_
 have h9:=(((h1.ext x1).ext x2).ext x3).ext x4
 refine RW.cp H ent76 (fun _ h=>r1_Segs.calls h h9.all hl1) fun y3 w5 x5 sx5 H=>?_
 refine pu 2 rfl ?_
 have j3:=j2.tr x5
 refine RW.i 16 H (fun c3 H=>?_) fun c3 H=>?_
 refine pu 1 rfl ?_
 have h11:=h8.ext x5
 refine RW.lb tk [.slice A2 p0.Late.length c_2] h11 3 ?_
 have h12:=((((h2.ext x1).ext x2).ext x3).ext x4).ext x5
 refine RW.cp H ent76 (fun _ h=>r1_Segs.calls h h12.all hl2) fun y4 w6 x6 sx6 H=>?_
 refine pu 2 rfl ?_
 have j4:=j3.tr x6
 refine RW.i 21 H (fun c4 H=>?_) fun c4 H=>?_
 refine pu 2 rfl ?_
 have h14:=h11.ext x6
 refine RW.lb tk [.slice A1 p0.Free.length c_1] h14 2 ?_
 refine RW.lb tk [iv p0.Size] h14 1 ?_
 have h15:=(h9.ext x5).ext x6
 refine RW.cp H ent77 (fun _ h=>r1_Ends.calls h h15.all hl1) fun y5 w7 x7 sx7 H=>?_
 refine pu 3 rfl ?_
 have j5:=j4.tr x7
 refine RW.i 29 H (fun c5 H=>?_) fun c5 H=>?_
 refine pu 2 rfl ?_
 have h17:=h14.ext x7
 refine RW.lb tk [.slice A2 p0.Late.length c_2] h17 3 ?_
 refine RW.lb tk [iv p0.Size] h17 1 ?_
 have h18:=(h12.ext x6).ext x7
 refine RW.cp H ent77 (fun _ h=>r1_Ends.calls h h18.all hl2) fun y6 w8 x8 sx8 H=>?_
 refine pu 3 rfl ?_
 have j6:=j5.tr x8
 refine RW.i 37 H (fun c6 H=>?_) fun c6 H=>?_
 refine pu 2 rfl ?_
 have h20:=h17.ext x8
 refine RW.lb tk [.slice A1 p0.Free.length c_1] h20 2 ?_
 refine RW.lb tk [.slice A2 p0.Late.length c_2] h20 3 ?_
 have h21:=(h15.ext x7).ext x8
 have h22:=h18.ext x8
 obtain ⟨y7,h23,H⟩:=bind_some H
 refine RW.cl ent70 (r1_Two.calls h23 h21.all hl1 h22.all hl2) ?_
 rintro _ w9 ⟨A3,c_3,rfl,x9,h24⟩
 refine ⟨_,rfl,x9,?_⟩
 have sx9:=x9.size
 have h25:Ow kSeg 105 w9.heap (okL [(w8.heap.size,some w9.heap.size,some 105)]) (okL []) A3 c_3 y7:=h24.close
 refine pu 4 rfl (RW.done (NW.next (CW.ret ?_)))
 obtain rfl:=Option.some.inj H
 have h26:=j6.tr x9
 exact NW.r1 ⟨rfl,h26⟩
 refine pu 9 rfl (RW.done (NW.next (CW.ret ?_)))
 obtain rfl:=Option.some.inj H
 exact NW.r1 ⟨rfl,j6⟩
 refine pu 17 rfl (RW.done (NW.next (CW.ret ?_)))
 obtain rfl:=Option.some.inj H
 exact NW.r1 ⟨rfl,j5⟩
 refine pu 25 rfl (RW.done (NW.next (CW.ret ?_)))
 obtain rfl:=Option.some.inj H
 exact NW.r1 ⟨rfl,j4⟩
 refine pu 30 rfl (RW.done (NW.next (CW.ret ?_)))
 obtain rfl:=Option.some.inj H
 exact NW.r1 ⟨rfl,j3⟩
 refine pu 35 rfl (RW.done (NW.next (CW.ret ?_)))
 obtain rfl:=Option.some.inj H
 exact NW.r1 ⟨rfl,j2⟩
 refine pu 40 rfl (RW.done (NW.next (CW.ret ?_)))
 obtain rfl:=Option.some.inj H
 exact NW.r1 ⟨rfl,j1⟩
theorem r7_Devices.calls {k:Nat} {A1:Option Addr} {c_1:Nat} {p0:List Device} {r:Bool} {w:World} (H:r7_Devices.f k p0=some r) (hs1:Sl kDeviceR w.heap okAll A1 p0) (hl1:p0.length≤c_1):
 Calls Tryz.prog 20 #[.slice A1 p0.length c_1] w fun e w'=>e=.returned (.bool r)∧Ext w w':=by
 have h1:Sl kDeviceR w.heap (okL [(0,some w.heap.size,none)]) A1 p0:=hs1.old _ rfl
 have x0:Ext w w:=Upd.refl _ w
 unfold r7_Devices.f at H
 refine cst Tryz.func20 37 ?_
 refine CW.seq (CW.lw 1 rfl (pu 1 rfl (RW.done (NW.next (CW.seq (CW.seq (CW.lw 3 rfl ?_)))))))
 refine pu 3 rfl (RW.done (NW.next (CW.i H (fun c1 H=>?_) fun c1 H=>?_)))
 refine CW.seq (CW.lw 1 rfl (pu 1 rfl (RW.done (NW.next (CW.ret (NW.ret_then ?_))))))
 obtain rfl:=Option.some.inj H
 exact NW.r1 ⟨rfl,x0⟩
 refine CW.skip (NW.next (CW.seq (CW.seq (CW.lw 1 rfl (pu 1 rfl (RW.done (NW.next ?_)))))))
 refine CW.block ?_
 refine CW.loop (fun n1 a w1=>∃(va:Int),Sat 37 [(0,.slice A1 p0.length c_1),(3,iv va)] a∧w.heap.size≤w1.heap.size∧Ext w w1∧r7_Devices.l0 p0 k n1 va=some r) k ?_ ?_
 exact fun a ha=>⟨0,ha.sb,by omega,x0,H⟩
 rintro n1 a w1 ⟨va,hS,hle,vb,H⟩ hp
 obtain _|n1:=n1
 cases H
 rw [r7_Devices.l0] at H
 refine CW.go hp hS (CW.seq (CW.seq (CW.lw 4 rfl (pu 4 rfl (RW.done (NW.next (CW.i H (fun c2 H=>?_) fun c2 H=>?_)))))))
 refine CW.skip (NW.next (CW.seq (CW.block ?_)))
 refine CW.seqJ (fun a w2=>∃(vc:Bool),Sat 37 [(0,.slice A1 p0.length c_1),(3,iv va),(36,.bool vc)] a∧w1.heap.size≤w2.heap.size∧Ext w w2∧r7_Devices.j0 va (r7_Devices.l0 p0 k n1) vc=some r) ?_ ?_
 refine CW.ord [0,0,3,7,15,31,63,127,255,511,1023,1023,3071,8191,16383,32767,1023,1023,197631,459775,984063,2097151,4194303,8388607] (ofL [(0,.W),(1,.W),(2,.W),(3,.L),(4,.X),(5,.W),(6,.W),(7,.W),(8,.W),(9,.W),(10,.W),(11,.W),(12,.W),(13,.W),(14,.W),(16,.W),(17,.W),(18,.W),(19,.W),(15,.L),(20,.L),(21,.W),(22,.W),(23,.W)] .nil) mixed (by kernel_rfl) ?_
 intro w3 x1
 have sx1:=x1.size
 refine pu 2 rfl ?_
 obtain ⟨g1,H⟩:=guard_some H
 have h2:=(h1.ext vb).ext x1
 obtain ⟨ad1,A2,c_2,A3,c_3,e1,a1,l1,h3,l2,h4⟩:=kDeviceR_at h2 g1.1 g1.2
 refine RW.ix tk g1 e1 ?_
 refine RW.ld tk _ a1 ?_
 refine RW.cp H ent50 (fun _ h=>r7_Device.calls h h3.all l1 h4.all l2) fun y1 w4 x2 sx2 H=>?_
 refine pu 2 rfl ?_
 have j1:=(vb.tr x1).tr x2
 refine RW.n 19 H (fun c3 H=>?_) fun c3 H=>?_
 refine pu 3 rfl (RW.i 22 H (fun c4 H=>?_) fun c4 H=>?_)
 refine pu 3 rfl ?_
 obtain ⟨g2,H⟩:=guard_some H
 have h6:=h2.ext x2
 obtain ⟨ad2,A4,c_4,A5,c_5,e2,a2,l3,h7,l4,h8⟩:=kDeviceR_at h6 g2.1 g2.2
 refine RW.ix tk g2 e2 ?_
 refine pu 3 rfl ?_
 obtain ⟨g3,H⟩:=guard_some H
 obtain ⟨ad3,A6,c_6,A7,c_7,e3,a3,l5,h9,l6,h10⟩:=kDeviceR_at h6 g3.1 g3.2
 refine RW.ix tk g3 e3 ?_
 refine pu 1 rfl (RW.ld tk [iv ((rd p0 (w64 (va-1))).ID)] ((a2.fld 0).take 1 rfl) ?_)
 refine RW.ld tk [iv ((rd p0 va).ID)] ((a3.fld 0).take 1 rfl) ?_
 refine pu 3 rfl (RW.done ?_)
 exact NW.J fun a ha=>⟨(decide (((rd p0 va).ID)≤((rd p0 (w64 (va-1))).ID))),ha.sb,by omega,j1,H⟩
 refine pu 14 rfl (RW.done ?_)
 exact NW.J fun a ha=>⟨false,ha.sb,by omega,j1,H⟩
 refine pu 17 rfl (RW.done ?_)
 exact NW.J fun a ha=>⟨true,ha.sb,by omega,j1,H⟩
 rintro a w2 ⟨vc,hS,hle,vd,H⟩ hp
 unfold r7_Devices.j0 at H
 refine CW.go hp hS (CW.i H (fun c5 H=>?_) fun c5 H=>?_)
 refine CW.seq (CW.lw 1 rfl (pu 1 rfl (RW.done (NW.next (CW.ret ?_)))))
 refine NW.ret_block (NW.ret_then (NW.ret_then (NW.ret_block (NW.ret_then ?_))))
 obtain rfl:=Option.some.inj H
 exact NW.r1 ⟨rfl,vd⟩
 refine CW.skip ?_
 refine NW.norm_block (NW.next ?_)
 refine CW.lw 3 rfl (pu 3 rfl (RW.done ?_))
 exact NW.J fun a ha=>⟨n1,Nat.lt_succ_self n1,(w64 (va+1)),ha.sb,by omega,vd,H⟩
 refine CW.exit ?_
 refine NW.exit_then (NW.exit_then (NW.exit_hit ?_))
 refine NW.next (CW.seq (CW.lw 1 rfl (pu 1 rfl (RW.done (NW.next (CW.ret ?_))))))
 obtain rfl:=Option.some.inj H
 exact NW.r1 ⟨rfl,vb⟩
theorem r0_Num.calls {p0:Int} {p1:Int} {r:Bool} {w:World} (H:r0_Num.f p0 p1=some r):
 Calls Tryz.prog 29 #[iv p0,iv p1] w fun e w'=>e=.returned (.bool r)∧Ext w w':=by
 have x0:Ext w w:=Upd.refl _ w
 unfold r0_Num.f at H
 refine cst Tryz.func29 12 ?_
 refine CW.seq (CW.lw 1 rfl (pu 1 rfl (RW.done (NW.next (CW.seq (CW.lw 8 rfl (pu 3 rfl ?_)))))))
 refine RW.i 7 H (fun c1 H=>?_) fun c1 H=>?_
 refine pu 5 rfl (RW.done (NW.next (CW.ret ?_)))
 obtain rfl:=Option.some.inj H
 exact NW.r1 ⟨rfl,x0⟩
 refine pu 5 rfl (RW.done (NW.next (CW.ret ?_)))
 obtain rfl:=Option.some.inj H
 exact NW.r1 ⟨rfl,x0⟩
theorem r7_Place.calls {p0:Int} {p1:Ptr} {p2:Int} {r:Bool} {w:World} (H:r7_Place.f p0 p1 p2=some r):
 Calls Tryz.prog 51 #[iv p0,.agg #[iv p1.Dev,iv p1.At],iv p2] w fun e w'=>e=.returned (.bool r)∧Ext w w':=by
 have x0:Ext w w:=Upd.refl _ w
 unfold r7_Place.f at H
 refine cst Tryz.func51 36 ?_
 refine CW.seq (CW.lex [.X,.W] rfl (RW.bx fun b1 w1 x1 sx1 l1 ltb1 h1=>?_))
 refine pu 1 rfl (RW.done (NW.next (CW.seq (CW.lex [.W,.L,.X,.W,.W,.L,.W,.W,.W,.W,.W,.L,.W,.W,.W,.W,.W,.W,.W,.W,.W,.W,.W,.W,.L,.W,.W,.W,.W,.W] rfl (pu 1 rfl (RW.lb tk [iv p1.Dev] h1 0 ?_))))))
 refine RW.cp H ent21 (fun _ h=>r0_Between.calls h) fun y1 w2 x2 sx2 H=>?_
 refine pu 1 rfl ?_
 have j1:=(x0.tr x1).tr x2
 refine RW.i 10 H (fun c1 H=>?_) fun c1 H=>?_
 refine pu 1 rfl ?_
 have h3:=h1.ext x2
 refine RW.lb tk [iv p1.Dev] h3 0 ?_
 refine pu 4 rfl (RW.n 16 H (fun c2 H=>?_) fun c2 H=>?_)
 refine pu 20 rfl (RW.done (NW.next (CW.ret ?_)))
 obtain rfl:=Option.some.inj H
 exact NW.r1 ⟨rfl,j1⟩
 refine pu 1 rfl (RW.lb tk [iv p1.At] h3 1 ?_)
 refine pu 3 rfl (RW.i 21 H (fun c3 H=>?_) fun c3 H=>?_)
 refine pu 4 rfl (RW.i 25 H (fun c4 H=>?_) fun c4 H=>?_)
 refine pu 4 rfl (RW.i 29 H (fun c5 H=>?_) fun c5 H=>?_)
 refine pu 1 rfl (RW.lb tk [iv p1.At] h3 1 ?_)
 refine pu 5 rfl (RW.done (NW.next (CW.ret ?_)))
 obtain rfl:=Option.some.inj H
 exact NW.r1 ⟨rfl,j1⟩
 refine pu 7 rfl (RW.done (NW.next (CW.ret ?_)))
 obtain rfl:=Option.some.inj H
 exact NW.r1 ⟨rfl,j1⟩
 refine pu 11 rfl (RW.done (NW.next (CW.ret ?_)))
 obtain rfl:=Option.some.inj H
 exact NW.r1 ⟨rfl,j1⟩
 refine pu 15 rfl (RW.done (NW.next (CW.ret ?_)))
 obtain rfl:=Option.some.inj H
 exact NW.r1 ⟨rfl,j1⟩
 refine pu 26 rfl (RW.done (NW.next (CW.ret ?_)))
 obtain rfl:=Option.some.inj H
 exact NW.r1 ⟨rfl,j1⟩
theorem r7_Table.calls {k:Nat} {p0:Table} {A1:Option Addr} {c_1:Nat} {r:Bool} {w:World} (H:r7_Table.f k p0=some r) (hs1:Sl kEntry w.heap okAll A1 p0.List_) (hl1:p0.List_.length≤c_1):
 Calls Tryz.prog 22 #[.agg #[iv p0.Dev,iv p0.Size,.slice A1 p0.List_.length c_1]] w fun e w'=>e=.returned (.bool r)∧Ext w w':=by
 have h1:Sl kEntry w.heap (okL [(0,some w.heap.size,none)]) A1 p0.List_:=hs1.old _ rfl
 have x0:Ext w w:=Upd.refl _ w
 unfold r7_Table.f at H
 refine cst Tryz.func22 80 ?_
 refine CW.seq (CW.lex [.X,.W] rfl (RW.bx fun b1 w1 x1 sx1 l1 ltb1 h2=>?_))
 refine pu 1 rfl (RW.done (NW.next (CW.seq ?_)))
 refine CW.seqJ (fun a w2=>∃(vc:Bool),Sat 80 [(1,.pointer (some ⟨b1,0,none⟩)),(15,.bool vc)] a∧w1.heap.size≤w2.heap.size∧Ext w w2∧Box w2.heap b1 26 [iv p0.Dev,iv p0.Size,.slice A1 p0.List_.length c_1]∧r7_Table.j0 p0 k vc=some r) ?_ ?_
 refine CW.lex [.W,.L,.X,.W,.W,.W,.L,.X,.W,.W] rfl (pu 1 rfl (RW.lb tk [iv p0.Dev] h2 0 ?_))
 refine RW.cp H ent21 (fun _ h=>r0_Between.calls h) fun y1 w3 x2 sx2 H=>?_
 refine pu 2 rfl ?_
 have j1:=h2.ext x2
 have j2:=(x0.tr x1).tr x2
 refine RW.n 10 H (fun c1 H=>?_) fun c1 H=>?_
 refine pu 1 rfl (RW.lb tk [iv p0.Size] j1 1 ?_)
 refine RW.cp H ent21 (fun _ h=>r0_Between.calls h) fun y2 w4 x3 sx3 H=>?_
 refine pu 2 rfl (RW.done ?_)
 have h6:=j2.tr x3
 have h7:=j1.ext x3
 exact NW.J fun a ha=>⟨(!y2),ha.sb,by omega,h6,h7,H⟩
 refine pu 5 rfl (RW.done ?_)
 exact NW.J fun a ha=>⟨true,ha.sb,by omega,j2,j1,H⟩
 rintro a w2 ⟨vc,hS,hle,vh,vd,H⟩ hp
 unfold r7_Table.j0 at H
 refine CW.go hp hS ?_
 have xt1:Ext w2 w2:=Upd.refl _ _
 refine CW.i H (fun c2 H=>?_) fun c2 H=>?_
 refine CW.seq (CW.lw 1 rfl (pu 1 rfl (RW.done (NW.next (CW.ret (NW.ret_then ?_))))))
 obtain rfl:=Option.some.inj H
 exact NW.r1 ⟨rfl,vh⟩
 refine CW.skip (NW.next (CW.seq (CW.lw 1 rfl (pu 1 rfl (RW.done (NW.next (CW.seq ?_)))))))
 refine CW.seq (CW.lw 1 rfl (pu 1 rfl (RW.done (NW.next (CW.block ?_)))))
 refine CW.loop (fun n1 a w5=>∃(ve:Int) (va:Int),Sat 80 [(1,.pointer (some ⟨b1,0,none⟩)),(3,iv ve),(4,iv va)] a∧w2.heap.size≤w5.heap.size∧Ext w w5∧Ext w2 w5∧r7_Table.l0 p0 n1 ve va=some r) k ?_ ?_
 exact fun a ha=>⟨0,0,ha.sb,by omega,vh,xt1,H⟩
 rintro n1 a w5 ⟨ve,va,hS,hle,vf,vb,H⟩ hp
 obtain _|n1:=n1
 cases H
 rw [r7_Table.l0] at H
 refine CW.go hp hS (CW.seq (CW.seq (CW.lex [.W,.W,.L,.W,.W] rfl (pu 2 rfl (RW.lb tk [.slice A1 p0.List_.length c_1] (vd.ext vb) 2 ?_)))))
 refine pu 2 rfl (RW.done (NW.next (CW.i H (fun c3 H=>?_) fun c3 H=>?_)))
 refine CW.skip (NW.next (CW.seq (CW.block (CW.seq (CW.lex [.W,.L,.W,.W,.L,.X,.M] rfl (pu 1 rfl (RW.lb tk [.slice A1 p0.List_.length c_1] (vd.ext vb) 2 ?_)))))))
 refine pu 1 rfl ?_
 obtain ⟨g1,H⟩:=guard_some H
 obtain ⟨ad1,e1,a1⟩:=kEntry_at (h1.ext vf) g1.1 g1.2
 refine RW.ix tk g1 e1 ?_
 refine RW.ld tk _ a1 ?_
 refine RW.al tk fun b2 w6 x4 sx4 l2 ltb2 h10=>?_
 refine RW.sf tk h10 fun w7 x5 sx5 h12=>?_
 refine RW.done (NW.next (CW.seq ?_))
 refine CW.seqJ (fun a w8=>∃(vg:Bool),Sat 80 [(1,.pointer (some ⟨b1,0,none⟩)),(4,iv va),(5,.pointer (some ⟨b2,0,none⟩)),(74,.bool vg)] a∧w7.heap.size≤w8.heap.size∧Ext w w8∧Ext w2 w8∧Box w8.heap b2 66 [iv ((rd p0.List_ va).From),iv ((rd p0.List_ va).Len),iv ((rd p0.List_ va).Dev),iv ((rd p0.List_ va).To),iv ((rd p0.List_ va).Stale)]∧r7_Table.j1 p0 va (r7_Table.l0 p0 n1) vg=some r) ?_ ?_
 refine CW.lex [.W,.L,.W,.W,.W,.W,.L,.W,.W,.W,.W,.L,.W,.L,.W,.W,.W,.W,.L,.W,.L,.W,.L,.W,.W,.W,.W,.W,.L,.W,.L,.W,.L,.W,.W,.L,.X,.W,.W,.W,.W,.L,.W,.L,.X,.W,.W] rfl (pu 1 rfl (RW.lb tk [iv ((rd p0.List_ va).From)] h12 0 ?_))
 refine pu 3 rfl ?_
 have j3:=(vf.tr x4).tB x5
 have j4:=(vb.tr x4).tB x5
 refine RW.i 32 H (fun c4 H=>?_) fun c4 H=>?_
 refine pu 42 rfl (RW.done ?_)
 exact NW.J fun a ha=>⟨true,ha.sb,by omega,j3,j4,h12,H⟩
 refine pu 1 rfl (RW.lb tk [iv ((rd p0.List_ va).Len)] h12 1 ?_)
 refine pu 3 rfl (RW.i 37 H (fun c5 H=>?_) fun c5 H=>?_)
 refine pu 37 rfl (RW.done ?_)
 exact NW.J fun a ha=>⟨true,ha.sb,by omega,j3,j4,h12,H⟩
 refine pu 1 rfl (RW.lb tk [iv ((rd p0.List_ va).Len)] h12 1 ?_)
 refine pu 1 rfl ?_
 have h17:=((vd.ext vb).ext x4).tB x5
 refine RW.lb tk [iv p0.Size] h17 1 ?_
 refine pu 3 rfl (RW.i 44 H (fun c6 H=>?_) fun c6 H=>?_)
 refine pu 30 rfl (RW.done ?_)
 exact NW.J fun a ha=>⟨true,ha.sb,by omega,j3,j4,h12,H⟩
 refine pu 1 rfl (RW.lb tk [iv ((rd p0.List_ va).From)] h12 0 ?_)
 refine pu 1 rfl (RW.lb tk [iv p0.Size] h17 1 ?_)
 refine pu 1 rfl (RW.lb tk [iv ((rd p0.List_ va).Len)] h12 1 ?_)
 refine pu 4 rfl (RW.i 54 H (fun c7 H=>?_) fun c7 H=>?_)
 refine pu 20 rfl (RW.done ?_)
 exact NW.J fun a ha=>⟨true,ha.sb,by omega,j3,j4,h12,H⟩
 refine pu 1 rfl (RW.lb tk [iv p0.Dev] h17 0 ?_)
 refine pu 1 rfl (RW.lb tk [iv ((rd p0.List_ va).Dev)] h12 2 ?_)
 refine pu 1 rfl (RW.lb tk [iv ((rd p0.List_ va).To)] h12 3 ?_)
 refine pu 2 rfl (RW.lb tk [iv ((rd p0.List_ va).Len)] h12 1 ?_)
 refine RW.cp H ent51 (fun _ h=>r7_Place.calls h) fun y3 w9 x6 sx6 H=>?_
 refine pu 3 rfl ?_
 have j5:=h12.ext x6
 have j6:=j3.tr x6
 have j7:=j4.tr x6
 refine RW.n 67 H (fun c8 H=>?_) fun c8 H=>?_
 refine pu 1 rfl (RW.lb tk [iv ((rd p0.List_ va).Stale)] j5 4 ?_)
 refine pu 1 rfl (RW.lb tk [iv ((rd p0.List_ va).Len)] j5 1 ?_)
 refine RW.cp H ent29 (fun _ h=>r0_Num.calls h) fun y4 w10 x7 sx7 H=>?_
 refine pu 2 rfl (RW.done ?_)
 have h25:=j6.tr x7
 have h26:=j7.tr x7
 have h27:=j5.ext x7
 exact NW.J fun a ha=>⟨(!y4),ha.sb,by omega,h25,h26,h27,H⟩
 refine pu 7 rfl (RW.done ?_)
 exact NW.J fun a ha=>⟨true,ha.sb,by omega,j6,j7,j5,H⟩
 rintro a w8 ⟨vg,hS,hle,vi,vk,vj,H⟩ hp
 unfold r7_Table.j1 at H
 refine CW.go hp hS ?_
 have xt2:Ext w8 w8:=Upd.refl _ _
 refine CW.i H (fun c9 H=>?_) fun c9 H=>?_
 refine CW.seq (CW.lw 1 rfl (pu 1 rfl (RW.done (NW.next (CW.ret ?_)))))
 refine NW.ret_then (NW.ret_block (NW.ret_then (NW.ret_then (NW.ret_block (NW.ret_then ?_)))))
 obtain rfl:=Option.some.inj H
 exact NW.r1 ⟨rfl,vi⟩
 refine CW.skip (NW.next (CW.lex [.W,.L,.W,.L,.W,.W] rfl (pu 1 rfl (RW.lb tk [iv ((rd p0.List_ va).From)] vj 0 ?_))))
 refine pu 1 rfl (RW.lb tk [iv ((rd p0.List_ va).Len)] vj 1 ?_)
 refine pu 2 rfl (RW.done ?_)
 refine NW.norm_block (NW.next ?_)
 refine CW.lw 3 rfl (pu 3 rfl (RW.done ?_))
 exact NW.J fun a ha=>⟨n1,Nat.lt_succ_self n1,(w64 (((rd p0.List_ va).From)+((rd p0.List_ va).Len))),(w64 (va+1)),ha.sb,by omega,vi,vk,H⟩
 refine CW.exit ?_
 refine NW.exit_then (NW.exit_then (NW.exit_hit ?_))
 refine NW.next (CW.seq (CW.lw 1 rfl (pu 1 rfl (RW.done (NW.next (CW.ret ?_))))))
 obtain rfl:=Option.some.inj H
 exact NW.r1 ⟨rfl,vf⟩
theorem r7_At.calls {k:Nat} {A1:Option Addr} {c_1:Nat} {p0:List Device} {p1:Int} {r:Int} {w:World} (H:r7_At.f k p0 p1=some r) (hs1:Sl kDeviceR w.heap okAll A1 p0) (hl1:p0.length≤c_1):
 Calls Tryz.prog 23 #[.slice A1 p0.length c_1,iv p1] w fun e w'=>e=.returned (iv r)∧Ext w w':=by
 have h1:Sl kDeviceR w.heap (okL [(0,some w.heap.size,none)]) A1 p0:=hs1.old _ rfl
 have x0:Ext w w:=Upd.refl _ w
 unfold r7_At.f at H
 refine cst Tryz.func23 20 ?_
 refine CW.seq (CW.lw 1 rfl (pu 1 rfl (RW.done (NW.next (CW.seq (CW.seq (CW.lw 1 rfl ?_)))))))
 refine pu 1 rfl (RW.done (NW.next (CW.block ?_)))
 refine CW.loop (fun n1 a w1=>∃(va:Int),Sat 20 [(0,.slice A1 p0.length c_1),(1,iv p1),(5,iv va)] a∧w.heap.size≤w1.heap.size∧Ext w w1∧r7_At.l0 p0 p1 n1 va=some r) k ?_ ?_
 exact fun a ha=>⟨0,ha.sb,by omega,x0,H⟩
 rintro n1 a w1 ⟨va,hS,hle,vb,H⟩ hp
 obtain _|n1:=n1
 cases H
 rw [r7_At.l0] at H
 refine CW.go hp hS (CW.seq (CW.seq (CW.lw 4 rfl (pu 4 rfl (RW.done (NW.next (CW.i H (fun c1 H=>?_) fun c1 H=>?_)))))))
 refine CW.skip (NW.next (CW.seq (CW.block (CW.seq (CW.lex [.W,.W,.W,.W,.L,.W,.W] rfl (pu 2 rfl ?_))))))
 obtain ⟨g1,H⟩:=guard_some H
 obtain ⟨ad1,A2,c_2,A3,c_3,e1,a1,l1,h2,l2,h3⟩:=kDeviceR_at (h1.ext vb) g1.1 g1.2
 refine RW.ix tk g1 e1 ?_
 refine pu 1 rfl (RW.ld tk [iv ((rd p0 va).ID)] ((a1.fld 0).take 1 rfl) ?_)
 refine pu 2 rfl (RW.done (NW.next (CW.i H (fun c2 H=>?_) fun c2 H=>?_)))
 refine CW.seq (CW.lw 2 rfl (pu 2 rfl (RW.done (NW.next (CW.ret ?_)))))
 refine NW.ret_block (NW.ret_then (NW.ret_then (NW.ret_block (NW.ret_then ?_))))
 obtain rfl:=Option.some.inj H
 exact NW.r1 ⟨rfl,vb⟩
 refine CW.skip ?_
 refine NW.norm_block (NW.next ?_)
 refine CW.lw 3 rfl (pu 3 rfl (RW.done ?_))
 exact NW.J fun a ha=>⟨n1,Nat.lt_succ_self n1,(w64 (va+1)),ha.sb,by omega,vb,H⟩
 refine CW.exit ?_
 refine NW.exit_then (NW.exit_then (NW.exit_hit ?_))
 refine NW.next (CW.seq (CW.lw 1 rfl (pu 1 rfl (RW.done (NW.next (CW.ret ?_))))))
 obtain rfl:=Option.some.inj H
 exact NW.r1 ⟨rfl,vb⟩
theorem r9_Table.calls {k:Nat} {p0:Pool} {A1:Option Addr} {c_1:Nat} {A2:Option Addr} {c_2:Nat} {A3:Option Addr} {c_3:Nat} {p1:Int} {r:Int} {w:World} (H:r9_Table.f k p0 p1=some r) (hs1:Sl kDeviceR w.heap okAll A1 p0.Devices) (hl1:p0.Devices.length≤c_1) (hs2:Sl kTableR w.heap okAll A2 p0.Tables) (hl2:p0.Tables.length≤c_2) (hs3:Sl kEntry w.heap okAll A3 p0.Job.Table.List_) (hl3:p0.Job.Table.List_.length≤c_3):
 Calls Tryz.prog 24 #[.agg #[.slice A1 p0.Devices.length c_1,.slice A2 p0.Tables.length c_2,iv p0.Job.Dev,iv p0.Job.At,iv p0.Job.Table.Dev,iv p0.Job.Table.Size,.slice A3 p0.Job.Table.List_.length c_3,iv p0.Next],iv p1] w fun e w'=>e=.returned (iv r)∧Ext w w':=by
 have h1:Sl kDeviceR w.heap (okL [(0,some w.heap.size,none)]) A1 p0.Devices:=hs1.old _ rfl
 have h2:Sl kTableR w.heap (okL [(0,some w.heap.size,none)]) A2 p0.Tables:=hs2.old _ rfl
 have h3:Sl kEntry w.heap (okL [(0,some w.heap.size,none)]) A3 p0.Job.Table.List_:=hs3.old _ rfl
 have x0:Ext w w:=Upd.refl _ w
 unfold r9_Table.f at H
 refine cst Tryz.func24 22 ?_
 refine CW.seq (CW.lex [.X,.W] rfl (RW.bx fun b1 w1 x1 sx1 l1 ltb1 h4=>?_))
 refine pu 1 rfl (RW.done (NW.next (CW.seq (CW.seq (CW.lw 1 rfl (pu 1 rfl (RW.done ?_)))))))
 refine NW.next (CW.block ?_)
 refine CW.loop (fun n1 a w2=>∃(va:Int),Sat 22 [(1,iv p1),(2,.pointer (some ⟨b1,0,none⟩)),(5,iv va)] a∧w1.heap.size≤w2.heap.size∧Ext w w2∧Box w2.heap b1 30 [.slice A1 p0.Devices.length c_1,.slice A2 p0.Tables.length c_2,iv p0.Job.Dev,iv p0.Job.At,iv p0.Job.Table.Dev,iv p0.Job.Table.Size,.slice A3 p0.Job.Table.List_.length c_3,iv p0.Next]∧r9_Table.l0 p0 p1 n1 va=some r) k ?_ ?_
 have h5:=x0.tr x1
 exact fun a ha=>⟨0,ha.sb,by omega,h5,h4,H⟩
 rintro n1 a w2 ⟨va,hS,hle,vb,vc,H⟩ hp
 obtain _|n1:=n1
 cases H
 rw [r9_Table.l0] at H
 refine CW.go hp hS ?_
 have xt1:Ext w2 w2:=Upd.refl _ _
 refine CW.seq (CW.seq (CW.lex [.W,.W,.L,.W,.W] rfl (pu 2 rfl (RW.lb tk [.slice A2 p0.Tables.length c_2] vc 1 ?_))))
 refine pu 2 rfl (RW.done (NW.next (CW.i H (fun c1 H=>?_) fun c1 H=>?_)))
 refine CW.skip (NW.next (CW.seq (CW.block (CW.seq (CW.lex [.W,.L,.W,.W,.W,.L,.W,.W] rfl (pu 1 rfl (RW.lb tk [.slice A2 p0.Tables.length c_2] vc 1 ?_)))))))
 refine pu 1 rfl ?_
 obtain ⟨g1,H⟩:=guard_some H
 obtain ⟨ad1,A4,c_4,e1,a1,l2,h6⟩:=kTableR_at (h2.ext vb) g1.1 g1.2
 refine RW.ix tk g1 e1 ?_
 refine pu 1 rfl (RW.ld tk [iv ((rd p0.Tables va).Dev)] ((a1.fld 0).take 1 rfl) ?_)
 refine pu 2 rfl (RW.done (NW.next (CW.i H (fun c2 H=>?_) fun c2 H=>?_)))
 refine CW.seq (CW.lw 2 rfl (pu 2 rfl (RW.done (NW.next (CW.ret ?_)))))
 refine NW.ret_block (NW.ret_then (NW.ret_then (NW.ret_block (NW.ret_then ?_))))
 obtain rfl:=Option.some.inj H
 exact NW.r1 ⟨rfl,vb⟩
 refine CW.skip ?_
 refine NW.norm_block (NW.next ?_)
 refine CW.lw 3 rfl (pu 3 rfl (RW.done ?_))
 exact NW.J fun a ha=>⟨n1,Nat.lt_succ_self n1,(w64 (va+1)),ha.sb,by omega,vb,vc,H⟩
 refine CW.exit ?_
 refine NW.exit_then (NW.exit_then (NW.exit_hit ?_))
 refine NW.next (CW.seq (CW.lw 1 rfl (pu 1 rfl (RW.done (NW.next (CW.ret ?_))))))
 obtain rfl:=Option.some.inj H
 exact NW.r1 ⟨rfl,vb⟩
theorem r9_round.calls {k:Nat} {p0:Pool} {A1:Option Addr} {c_1:Nat} {A2:Option Addr} {c_2:Nat} {A3:Option Addr} {c_3:Nat} {r:Bool} {w:World} (H:r9_round.f k p0=some r) (hs1:Sl kDeviceR w.heap okAll A1 p0.Devices) (hl1:p0.Devices.length≤c_1) (hs2:Sl kTableR w.heap okAll A2 p0.Tables) (hl2:p0.Tables.length≤c_2) (hs3:Sl kEntry w.heap okAll A3 p0.Job.Table.List_) (hl3:p0.Job.Table.List_.length≤c_3):
 Calls Tryz.prog 25 #[.agg #[.slice A1 p0.Devices.length c_1,.slice A2 p0.Tables.length c_2,iv p0.Job.Dev,iv p0.Job.At,iv p0.Job.Table.Dev,iv p0.Job.Table.Size,.slice A3 p0.Job.Table.List_.length c_3,iv p0.Next]] w fun e w'=>e=.returned (.bool r)∧Ext w w':=by
 have h1:Sl kDeviceR w.heap (okL [(0,some w.heap.size,none)]) A1 p0.Devices:=hs1.old _ rfl
 have h2:Sl kTableR w.heap (okL [(0,some w.heap.size,none)]) A2 p0.Tables:=hs2.old _ rfl
 have h3:Sl kEntry w.heap (okL [(0,some w.heap.size,none)]) A3 p0.Job.Table.List_:=hs3.old _ rfl
 have x0:Ext w w:=Upd.refl _ w
 unfold r9_round.f at H
 refine cst Tryz.func25 75 ?_
 refine CW.seq (CW.lex [.X,.W] rfl (RW.bx fun b1 w1 x1 sx1 l1 ltb1 h4=>?_))
 refine pu 1 rfl (RW.done (NW.next (CW.seq (CW.lex [.W,.L,.W,.X,.W] rfl (pu 1 rfl (RW.lb tk [.slice A2 p0.Tables.length c_2] h4 1 ?_))))))
 refine pu 1 rfl ?_
 obtain ⟨g1,H⟩:=guard_some H
 refine RW.makeSlice (d:=Kd.bool) (z0:=false) tk g1.1 g1.2 (.inl rfl) ⟨rfl,rfl,rfl,rfl⟩ rfl rfl rfl rfl rfl rfl (fun _=>rfl) rfl rfl ?_
 intro b2 w2 x2 l2 h5
 have sx2:=x2.size
 refine pu 1 rfl (RW.done (NW.next (CW.seq (CW.seq (CW.lw 1 rfl (pu 1 rfl (RW.done ?_)))))))
 refine NW.next (CW.block ?_)
 refine CW.loop (fun n1 a w3=>∃(vd:List Bool) (vn:Bool),Sat 75 [(1,.pointer (some ⟨b1,0,none⟩)),(3,.slice (some ⟨b2,0,none⟩) vd.length ((p0.Tables.length:Int).toNat)),(4,.bool vn)] a∧w2.heap.size≤w3.heap.size∧Ow Kd.bool 4 w3.heap (okL [(w1.heap.size,some w2.heap.size,some 4)]) (okL []) (some ⟨b2,0,none⟩) ((p0.Tables.length:Int).toNat) vd∧Ext w w3∧vd.length=(List.replicate (p0.Tables.length:Int).toNat false).length∧Box w3.heap b1 30 [.slice A1 p0.Devices.length c_1,.slice A2 p0.Tables.length c_2,iv p0.Job.Dev,iv p0.Job.At,iv p0.Job.Table.Dev,iv p0.Job.Table.Size,.slice A3 p0.Job.Table.List_.length c_3,iv p0.Next]∧r9_round.l0 p0 k n1 vd vn=some r) k ?_ ?_
 have h6:=(x0.tr x1).tr x2
 have h7:=h4.ext x2
 exact fun a ha=>⟨(List.replicate (p0.Tables.length:Int).toNat false),true,ha.sb,by omega,(h5.sb),h6,(by (try simp only [List.length_set]) <;>omega),h7,H⟩
 rintro n1 a w3 ⟨vd,vn,hS,hle,vr,vs,vA,vu,H⟩ hp
 obtain _|n1:=n1
 cases H
 rw [r9_round.l0] at H
 refine CW.go hp hS ?_
 have xt1:Ext w3 w3:=Upd.refl _ _
 refine CW.seq (CW.seq (CW.lw 1 rfl (pu 1 rfl (RW.done (NW.next (CW.i H (fun c1 H=>?_) fun c1 H=>?_))))))
 refine CW.skip (NW.next (CW.block (CW.seq (CW.lw 1 rfl (pu 1 rfl (RW.done (NW.next ?_)))))))
 refine CW.seq (CW.lw 1 rfl (pu 1 rfl (RW.done (NW.next (CW.block ?_)))))
 refine CW.loop (fun n2 a w4=>∃(va:List Bool) (vc:Bool) (vb:Int),Sat 75 [(1,.pointer (some ⟨b1,0,none⟩)),(3,.slice (some ⟨b2,0,none⟩) va.length ((p0.Tables.length:Int).toNat)),(4,.bool vc),(5,iv vb)] a∧w3.heap.size≤w4.heap.size∧Ow Kd.bool 4 w4.heap (okL [(w1.heap.size,some w2.heap.size,some 4)]) (okL []) (some ⟨b2,0,none⟩) ((p0.Tables.length:Int).toNat) va∧Ext w w4∧va.length=vd.length∧Box w4.heap b1 30 [.slice A1 p0.Devices.length c_1,.slice A2 p0.Tables.length c_2,iv p0.Job.Dev,iv p0.Job.At,iv p0.Job.Table.Dev,iv p0.Job.Table.Size,.slice A3 p0.Job.Table.List_.length c_3,iv p0.Next]∧r9_round.l1 p0 k (r9_round.l0 p0 k n1) n2 va vc vb=some r) k ?_ ?_
 exact fun a ha=>⟨vd,false,0,ha.sb,by omega,(vr.sb),vs,(by (try simp only [List.length_set]) <;>omega),vu,H⟩
 rintro n2 a w4 ⟨va,vc,vb,hS,hle,vf,vo,vB,vg,H⟩ hp
 obtain _|n2:=n2
 cases H
 rw [r9_round.l1] at H
 refine CW.go hp hS ?_
 have xt2:Ext w4 w4:=Upd.refl _ _
 refine CW.seq (CW.seq (CW.lex [.W,.W,.L,.W,.W] rfl (pu 2 rfl (RW.lb tk [.slice A2 p0.Tables.length c_2] vg 1 ?_))))
 refine pu 2 rfl (RW.done (NW.next (CW.i H (fun c2 H=>?_) fun c2 H=>?_)))
 refine CW.skip (NW.next ?_)
 refine CW.seqJ (fun a w5=>∃(vj:List Bool) (vk:Bool),Sat 75 [(1,.pointer (some ⟨b1,0,none⟩)),(3,.slice (some ⟨b2,0,none⟩) vj.length ((p0.Tables.length:Int).toNat)),(4,.bool vk),(5,iv vb)] a∧w4.heap.size≤w5.heap.size∧Ow Kd.bool 4 w5.heap (okL [(w1.heap.size,some w2.heap.size,some 4)]) (okL []) (some ⟨b2,0,none⟩) ((p0.Tables.length:Int).toNat) vj∧Ext w w5∧vj.length=va.length∧Box w5.heap b1 30 [.slice A1 p0.Devices.length c_1,.slice A2 p0.Tables.length c_2,iv p0.Job.Dev,iv p0.Job.At,iv p0.Job.Table.Dev,iv p0.Job.Table.Size,.slice A3 p0.Job.Table.List_.length c_3,iv p0.Next]∧r9_round.j0 vb (r9_round.l1 p0 k (r9_round.l0 p0 k n1) n2) vj vk=some r) ?_ ?_
 refine CW.block (CW.seq (CW.seq (CW.lex [.W,.W,.W,.L] rfl (pu 2 rfl ?_))))
 obtain ⟨g2,H⟩:=guard_some H
 obtain ⟨ad1,e1,a1⟩:=at_bool vf.slL g2.1 g2.2
 refine RW.ix tk g2 e1 ?_
 refine RW.ld tk _ a1 ?_
 refine RW.done (NW.next (CW.i H (fun c3 H=>?_) fun c3 H=>?_))
 refine CW.exit ?_
 refine NW.exit_then (NW.exit_hit ?_)
 exact NW.J fun a ha=>⟨va,vc,ha.sb,by omega,(vf.sb),vo,(by (try simp only [List.length_set]) <;>omega),vg,H⟩
 refine CW.skip (NW.next (CW.seq (CW.lw 1 rfl (pu 1 rfl (RW.done (NW.next (CW.seq ?_)))))))
 refine CW.seq (CW.lw 1 rfl (pu 1 rfl (RW.done (NW.next (CW.block ?_)))))
 refine CW.loop (fun n3 a w6=>∃(vp:Bool) (vh:Int),Sat 75 [(1,.pointer (some ⟨b1,0,none⟩)),(3,.slice (some ⟨b2,0,none⟩) va.length ((p0.Tables.length:Int).toNat)),(4,.bool vc),(5,iv vb),(6,.bool vp),(7,iv vh)] a∧w4.heap.size≤w6.heap.size∧Ext w w6∧Ext w4 w6∧r9_round.l2 p0 k vc vb va (r9_round.l1 p0 k (r9_round.l0 p0 k n1) n2) n3 vp vh=some r) k ?_ ?_
 exact fun a ha=>⟨true,0,ha.sb,by omega,vo,xt2,H⟩
 rintro n3 a w6 ⟨vp,vh,hS,hle,vi,ve,H⟩ hp
 obtain _|n3:=n3
 cases H
 rw [r9_round.l2] at H
 refine CW.go hp hS (CW.seq (CW.seq (CW.lex [.W,.W,.L,.W,.W,.W,.L,.W,.W] rfl (pu 2 rfl (RW.lb tk [.slice A2 p0.Tables.length c_2] (vg.ext ve) 1 ?_)))))
 refine pu 1 rfl ?_
 obtain ⟨g3,H⟩:=guard_some H
 obtain ⟨ad2,A4,c_4,e2,a2,l3,h8⟩:=kTableR_at (h2.ext vi) g3.1 g3.2
 refine RW.ix tk g3 e2 ?_
 refine pu 1 rfl (RW.ld tk [.slice A4 ((rd p0.Tables vb).List_).length c_4] (a2.fld 2) ?_)
 refine pu 2 rfl (RW.done (NW.next (CW.i H (fun c4 H=>?_) fun c4 H=>?_)))
 refine CW.skip (NW.next ?_)
 refine CW.seqJ (fun a w7=>∃(vl:Bool),Sat 75 [(1,.pointer (some ⟨b1,0,none⟩)),(3,.slice (some ⟨b2,0,none⟩) va.length ((p0.Tables.length:Int).toNat)),(4,.bool vc),(5,iv vb),(6,.bool vl),(7,iv vh)] a∧w6.heap.size≤w7.heap.size∧Ext w w7∧Ext w4 w7∧r9_round.j1 vh (r9_round.l2 p0 k vc vb va (r9_round.l1 p0 k (r9_round.l0 p0 k n1) n2) n3) vl=some r) ?_ ?_
 refine CW.block (CW.seq (CW.ord [0,0,2,0,14,30,62,0,254,510,1022,2047,4095] (ofL [(1,.W),(3,.W),(7,.W),(0,.L),(2,.L),(4,.W),(5,.W),(6,.L),(8,.W),(9,.W),(10,.L),(11,.X),(12,.W)] .nil) mixed (by kernel_rfl) ?_))
 intro w8 x3
 have sx3:=x3.size
 refine pu 3 rfl ?_
 have h9:=(vg.ext ve).ext x3
 refine RW.lw tk h9 ?_
 refine RW.lb tk [.slice A2 p0.Tables.length c_2] h9 1 ?_
 obtain ⟨g4,H⟩:=guard_some H
 have h10:=(h2.ext vi).ext x3
 obtain ⟨ad3,A5,c_5,e3,a3,l4,h11⟩:=kTableR_at h10 g4.1 g4.2
 refine RW.ix tk g4 e3 ?_
 refine pu 1 rfl (RW.ld tk [.slice A5 ((rd p0.Tables vb).List_).length c_5] (a3.fld 2) ?_)
 obtain ⟨g5,H⟩:=guard_some H
 obtain ⟨ad4,e4,a4⟩:=kEntry_at h11 g5.1 g5.2
 refine RW.ix tk g5 e4 ?_
 refine pu 1 rfl (RW.ld tk [iv ((rd ((rd p0.Tables vb).List_) vh).Dev)] ((a4.fld 2).take 1 rfl) ?_)
 have h12:=(h1.ext vi).ext x3
 have h13:=(h3.ext vi).ext x3
 refine RW.cp H ent24 (fun _ h=>r9_Table.calls h h12.all hl1 h10.all hl2 h13.all hl3) fun y1 w9 x4 sx4 H=>?_
 refine pu 1 rfl (RW.done (NW.next (CW.lex [.W,.W,.W,.W,.W,.W,.W,.W,.L,.W,.W,.W] rfl (pu 2 rfl ?_))))
 have j1:=(vi.tr x3).tr x4
 have j2:=(ve.tr x3).tr x4
 refine RW.i 50 H (fun c5 H=>?_) fun c5 H=>?_
 refine pu 3 rfl (RW.i 53 H (fun c6 H=>?_) fun c6 H=>?_)
 refine pu 7 rfl (RW.done (NW.norm_block ?_))
 exact NW.J fun a ha=>⟨true,ha.sb,by omega,j1,j2,H⟩
 refine pu 2 rfl ?_
 obtain ⟨g6,H⟩:=guard_some H
 have h17:=((vf.ext ve).ext x3).ext x4
 obtain ⟨ad5,e5,a5⟩:=at_bool h17.slL g6.1 g6.2
 refine RW.ix tk g6 e5 ?_
 refine RW.ld tk _ a5 ?_
 refine pu 3 rfl (RW.done (NW.norm_block ?_))
 exact NW.J fun a ha=>⟨(rd va y1),ha.sb,by omega,j1,j2,H⟩
 refine pu 10 rfl (RW.done (NW.norm_block ?_))
 exact NW.J fun a ha=>⟨false,ha.sb,by omega,j1,j2,H⟩
 rintro a w7 ⟨vl,hS,hle,vv,vw,H⟩ hp
 unfold r9_round.j1 at H
 refine CW.go hp hS (CW.lw 3 rfl (pu 3 rfl (RW.done ?_)))
 exact NW.J fun a ha=>⟨n3,Nat.lt_succ_self n3,vl,(w64 (vh+1)),ha.sb,by omega,vv,vw,H⟩
 refine CW.exit ?_
 refine NW.exit_then (NW.exit_then (NW.exit_hit ?_))
 refine NW.next (CW.seq (CW.lw 1 rfl (pu 1 rfl (RW.done (NW.next (CW.i H (fun c7 H=>?_) fun c7 H=>?_))))))
 refine CW.lex [.W,.W,.W,.M,.W] rfl (pu 2 rfl ?_)
 obtain ⟨g7,H⟩:=guard_some H
 obtain ⟨ad6,e6,a6⟩:=at_bool ((vf.ext ve).slL) g7.1 g7.2
 refine RW.ix tk g7 e6 ?_
 refine RW.storeElL0 (y:=true) (lv:=[]) tk (vf.ext ve) (j:=vb.toNat) (by have:=g7;omega) default [.bool true] (fun cs ok' hr=>by cases hr;exact ⟨by simp,rfl⟩) trivial ⟨rfl,rfl,rfl⟩ rfl rfl e6 rfl rfl rfl rfl rfl ?_
 intro w10 x5 h22
 have sx5:=x5.size
 have h23:=h22.sub (l':=[(w1.heap.size,some w2.heap.size,some 4)]) (li':=[]) ⟨(.inl ⟨by omega,by omega,rfl⟩),trivial⟩ trivial
 refine RW.tell 3 (v':=.slice (some ⟨b2,0,none⟩) (va.set vb.toNat true).length ((p0.Tables.length:Int).toNat)) (by simp only [List.length_set]) rfl (pu 1 rfl (RW.done (NW.norm_block ?_)))
 have h24:=Ext.turn vi x5 ⟨by omega,trivial⟩
 have h25:=(vg.ext ve).tL x5
 exact NW.J fun a ha=>⟨(va.set vb.toNat true),true,ha.sb,by omega,(h23.sb),h24,(by (try simp only [List.length_set]) <;>omega),h25,H⟩
 refine CW.skip (NW.norm_block ?_)
 exact NW.J fun a ha=>⟨va,vc,ha.sb,by omega,((vf.ext ve).sb),vi,(by (try simp only [List.length_set]) <;>omega),(vg.ext ve),H⟩
 rintro a w5 ⟨vj,vk,hS,hle,vx,vy,vC,vz,H⟩ hp
 unfold r9_round.j0 at H
 refine CW.go hp hS ?_
 have xt3:Ext w5 w5:=Upd.refl _ _
 refine CW.lw 3 rfl (pu 3 rfl (RW.done ?_))
 exact NW.J fun a ha=>⟨n2,Nat.lt_succ_self n2,vj,vk,(w64 (vb+1)),ha.sb,by omega,(vx.sb),vy,(by (try simp only [List.length_set]) <;>omega),vz,H⟩
 refine CW.exit ?_
 refine NW.exit_then (NW.exit_then (NW.exit_hit ?_))
 refine NW.norm_block ?_
 exact NW.J fun a ha=>⟨n1,Nat.lt_succ_self n1,va,vc,ha.sb,by omega,(vf.sb),vo,(by (try simp only [List.length_set]) <;>omega),vg,H⟩
 refine CW.exit ?_
 refine NW.exit_then (NW.exit_then (NW.exit_hit ?_))
 refine NW.next (CW.seq (CW.seq (CW.lw 1 rfl (pu 1 rfl (RW.done (NW.next (CW.block ?_)))))))
 refine CW.loop (fun n4 a w11=>∃(vm:Int),Sat 75 [(3,.slice (some ⟨b2,0,none⟩) vd.length ((p0.Tables.length:Int).toNat)),(9,iv vm)] a∧w3.heap.size≤w11.heap.size∧Ext w w11∧Ext w3 w11∧r9_round.l3 vd n4 vm=some r) k ?_ ?_
 exact fun a ha=>⟨0,ha.sb,by omega,vs,xt1,H⟩
 rintro n4 a w11 ⟨vm,hS,hle,vq,vt,H⟩ hp
 obtain _|n4:=n4
 cases H
 rw [r9_round.l3] at H
 refine CW.go hp hS (CW.seq (CW.seq (CW.lw 4 rfl (pu 4 rfl (RW.done (NW.next (CW.i H (fun c8 H=>?_) fun c8 H=>?_)))))))
 refine CW.skip (NW.next (CW.seq (CW.block (CW.seq (CW.lex [.W,.W,.W,.L,.W] rfl (pu 2 rfl ?_))))))
 obtain ⟨g8,H⟩:=guard_some H
 obtain ⟨ad7,e7,a7⟩:=at_bool ((vr.ext vt).slL) g8.1 g8.2
 refine RW.ix tk g8 e7 ?_
 refine RW.ld tk _ a7 ?_
 refine pu 1 rfl (RW.done (NW.next (CW.n H (fun c9 H=>?_) fun c9 H=>?_)))
 refine CW.skip ?_
 refine NW.norm_block (NW.next ?_)
 refine CW.lw 3 rfl (pu 3 rfl (RW.done ?_))
 exact NW.J fun a ha=>⟨n4,Nat.lt_succ_self n4,(w64 (vm+1)),ha.sb,by omega,vq,vt,H⟩
 refine CW.seq (CW.lw 1 rfl (pu 1 rfl (RW.done (NW.next (CW.ret ?_)))))
 refine NW.ret_block (NW.ret_then (NW.ret_then (NW.ret_block (NW.ret_then ?_))))
 obtain rfl:=Option.some.inj H
 exact NW.r1 ⟨rfl,vq⟩
 refine CW.exit ?_
 refine NW.exit_then (NW.exit_then (NW.exit_hit ?_))
 refine NW.next (CW.seq (CW.lw 1 rfl (pu 1 rfl (RW.done (NW.next (CW.ret ?_))))))
 obtain rfl:=Option.some.inj H
 exact NW.r1 ⟨rfl,vq⟩
theorem r0_EqEntries.calls {k:Nat} {A1:Option Addr} {c_1:Nat} {p0:List Entry} {A2:Option Addr} {c_2:Nat} {p1:List Entry} {r:Bool} {w:World} (H:r0_EqEntries.f k p0 p1=some r) (hs1:Sl kEntry w.heap okAll A1 p0) (hl1:p0.length≤c_1) (hs2:Sl kEntry w.heap okAll A2 p1) (hl2:p1.length≤c_2):
 Calls Tryz.prog 66 #[.slice A1 p0.length c_1,.slice A2 p1.length c_2] w fun e w'=>e=.returned (.bool r)∧Ext w w':=by
 have h1:Sl kEntry w.heap (okL [(0,some w.heap.size,none)]) A1 p0:=hs1.old _ rfl
 have h2:Sl kEntry w.heap (okL [(0,some w.heap.size,none)]) A2 p1:=hs2.old _ rfl
 have x0:Ext w w:=Upd.refl _ w
 unfold r0_EqEntries.f at H
 refine cst Tryz.func66 26 ?_
 refine CW.seq (CW.lw 1 rfl (pu 1 rfl (RW.done (NW.next (CW.seq (CW.seq (CW.lw 5 rfl ?_)))))))
 refine pu 5 rfl (RW.done (NW.next (CW.n H (fun c1 H=>?_) fun c1 H=>?_)))
 refine CW.skip (NW.next (CW.seq (CW.seq (CW.lw 1 rfl (pu 1 rfl (RW.done (NW.next ?_)))))))
 refine CW.block ?_
 refine CW.loop (fun n1 a w1=>∃(va:Int),Sat 26 [(0,.slice A1 p0.length c_1),(1,.slice A2 p1.length c_2),(5,iv va)] a∧w.heap.size≤w1.heap.size∧Ext w w1∧r0_EqEntries.l0 p0 p1 n1 va=some r) k ?_ ?_
 exact fun a ha=>⟨0,ha.sb,by omega,x0,H⟩
 rintro n1 a w1 ⟨va,hS,hle,vb,H⟩ hp
 obtain _|n1:=n1
 cases H
 rw [r0_EqEntries.l0] at H
 refine CW.go hp hS (CW.seq (CW.seq (CW.lw 4 rfl (pu 4 rfl (RW.done (NW.next (CW.i H (fun c2 H=>?_) fun c2 H=>?_)))))))
 refine CW.skip (NW.next (CW.seq (CW.block (CW.seq (CW.ord [0,0,3,7,0,0,48,112,255] (ofL [(0,.W),(1,.W),(2,.W),(4,.W),(5,.W),(6,.W),(3,.L),(7,.L),(8,.W)] .nil) mixed (by kernel_rfl) ?_)))))
 intro w2 x1
 have sx1:=x1.size
 refine pu 2 rfl ?_
 obtain ⟨g1,H⟩:=guard_some H
 have h3:=(h1.ext vb).ext x1
 obtain ⟨ad1,e1,a1⟩:=kEntry_at h3 g1.1 g1.2
 refine RW.ix tk g1 e1 ?_
 refine pu 2 rfl ?_
 obtain ⟨g2,H⟩:=guard_some H
 have h4:=(h2.ext vb).ext x1
 obtain ⟨ad2,e2,a2⟩:=kEntry_at h4 g2.1 g2.2
 refine RW.ix tk g2 e2 ?_
 refine RW.ld tk _ a1 ?_
 refine RW.ld tk _ a2 ?_
 refine RW.eqAgg eqgEntry (eqEntry (rd p0 va) (rd p1 va)) ⟨rfl,rfl,rfl,rfl⟩ rfl rfl rfl rfl (RW.done (NW.next ?_))
 have j1:=vb.tr x1
 refine CW.n H (fun c3 H=>?_) fun c3 H=>?_
 refine CW.skip ?_
 refine NW.norm_block (NW.next ?_)
 refine CW.lw 3 rfl (pu 3 rfl (RW.done ?_))
 exact NW.J fun a ha=>⟨n1,Nat.lt_succ_self n1,(w64 (va+1)),ha.sb,by omega,j1,H⟩
 refine CW.seq (CW.lw 1 rfl (pu 1 rfl (RW.done (NW.next (CW.ret ?_)))))
 refine NW.ret_block (NW.ret_then (NW.ret_then (NW.ret_block (NW.ret_then ?_))))
 obtain rfl:=Option.some.inj H
 exact NW.r1 ⟨rfl,j1⟩
 refine CW.exit ?_
 refine NW.exit_then (NW.exit_then (NW.exit_hit ?_))
 refine NW.next (CW.seq (CW.lw 1 rfl (pu 1 rfl (RW.done (NW.next (CW.ret ?_))))))
 obtain rfl:=Option.some.inj H
 exact NW.r1 ⟨rfl,vb⟩
 refine CW.seq (CW.lw 1 rfl (pu 1 rfl (RW.done (NW.next (CW.ret (NW.ret_then ?_))))))
 obtain rfl:=Option.some.inj H
 exact NW.r1 ⟨rfl,x0⟩
theorem r0_EqTable.calls {k:Nat} {p0:Table} {A1:Option Addr} {c_1:Nat} {p1:Table} {A2:Option Addr} {c_2:Nat} {r:Bool} {w:World} (H:r0_EqTable.f k p0 p1=some r) (hs1:Sl kEntry w.heap okAll A1 p0.List_) (hl1:p0.List_.length≤c_1) (hs2:Sl kEntry w.heap okAll A2 p1.List_) (hl2:p1.List_.length≤c_2):
 Calls Tryz.prog 43 #[.agg #[iv p0.Dev,iv p0.Size,.slice A1 p0.List_.length c_1],.agg #[iv p1.Dev,iv p1.Size,.slice A2 p1.List_.length c_2]] w fun e w'=>e=.returned (.bool r)∧Ext w w':=by
 have h1:Sl kEntry w.heap (okL [(0,some w.heap.size,none)]) A1 p0.List_:=hs1.old _ rfl
 have h2:Sl kEntry w.heap (okL [(0,some w.heap.size,none)]) A2 p1.List_:=hs2.old _ rfl
 have x0:Ext w w:=Upd.refl _ w
 unfold r0_EqTable.f at H
 refine cst Tryz.func43 24 ?_
 refine CW.seq (CW.lex [.X,.X,.W] rfl (RW.bx fun b1 w1 x1 sx1 l1 ltb1 h3=>?_))
 refine RW.bx fun b2 w2 x2 sx2 l2 ltb2 h4=>?_
 refine pu 1 rfl (RW.done (NW.next (CW.seq (CW.lex [.W,.L,.W,.L,.W,.W,.W,.L,.W,.L,.W,.W,.W,.W,.L,.W,.L,.X,.W,.W] rfl (pu 1 rfl ?_)))))
 have h5:=h3.ext x2
 refine RW.lb tk [iv p0.Dev] h5 0 ?_
 refine pu 1 rfl (RW.lb tk [iv p1.Dev] h4 0 ?_)
 refine pu 2 rfl ?_
 have j1:=(x0.tr x1).tr x2
 refine RW.i 10 H (fun c1 H=>?_) fun c1 H=>?_
 refine pu 1 rfl (RW.lb tk [iv p0.Size] h5 1 ?_)
 refine pu 1 rfl (RW.lb tk [iv p1.Size] h4 1 ?_)
 refine pu 3 rfl (RW.i 17 H (fun c2 H=>?_) fun c2 H=>?_)
 refine pu 1 rfl (RW.lb tk [.slice A1 p0.List_.length c_1] h5 2 ?_)
 refine pu 1 rfl (RW.lb tk [.slice A2 p1.List_.length c_2] h4 2 ?_)
 have h6:=(h1.ext x1).ext x2
 have h7:=(h2.ext x1).ext x2
 refine RW.cp H ent66 (fun _ h=>r0_EqEntries.calls h h6.all hl1 h7.all hl2) fun y1 w3 x3 sx3 H=>?_
 refine pu 2 rfl (RW.done (NW.next (CW.ret ?_)))
 obtain rfl:=Option.some.inj H
 have h9:=j1.tr x3
 exact NW.r1 ⟨rfl,h9⟩
 refine pu 7 rfl (RW.done (NW.next (CW.ret ?_)))
 obtain rfl:=Option.some.inj H
 exact NW.r1 ⟨rfl,j1⟩
 refine pu 14 rfl (RW.done (NW.next (CW.ret ?_)))
 obtain rfl:=Option.some.inj H
 exact NW.r1 ⟨rfl,j1⟩
theorem r7_End.calls {p0:Table} {A1:Option Addr} {c_1:Nat} {r:Int} {w:World} (H:r7_End.f p0=some r) (hs1:Sl kEntry w.heap okAll A1 p0.List_) (hl1:p0.List_.length≤c_1):
 Calls Tryz.prog 52 #[.agg #[iv p0.Dev,iv p0.Size,.slice A1 p0.List_.length c_1]] w fun e w'=>e=.returned (iv r)∧Ext w w':=by
 have h1:Sl kEntry w.heap (okL [(0,some w.heap.size,none)]) A1 p0.List_:=hs1.old _ rfl
 have x0:Ext w w:=Upd.refl _ w
 unfold r7_End.f at H
 refine cst Tryz.func52 21 ?_
 refine CW.seq (CW.lex [.X,.W] rfl (RW.bx fun b1 w1 x1 sx1 l1 ltb1 h2=>?_))
 refine pu 1 rfl (RW.done (NW.next (CW.seq (CW.seq (CW.lex [.W,.L,.W,.W] rfl (pu 1 rfl (RW.lb tk [.slice A1 p0.List_.length c_1] h2 2 ?_)))))))
 refine pu 2 rfl (RW.done (NW.next ?_))
 have j1:=x0.tr x1
 refine CW.i H (fun c1 H=>?_) fun c1 H=>?_
 refine CW.seq (CW.lw 1 rfl (pu 1 rfl (RW.done (NW.next (CW.ret (NW.ret_then ?_))))))
 obtain rfl:=Option.some.inj H
 exact NW.r1 ⟨rfl,j1⟩
 refine CW.skip (NW.next (CW.seq (CW.lex [.W,.L,.W,.L,.W,.W,.W,.L,.X,.M] rfl (pu 1 rfl (RW.lb tk [.slice A1 p0.List_.length c_1] h2 2 ?_)))))
 refine pu 1 rfl (RW.lb tk [.slice A1 p0.List_.length c_1] h2 2 ?_)
 refine pu 2 rfl ?_
 obtain ⟨g1,H⟩:=guard_some H
 have h4:=h1.ext x1
 obtain ⟨ad1,e1,a1⟩:=kEntry_at h4 g1.1 g1.2
 refine RW.ix tk g1 e1 ?_
 refine RW.ld tk _ a1 ?_
 refine RW.al tk fun b2 w2 x2 sx2 l2 ltb2 h5=>?_
 refine RW.sf tk h5 fun w3 x3 sx3 h7=>?_
 refine RW.done (NW.next (CW.seq (CW.lex [.W,.L,.W,.L,.W,.W] rfl (pu 1 rfl (RW.lb tk [iv ((rd p0.List_ (w64 ((p0.List_.length:Int)-1))).From)] h7 0 ?_)))))
 refine pu 1 rfl (RW.lb tk [iv ((rd p0.List_ (w64 ((p0.List_.length:Int)-1))).Len)] h7 1 ?_)
 refine pu 2 rfl (RW.done (NW.next (CW.ret ?_)))
 obtain rfl:=Option.some.inj H
 have h8:=(j1.tr x2).tB x3
 exact NW.r1 ⟨rfl,h8⟩
theorem r9_job.calls {k:Nat} {p0:Pool} {A1:Option Addr} {c_1:Nat} {A2:Option Addr} {c_2:Nat} {A3:Option Addr} {c_3:Nat} {r:Bool} {w:World} (H:r9_job.f k p0=some r) (hs1:Sl kDeviceR w.heap okAll A1 p0.Devices) (hl1:p0.Devices.length≤c_1) (hs2:Sl kTableR w.heap okAll A2 p0.Tables) (hl2:p0.Tables.length≤c_2) (hs3:Sl kEntry w.heap okAll A3 p0.Job.Table.List_) (hl3:p0.Job.Table.List_.length≤c_3):
 Calls Tryz.prog 26 #[.agg #[.slice A1 p0.Devices.length c_1,.slice A2 p0.Tables.length c_2,iv p0.Job.Dev,iv p0.Job.At,iv p0.Job.Table.Dev,iv p0.Job.Table.Size,.slice A3 p0.Job.Table.List_.length c_3,iv p0.Next]] w fun e w'=>e=.returned (.bool r)∧Ext w w':=by
 have h1:Sl kDeviceR w.heap (okL [(0,some w.heap.size,none)]) A1 p0.Devices:=hs1.old _ rfl
 have h2:Sl kTableR w.heap (okL [(0,some w.heap.size,none)]) A2 p0.Tables:=hs2.old _ rfl
 have h3:Sl kEntry w.heap (okL [(0,some w.heap.size,none)]) A3 p0.Job.Table.List_:=hs3.old _ rfl
 have x0:Ext w w:=Upd.refl _ w
 unfold r9_job.f at H
 refine cst Tryz.func26 93 ?_
 refine CW.seq (CW.lex [.X,.W] rfl (RW.bx fun b1 w1 x1 sx1 l1 ltb1 h4=>?_))
 refine pu 1 rfl (RW.done (NW.next (CW.seq (CW.lex [.W,.L,.X,.M] rfl (pu 1 rfl (RW.lb tk [iv p0.Job.Dev,iv p0.Job.At,iv p0.Job.Table.Dev,iv p0.Job.Table.Size,.slice A3 p0.Job.Table.List_.length c_3] h4 2 ?_))))))
 refine RW.al tk fun b2 w2 x2 sx2 l2 ltb2 h5=>?_
 refine RW.sf tk h5 fun w3 x3 sx3 h7=>?_
 refine RW.done (NW.next (CW.seq (CW.seq (CW.lex [.W,.L,.W] rfl (pu 1 rfl (RW.lb tk [iv p0.Job.Dev] h7 0 ?_))))))
 refine pu 1 rfl (RW.done (NW.next ?_))
 have j1:=(h3.ext x1).ext x2
 have j2:=((x0.tr x1).tr x2).tB x3
 refine CW.i H (fun c1 H=>?_) fun c1 H=>?_
 refine CW.seq (CW.lex [.W,.L,.W,.W,.W,.L,.W,.X,.W,.W] rfl (pu 1 rfl (RW.lb tk [iv p0.Job.At] h7 1 ?_)))
 refine pu 2 rfl (RW.i 14 H (fun c2 H=>?_) fun c2 H=>?_)
 refine pu 1 rfl (RW.lb tk [iv p0.Job.Table.Dev,iv p0.Job.Table.Size,.slice A3 p0.Job.Table.List_.length c_3] h7 2 ?_)
 refine pu 1 rfl ?_
 have h8:=j1.turnB x3 h5 ⟨.inr (by omega),trivial⟩
 refine RW.cp H ent43 (fun _ h=>r0_EqTable.calls h h8.all hl3 Sl.nil (Nat.le_refl 0)) fun y1 w4 x4 sx4 H=>?_
 refine pu 2 rfl (RW.done (NW.next (CW.ret (NW.ret_then ?_))))
 obtain rfl:=Option.some.inj H
 have h10:=j2.tr x4
 exact NW.r1 ⟨rfl,h10⟩
 refine pu 6 rfl (RW.done (NW.next (CW.ret (NW.ret_then ?_))))
 obtain rfl:=Option.some.inj H
 exact NW.r1 ⟨rfl,j2⟩
 refine CW.skip (NW.next (CW.seq (CW.lex [.W,.L,.W,.L,.X,.W] rfl (pu 1 rfl ?_))))
 have h12:=(h4.ext x2).tB x3
 refine RW.lb tk [.slice A1 p0.Devices.length c_1] h12 0 ?_
 refine pu 1 rfl (RW.lb tk [iv p0.Job.Dev] h7 0 ?_)
 have h13:=((h1.ext x1).ext x2).turnB x3 h5 ⟨.inr (by omega),trivial⟩
 refine RW.cp H ent23 (fun _ h=>r7_At.calls h h13.all hl1) fun y2 w5 x5 sx5 H=>?_
 refine pu 1 rfl (RW.done (NW.next (CW.seq ?_)))
 refine CW.seqJ (fun a w6=>∃(vd:Bool),Sat 93 [(1,.pointer (some ⟨b1,0,none⟩)),(3,.pointer (some ⟨b2,0,none⟩)),(73,.bool vd)] a∧w5.heap.size≤w6.heap.size∧Ext w w6∧Box w6.heap b1 30 [.slice A1 p0.Devices.length c_1,.slice A2 p0.Tables.length c_2,iv p0.Job.Dev,iv p0.Job.At,iv p0.Job.Table.Dev,iv p0.Job.Table.Size,.slice A3 p0.Job.Table.List_.length c_3,iv p0.Next]∧Box w6.heap b2 28 [iv p0.Job.Dev,iv p0.Job.At,iv p0.Job.Table.Dev,iv p0.Job.Table.Size,.slice A3 p0.Job.Table.List_.length c_3]∧r9_job.j0 p0 k vd=some r) ?_ ?_
 refine CW.ord [0,1,3,7,15,7,39,7,231,487,999,2023,4095,8191,16383,32767,65535,131071,262143,524287,1048575,2097151,4194303,8388607,16777215,4194303,37748735,134217727,268435455,536870911,1073741823,2147483647,4294967295,1073741823,9663676415,1073741823,61203283967,129922760703,267361714175,549755813887,1099511627775,2199023255551,4398046511103,8796093022207,17592186044415,4398046511103,39582418599935,140737488355327,281474976710655] (ofL [(0,.W),(1,.W),(2,.W),(3,.W),(5,.W),(7,.W),(4,.L),(6,.L),(8,.W),(9,.W),(10,.L),(11,.W),(12,.X),(13,.W),(14,.W),(15,.W),(16,.W),(17,.L),(18,.X),(19,.W),(20,.W),(21,.W),(22,.W),(23,.W),(25,.W),(24,.L),(26,.L),(27,.W),(28,.W),(29,.W),(30,.W),(31,.W),(33,.W),(35,.W),(32,.L),(34,.L),(36,.W),(37,.W),(38,.L),(39,.W),(40,.W),(41,.W),(42,.W),(45,.W),(43,.L),(46,.L),(44,.X),(47,.W),(48,.W)] .nil) mixed (by kernel_rfl) ?_
 intro w7 x6
 have sx6:=x6.size
 refine pu 3 rfl ?_
 have j3:=(j2.tr x5).tr x6
 have j4:=(h12.ext x5).ext x6
 have j5:=(h7.ext x5).ext x6
 refine RW.i 27 H (fun c3 H=>?_) fun c3 H=>?_
 refine pu 46 rfl (RW.done ?_)
 exact NW.J fun a ha=>⟨true,ha.sb,by omega,j3,j4,j5,H⟩
 refine pu 3 rfl (RW.lb tk [iv p0.Job.At] j5 1 ?_)
 refine RW.lb tk [.slice A1 p0.Devices.length c_1] j4 0 ?_
 obtain ⟨g1,H⟩:=guard_some H
 have h20:=(h13.ext x5).ext x6
 obtain ⟨ad1,A4,c_4,A5,c_5,e1,a1,l3,h21,l4,h22⟩:=kDeviceR_at h20 g1.1 g1.2
 refine RW.ix tk g1 e1 ?_
 refine pu 1 rfl (RW.ld tk [iv ((rd p0.Devices y2).Size)] ((a1.fld 1).take 1 rfl) ?_)
 refine pu 1 rfl (RW.cp H ent29 (fun _ h=>r0_Num.calls h) fun y3 w8 x7 sx7 H=>?_)
 refine pu 3 rfl ?_
 have j6:=j5.ext x7
 have j7:=j4.ext x7
 have j8:=j3.tr x7
 refine RW.n 40 H (fun c4 H=>?_) fun c4 H=>?_
 refine pu 1 rfl (RW.lb tk [iv p0.Job.Table.Dev,iv p0.Job.Table.Size,.slice A3 p0.Job.Table.List_.length c_3] j6 2 ?_)
 have h25:=(((j1.turnB x3 h5 ⟨.inr (by omega),trivial⟩).ext x5).ext x6).ext x7
 refine RW.cp H ent22 (fun _ h=>r7_Table.calls h h25.all hl3) fun y4 w9 x8 sx8 H=>?_
 refine pu 3 rfl ?_
 have j9:=j6.ext x8
 have j10:=j7.ext x8
 have j11:=j8.tr x8
 refine RW.n 46 H (fun c5 H=>?_) fun c5 H=>?_
 refine pu 3 rfl (RW.lb tk [iv p0.Job.Table.Dev] j9 2 ?_)
 refine RW.lb tk [iv p0.Job.Dev] j9 0 ?_
 refine pu 3 rfl (RW.n 54 H (fun c6 H=>?_) fun c6 H=>?_)
 refine pu 4 rfl (RW.lb tk [iv p0.Job.Table.Size] j9 3 ?_)
 refine RW.lb tk [.slice A1 p0.Devices.length c_1] j10 0 ?_
 obtain ⟨g2,H⟩:=guard_some H
 have h29:=(h20.ext x7).ext x8
 obtain ⟨ad2,A6,c_6,A7,c_7,e2,a2,l5,h30,l6,h31⟩:=kDeviceR_at h29 g2.1 g2.2
 refine RW.ix tk g2 e2 ?_
 refine pu 1 rfl (RW.ld tk [iv ((rd p0.Devices y2).Size)] ((a2.fld 1).take 1 rfl) ?_)
 refine pu 3 rfl (RW.n 66 H (fun c7 H=>?_) fun c7 H=>?_)
 refine pu 2 rfl (RW.lb tk [iv p0.Job.Table.Dev,iv p0.Job.Table.Size,.slice A3 p0.Job.Table.List_.length c_3] j9 2 ?_)
 refine RW.lb tk [iv p0.Job.At] j9 1 ?_
 have h32:=h25.ext x8
 refine RW.cp H ent52 (fun _ h=>r7_End.calls h h32.all hl3) fun y5 w10 x9 sx9 H=>?_
 refine pu 2 rfl (RW.done ?_)
 have h34:=j11.tr x9
 have h35:=j10.ext x9
 have h36:=j9.ext x9
 exact NW.J fun a ha=>⟨(decide (p0.Job.At<y5)),ha.sb,by omega,h34,h35,h36,H⟩
 refine pu 7 rfl (RW.done ?_)
 exact NW.J fun a ha=>⟨true,ha.sb,by omega,j11,j10,j9,H⟩
 refine pu 19 rfl (RW.done ?_)
 exact NW.J fun a ha=>⟨true,ha.sb,by omega,j11,j10,j9,H⟩
 refine pu 27 rfl (RW.done ?_)
 exact NW.J fun a ha=>⟨true,ha.sb,by omega,j11,j10,j9,H⟩
 refine pu 33 rfl (RW.done ?_)
 exact NW.J fun a ha=>⟨true,ha.sb,by omega,j8,j7,j6,H⟩
 rintro a w6 ⟨vd,hS,hle,ve,vg,vf,H⟩ hp
 unfold r9_job.j0 at H
 refine CW.go hp hS ?_
 have xt1:Ext w6 w6:=Upd.refl _ _
 refine CW.i H (fun c8 H=>?_) fun c8 H=>?_
 refine CW.seq (CW.lw 1 rfl (pu 1 rfl (RW.done (NW.next (CW.ret (NW.ret_then ?_))))))
 obtain rfl:=Option.some.inj H
 exact NW.r1 ⟨rfl,ve⟩
 refine CW.skip (NW.next (CW.seq (CW.seq (CW.lw 1 rfl (pu 1 rfl (RW.done (NW.next ?_)))))))
 refine CW.block ?_
 refine CW.loop (fun n1 a w11=>∃(va:Int),Sat 93 [(1,.pointer (some ⟨b1,0,none⟩)),(3,.pointer (some ⟨b2,0,none⟩)),(5,iv va)] a∧w6.heap.size≤w11.heap.size∧Ext w w11∧Ext w6 w11∧r9_job.l0 p0 k n1 va=some r) k ?_ ?_
 exact fun a ha=>⟨0,ha.sb,by omega,ve,xt1,H⟩
 rintro n1 a w11 ⟨va,hS,hle,vb,vc,H⟩ hp
 obtain _|n1:=n1
 cases H
 rw [r9_job.l0] at H
 refine CW.go hp hS (CW.seq (CW.seq (CW.lex [.W,.W,.W,.L,.W,.W] rfl (pu 3 rfl (RW.lb tk [.slice A3 p0.Job.Table.List_.length c_3] (vf.ext vc) 4 ?_)))))
 refine pu 2 rfl (RW.done (NW.next (CW.i H (fun c9 H=>?_) fun c9 H=>?_)))
 refine CW.skip (NW.next (CW.seq (CW.block (CW.seq (CW.ord [0,1,0,4,12,0,60,124,252,511,1023] (ofL [(0,.W),(2,.W),(3,.W),(5,.W),(1,.L),(4,.L),(6,.W),(7,.W),(8,.L),(9,.X),(10,.W)] .nil) mixed (by kernel_rfl) ?_)))))
 intro w12 x10
 have sx10:=x10.size
 refine pu 4 rfl ?_
 have h46:=(vg.ext vc).ext x10
 refine RW.lb tk [.slice A1 p0.Devices.length c_1] h46 0 ?_
 have h47:=(vf.ext vc).ext x10
 refine RW.lb tk [.slice A3 p0.Job.Table.List_.length c_3] h47 4 ?_
 obtain ⟨g3,H⟩:=guard_some H
 have h48:=(h3.ext vb).ext x10
 obtain ⟨ad3,e3,a3⟩:=kEntry_at h48 g3.1 g3.2
 refine RW.ix tk g3 e3 ?_
 refine pu 1 rfl (RW.ld tk [iv ((rd p0.Job.Table.List_ va).Dev)] ((a3.fld 2).take 1 rfl) ?_)
 have h49:=(h1.ext vb).ext x10
 refine RW.cp H ent23 (fun _ h=>r7_At.calls h h49.all hl1) fun y6 w13 x11 sx11 H=>?_
 refine pu 1 rfl (RW.done (NW.next ?_))
 have j12:=(vb.tr x10).tr x11
 refine CW.i H (fun c10 H=>?_) fun c10 H=>?_
 refine CW.seq (CW.lw 1 rfl (pu 1 rfl (RW.done (NW.next (CW.ret ?_)))))
 refine NW.ret_block (NW.ret_then (NW.ret_then (NW.ret_block (NW.ret_then ?_))))
 obtain rfl:=Option.some.inj H
 exact NW.r1 ⟨rfl,j12⟩
 refine CW.skip ?_
 refine NW.norm_block (NW.next ?_)
 refine CW.lw 3 rfl (pu 3 rfl (RW.done ?_))
 have h53:=(vc.tr x10).tr x11
 exact NW.J fun a ha=>⟨n1,Nat.lt_succ_self n1,(w64 (va+1)),ha.sb,by omega,j12,h53,H⟩
 refine CW.exit ?_
 refine NW.exit_then (NW.exit_then (NW.exit_hit ?_))
 refine NW.next (CW.seq (CW.lw 1 rfl (pu 1 rfl (RW.done (NW.next (CW.ret ?_))))))
 obtain rfl:=Option.some.inj H
 exact NW.r1 ⟨rfl,vb⟩
theorem r9_Pool.calls {k:Nat} {p0:Pool} {A1:Option Addr} {c_1:Nat} {A2:Option Addr} {c_2:Nat} {A3:Option Addr} {c_3:Nat} {r:Bool} {w:World} (H:r9_Pool.f k p0=some r) (hs1:Sl kDeviceR w.heap okAll A1 p0.Devices) (hl1:p0.Devices.length≤c_1) (hs2:Sl kTableR w.heap okAll A2 p0.Tables) (hl2:p0.Tables.length≤c_2) (hs3:Sl kEntry w.heap okAll A3 p0.Job.Table.List_) (hl3:p0.Job.Table.List_.length≤c_3):
 Calls Tryz.prog 8 #[.agg #[.slice A1 p0.Devices.length c_1,.slice A2 p0.Tables.length c_2,iv p0.Job.Dev,iv p0.Job.At,iv p0.Job.Table.Dev,iv p0.Job.Table.Size,.slice A3 p0.Job.Table.List_.length c_3,iv p0.Next]] w fun e w'=>e=.returned (.bool r)∧Ext w w':=by
 have h1:Sl kDeviceR w.heap (okL [(0,some w.heap.size,none)]) A1 p0.Devices:=hs1.old _ rfl
 have h2:Sl kTableR w.heap (okL [(0,some w.heap.size,none)]) A2 p0.Tables:=hs2.old _ rfl
 have h3:Sl kEntry w.heap (okL [(0,some w.heap.size,none)]) A3 p0.Job.Table.List_:=hs3.old _ rfl
 have x0:Ext w w:=Upd.refl _ w
 unfold r9_Pool.f at H
 refine cst Tryz.func8 162 ?_
 refine CW.seq (CW.lex [.X,.W] rfl (RW.bx fun b1 w1 x1 sx1 l1 ltb1 h4=>?_))
 refine pu 1 rfl (RW.done (NW.next (CW.seq ?_)))
 refine CW.seqJ (fun a w2=>∃(vo:Bool),Sat 162 [(1,.pointer (some ⟨b1,0,none⟩)),(37,.bool vo)] a∧w1.heap.size≤w2.heap.size∧Ext w w2∧Box w2.heap b1 30 [.slice A1 p0.Devices.length c_1,.slice A2 p0.Tables.length c_2,iv p0.Job.Dev,iv p0.Job.At,iv p0.Job.Table.Dev,iv p0.Job.Table.Size,.slice A3 p0.Job.Table.List_.length c_3,iv p0.Next]∧r9_Pool.j0 p0 k vo=some r) ?_ ?_
 refine CW.lex [.W,.L,.X,.W,.W,.W,.L,.W,.W,.W,.W,.W,.W,.L,.W,.W,.W,.L,.W,.W,.W,.W,.W,.W,.L,.X,.W,.W] rfl (pu 1 rfl (RW.lb tk [.slice A1 p0.Devices.length c_1] h4 0 ?_))
 have h5:=h1.ext x1
 refine RW.cp H ent20 (fun _ h=>r7_Devices.calls h h5.all hl1) fun y1 w3 x2 sx2 H=>?_
 refine pu 2 rfl ?_
 have j1:=h4.ext x2
 have j2:=(x0.tr x1).tr x2
 refine RW.n 14 H (fun c1 H=>?_) fun c1 H=>?_
 refine pu 1 rfl (RW.lb tk [.slice A2 p0.Tables.length c_2] j1 1 ?_)
 refine pu 4 rfl (RW.i 20 H (fun c2 H=>?_) fun c2 H=>?_)
 refine pu 17 rfl (RW.done ?_)
 exact NW.J fun a ha=>⟨true,ha.sb,by omega,j2,j1,H⟩
 refine pu 2 rfl (RW.lb tk [iv p0.Job.Dev] j1 2 ?_)
 refine pu 2 rfl (RW.n 25 H (fun c3 H=>?_) fun c3 H=>?_)
 refine pu 8 rfl (RW.lb tk [iv p0.Next] j1 7 ?_)
 refine RW.cp H ent21 (fun _ h=>r0_Between.calls h) fun y2 w4 x3 sx3 H=>?_
 refine pu 2 rfl (RW.done ?_)
 have h10:=j2.tr x3
 have h11:=j1.ext x3
 exact NW.J fun a ha=>⟨(!y2),ha.sb,by omega,h10,h11,H⟩
 refine pu 1 rfl (RW.lb tk [.slice A2 p0.Tables.length c_2] j1 1 ?_)
 refine pu 5 rfl (RW.i 32 H (fun c4 H=>?_) fun c4 H=>?_)
 refine pu 5 rfl (RW.done ?_)
 exact NW.J fun a ha=>⟨true,ha.sb,by omega,j2,j1,H⟩
 refine pu 1 rfl (RW.lb tk [iv p0.Next] j1 7 ?_)
 refine RW.cp H ent21 (fun _ h=>r0_Between.calls h) fun y3 w5 x4 sx4 H=>?_
 refine pu 2 rfl (RW.done ?_)
 have h14:=j2.tr x4
 have h15:=j1.ext x4
 exact NW.J fun a ha=>⟨(!y3),ha.sb,by omega,h14,h15,H⟩
 refine pu 23 rfl (RW.done ?_)
 exact NW.J fun a ha=>⟨true,ha.sb,by omega,j2,j1,H⟩
 rintro a w2 ⟨vo,hS,hle,vs,vb,H⟩ hp
 unfold r9_Pool.j0 at H
 refine CW.go hp hS ?_
 have xt1:Ext w2 w2:=Upd.refl _ _
 refine CW.i H (fun c5 H=>?_) fun c5 H=>?_
 refine CW.seq (CW.lw 1 rfl (pu 1 rfl (RW.done (NW.next (CW.ret (NW.ret_then ?_))))))
 obtain rfl:=Option.some.inj H
 exact NW.r1 ⟨rfl,vs⟩
 refine CW.skip (NW.next (CW.seq (CW.lw 1 rfl (pu 1 rfl (RW.done (NW.next (CW.seq ?_)))))))
 refine CW.seq (CW.lw 1 rfl (pu 1 rfl (RW.done (NW.next (CW.block ?_)))))
 refine CW.loop (fun n1 a w6=>∃(va:Int) (vf:Int),Sat 162 [(1,.pointer (some ⟨b1,0,none⟩)),(3,iv va),(4,iv vf)] a∧w2.heap.size≤w6.heap.size∧Ext w w6∧Ext w2 w6∧r9_Pool.l0 p0 k n1 va vf=some r) k ?_ ?_
 exact fun a ha=>⟨0,0,ha.sb,by omega,vs,xt1,H⟩
 rintro n1 a w6 ⟨va,vf,hS,hle,vp,vl,H⟩ hp
 obtain _|n1:=n1
 cases H
 rw [r9_Pool.l0] at H
 refine CW.go hp hS (CW.seq (CW.seq (CW.lex [.W,.W,.L,.W,.W] rfl (pu 2 rfl (RW.lb tk [.slice A1 p0.Devices.length c_1] (vb.ext vl) 0 ?_)))))
 refine pu 2 rfl (RW.done (NW.next (CW.i H (fun c6 H=>?_) fun c6 H=>?_)))
 refine CW.skip (NW.next ?_)
 refine CW.seqJ (fun a w7=>∃(vm:Int),Sat 162 [(1,.pointer (some ⟨b1,0,none⟩)),(3,iv vm),(4,iv vf)] a∧w6.heap.size≤w7.heap.size∧Ext w w7∧Ext w2 w7∧r9_Pool.j1 vf (r9_Pool.l0 p0 k n1) vm=some r) ?_ ?_
 refine CW.block (CW.seq (CW.seq (CW.ord [0,1,0,7,15,31,0,64,255] (ofL [(0,.W),(2,.W),(6,.W),(1,.L),(3,.W),(4,.W),(5,.L),(7,.L),(8,.W)] .nil) mixed (by kernel_rfl) ?_)))
 intro w8 x5
 have sx5:=x5.size
 refine pu 3 rfl ?_
 have h18:=(vb.ext vl).ext x5
 refine RW.lb tk [.slice A1 p0.Devices.length c_1] h18 0 ?_
 obtain ⟨g1,H⟩:=guard_some H
 have h19:=(h1.ext vp).ext x5
 obtain ⟨ad1,A4,c_4,A5,c_5,e1,a1,l2,h20,l3,h21⟩:=kDeviceR_at h19 g1.1 g1.2
 refine RW.ix tk g1 e1 ?_
 refine pu 1 rfl (RW.ld tk [iv ((rd p0.Devices vf).ID)] ((a1.fld 0).take 1 rfl) ?_)
 refine RW.lb tk [iv p0.Next] h18 7 ?_
 refine pu 1 rfl (RW.done (NW.next ?_))
 have j3:=vp.tr x5
 refine CW.i H (fun c7 H=>?_) fun c7 H=>?_
 refine CW.seq (CW.lw 1 rfl (pu 1 rfl (RW.done (NW.next (CW.ret ?_)))))
 refine NW.ret_then (NW.ret_block (NW.ret_then (NW.ret_then (NW.ret_block (NW.ret_then ?_)))))
 obtain rfl:=Option.some.inj H
 exact NW.r1 ⟨rfl,j3⟩
 refine CW.skip (NW.next (CW.seq (CW.ord [0,1,0,7,15,31,0,64,192,511] (ofL [(0,.W),(2,.W),(6,.W),(7,.W),(1,.L),(3,.W),(4,.W),(5,.L),(8,.L),(9,.W)] .nil) mixed (by kernel_rfl) ?_)))
 intro w9 x6
 have sx6:=x6.size
 refine pu 4 rfl ?_
 have h23:=h18.ext x6
 refine RW.lb tk [.slice A1 p0.Devices.length c_1] h23 0 ?_
 obtain ⟨g2,H⟩:=guard_some H
 have h24:=h19.ext x6
 obtain ⟨ad2,A6,c_6,A7,c_7,e2,a2,l4,h25,l5,h26⟩:=kDeviceR_at h24 g2.1 g2.2
 refine RW.ix tk g2 e2 ?_
 refine pu 1 rfl (RW.ld tk [iv ((rd p0.Devices vf).ID)] ((a2.fld 0).take 1 rfl) ?_)
 refine RW.lb tk [iv p0.Job.Dev] h23 2 ?_
 refine pu 1 rfl (RW.done (NW.next ?_))
 have j4:=j3.tr x6
 have j5:=(vl.tr x5).tr x6
 refine CW.n H (fun c8 H=>?_) fun c8 H=>?_
 refine CW.skip (NW.norm_block ?_)
 exact NW.J fun a ha=>⟨va,ha.sb,by omega,j4,j5,H⟩
 refine CW.lw 3 rfl (pu 3 rfl (RW.done (NW.norm_block ?_)))
 exact NW.J fun a ha=>⟨(w64 (va+1)),ha.sb,by omega,j4,j5,H⟩
 rintro a w7 ⟨vm,hS,hle,vv,vw,H⟩ hp
 unfold r9_Pool.j1 at H
 refine CW.go hp hS (CW.lw 3 rfl (pu 3 rfl (RW.done ?_)))
 exact NW.J fun a ha=>⟨n1,Nat.lt_succ_self n1,vm,(w64 (vf+1)),ha.sb,by omega,vv,vw,H⟩
 refine CW.exit ?_
 refine NW.exit_then (NW.exit_then (NW.exit_hit ?_))
 refine NW.next (CW.seq (CW.seq (CW.lw 1 rfl (pu 1 rfl (RW.done (NW.next (CW.block ?_)))))))
 refine CW.loop (fun n2 a w10=>∃(vc:Int),Sat 162 [(1,.pointer (some ⟨b1,0,none⟩)),(3,iv va),(5,iv vc)] a∧w6.heap.size≤w10.heap.size∧Ext w w10∧Ext w2 w10∧r9_Pool.l1 p0 k va n2 vc=some r) k ?_ ?_
 exact fun a ha=>⟨0,ha.sb,by omega,vp,vl,H⟩
 rintro n2 a w10 ⟨vc,hS,hle,vj,vk,H⟩ hp
 obtain _|n2:=n2
 cases H
 rw [r9_Pool.l1] at H
 refine CW.go hp hS (CW.seq (CW.seq (CW.lex [.W,.W,.L,.W,.W] rfl (pu 2 rfl (RW.lb tk [.slice A2 p0.Tables.length c_2] (vb.ext vk) 1 ?_)))))
 refine pu 2 rfl (RW.done (NW.next (CW.i H (fun c9 H=>?_) fun c9 H=>?_)))
 refine CW.skip (NW.next (CW.seq (CW.block (CW.seq (CW.lex [.W,.L,.W,.W,.L,.X,.M] rfl (pu 1 rfl (RW.lb tk [.slice A2 p0.Tables.length c_2] (vb.ext vk) 1 ?_)))))))
 refine pu 1 rfl ?_
 obtain ⟨g3,H⟩:=guard_some H
 obtain ⟨ad3,A8,c_8,e3,a3,l6,h31⟩:=kTableR_at (h2.ext vj) g3.1 g3.2
 refine RW.ix tk g3 e3 ?_
 refine RW.ld tk _ a3 ?_
 refine RW.al tk fun b2 w11 x7 sx7 l7 ltb2 h32=>?_
 refine RW.sf tk h32 fun w12 x8 sx8 h34=>?_
 refine RW.done (NW.next ?_)
 refine CW.seqJ (fun a w13=>∃(vq:Bool),Sat 162 [(1,.pointer (some ⟨b1,0,none⟩)),(3,iv va),(5,iv vc),(111,.bool vq)] a∧w12.heap.size≤w13.heap.size∧Ext w w13∧Ext w2 w13∧r9_Pool.j2 vc (r9_Pool.l1 p0 k va n2) vq=some r) ?_ ?_
 refine CW.ord [0,1,3,7,15,31,15,79,255,511,1023,2047,4095,8191,16383,32767,16383,81919,262143,524287,1048575,16383,2113535,8388607,16777215,33554431,67108863,134217727,268435455,134217727,671088639,2147483647,4294967295,8589934591] (ofL [(0,.L),(1,.X),(2,.W),(3,.W),(4,.W),(6,.W),(5,.L),(7,.L),(8,.W),(9,.W),(10,.W),(11,.W),(12,.W),(13,.W),(14,.W),(16,.W),(17,.W),(21,.W),(15,.L),(18,.W),(19,.W),(20,.L),(22,.L),(23,.W),(24,.W),(25,.W),(26,.W),(27,.W),(29,.W),(28,.L),(30,.L),(31,.X),(32,.W),(33,.W)] .nil) mixed (by kernel_rfl) ?_
 intro w14 x9
 have sx9:=x9.size
 have h35:=h34.ext x9
 refine RW.lw tk h35 ?_
 have h36:=((h31.ext x7).turnB x8 h32 ⟨.inr (by omega),trivial⟩).ext x9
 refine RW.cp H ent22 (fun _ h=>r7_Table.calls h h36.all l6) fun y4 w15 x10 sx10 H=>?_
 refine pu 2 rfl ?_
 have j6:=(((vj.tr x7).tB x8).tr x9).tr x10
 have j7:=(((vk.tr x7).tB x8).tr x9).tr x10
 refine RW.n 81 H (fun c10 H=>?_) fun c10 H=>?_
 refine pu 2 rfl ?_
 have h38:=h35.ext x10
 refine RW.lb tk [iv ((rd p0.Tables vc).Dev)] h38 0 ?_
 have h39:=((((vb.ext vk).ext x7).tB x8).ext x9).ext x10
 refine RW.lb tk [iv p0.Next] h39 7 ?_
 refine pu 3 rfl (RW.i 88 H (fun c11 H=>?_) fun c11 H=>?_)
 refine pu 23 rfl (RW.done ?_)
 exact NW.J fun a ha=>⟨true,ha.sb,by omega,j6,j7,H⟩
 refine pu 3 rfl ?_
 have j8:=((((h1.ext vj).ext x7).turnB x8 h32 ⟨.inr (by omega),trivial⟩).ext x9).ext x10
 refine RW.i 91 H (fun c12 H=>?_) fun c12 H=>?_
 refine pu 4 rfl (RW.lb tk [.slice A2 p0.Tables.length c_2] h39 1 ?_)
 obtain ⟨g4,H⟩:=guard_some H
 have h42:=((((h2.ext vj).ext x7).turnB x8 h32 ⟨.inr (by omega),trivial⟩).ext x9).ext x10
 obtain ⟨ad4,A9,c_9,e4,a4,l8,h43⟩:=kTableR_at h42 g4.1 g4.2
 refine RW.ix tk g4 e4 ?_
 refine pu 1 rfl (RW.ld tk [iv ((rd p0.Tables (w64 (vc-1))).Dev)] ((a4.fld 0).take 1 rfl) ?_)
 refine RW.lb tk [iv ((rd p0.Tables vc).Dev)] h38 0 ?_
 refine pu 4 rfl (RW.i 104 H (fun c13 H=>?_) fun c13 H=>?_)
 refine pu 7 rfl (RW.done ?_)
 exact NW.J fun a ha=>⟨true,ha.sb,by omega,j6,j7,H⟩
 refine pu 2 rfl (RW.lb tk [.slice A1 p0.Devices.length c_1] h39 0 ?_)
 refine RW.lb tk [iv ((rd p0.Tables vc).Dev)] h38 0 ?_
 refine RW.cp H ent23 (fun _ h=>r7_At.calls h j8.all hl1) fun y5 w16 x11 sx11 H=>?_
 refine pu 2 rfl (RW.done ?_)
 have h48:=j6.tr x11
 have h49:=j7.tr x11
 exact NW.J fun a ha=>⟨(decide (0≤y5)),ha.sb,by omega,h48,h49,H⟩
 refine pu 15 rfl (RW.lb tk [.slice A1 p0.Devices.length c_1] h39 0 ?_)
 refine RW.lb tk [iv ((rd p0.Tables vc).Dev)] h38 0 ?_
 refine RW.cp H ent23 (fun _ h=>r7_At.calls h j8.all hl1) fun y6 w17 x12 sx12 H=>?_
 refine pu 2 rfl (RW.done ?_)
 have h52:=j6.tr x12
 have h53:=j7.tr x12
 exact NW.J fun a ha=>⟨(decide (0≤y6)),ha.sb,by omega,h52,h53,H⟩
 refine pu 30 rfl (RW.done ?_)
 exact NW.J fun a ha=>⟨true,ha.sb,by omega,j6,j7,H⟩
 rintro a w13 ⟨vq,hS,hle,vt,vx,H⟩ hp
 unfold r9_Pool.j2 at H
 refine CW.go hp hS (CW.i H (fun c14 H=>?_) fun c14 H=>?_)
 refine CW.seq (CW.lw 1 rfl (pu 1 rfl (RW.done (NW.next (CW.ret ?_)))))
 refine NW.ret_block (NW.ret_then (NW.ret_then (NW.ret_block (NW.ret_then ?_))))
 obtain rfl:=Option.some.inj H
 exact NW.r1 ⟨rfl,vt⟩
 refine CW.skip ?_
 refine NW.norm_block (NW.next ?_)
 refine CW.lw 3 rfl (pu 3 rfl (RW.done ?_))
 exact NW.J fun a ha=>⟨n2,Nat.lt_succ_self n2,(w64 (vc+1)),ha.sb,by omega,vt,vx,H⟩
 refine CW.exit ?_
 refine NW.exit_then (NW.exit_then (NW.exit_hit ?_))
 refine NW.next (CW.seq (CW.seq (CW.lw 1 rfl (pu 1 rfl (RW.done (NW.next (CW.block ?_)))))))
 refine CW.loop (fun n3 a w18=>∃(vd:Int),Sat 162 [(1,.pointer (some ⟨b1,0,none⟩)),(3,iv va),(7,iv vd)] a∧w10.heap.size≤w18.heap.size∧Ext w w18∧Ext w2 w18∧r9_Pool.l2 p0 k va n3 vd=some r) k ?_ ?_
 exact fun a ha=>⟨0,ha.sb,by omega,vj,vk,H⟩
 rintro n3 a w18 ⟨vd,hS,hle,ve,vn,H⟩ hp
 obtain _|n3:=n3
 cases H
 rw [r9_Pool.l2] at H
 refine CW.go hp hS (CW.seq (CW.seq (CW.lex [.W,.W,.L,.W,.W] rfl (pu 2 rfl (RW.lb tk [.slice A2 p0.Tables.length c_2] (vb.ext vn) 1 ?_)))))
 refine pu 2 rfl (RW.done (NW.next (CW.i H (fun c15 H=>?_) fun c15 H=>?_)))
 refine CW.skip (NW.next (CW.seq (CW.block (CW.seq (CW.lw 1 rfl (pu 1 rfl (RW.done ?_)))))))
 refine NW.next (CW.block ?_)
 refine CW.loop (fun n4 a w19=>∃(vh:Int),Sat 162 [(1,.pointer (some ⟨b1,0,none⟩)),(3,iv va),(7,iv vd),(8,iv vh)] a∧w18.heap.size≤w19.heap.size∧Ext w w19∧Ext w2 w19∧r9_Pool.l3 p0 k vd (r9_Pool.l2 p0 k va n3) n4 vh=some r) k ?_ ?_
 exact fun a ha=>⟨0,ha.sb,by omega,ve,vn,H⟩
 rintro n4 a w19 ⟨vh,hS,hle,vg,vi,H⟩ hp
 obtain _|n4:=n4
 cases H
 rw [r9_Pool.l3] at H
 refine CW.go hp hS (CW.seq (CW.seq (CW.lex [.W,.W,.L,.W,.W,.W,.L,.W,.W] rfl (pu 2 rfl (RW.lb tk [.slice A2 p0.Tables.length c_2] (vb.ext vi) 1 ?_)))))
 refine pu 1 rfl ?_
 obtain ⟨g5,H⟩:=guard_some H
 obtain ⟨ad5,A10,c_10,e5,a5,l9,h56⟩:=kTableR_at (h2.ext vg) g5.1 g5.2
 refine RW.ix tk g5 e5 ?_
 refine pu 1 rfl (RW.ld tk [.slice A10 ((rd p0.Tables vd).List_).length c_10] (a5.fld 2) ?_)
 refine pu 2 rfl (RW.done (NW.next (CW.i H (fun c16 H=>?_) fun c16 H=>?_)))
 refine CW.skip (NW.next (CW.seq (CW.block (CW.seq (CW.lex [.W,.L,.W,.W,.W,.L,.W,.W,.W,.L,.W] rfl (pu 1 rfl (RW.lb tk [.slice A2 p0.Tables.length c_2] (vb.ext vi) 1 ?_)))))))
 refine pu 1 rfl ?_
 obtain ⟨g6,H⟩:=guard_some H
 obtain ⟨ad6,A11,c_11,e6,a6,l10,h57⟩:=kTableR_at (h2.ext vg) g6.1 g6.2
 refine RW.ix tk g6 e6 ?_
 refine pu 1 rfl (RW.ld tk [.slice A11 ((rd p0.Tables vd).List_).length c_11] (a6.fld 2) ?_)
 refine pu 1 rfl ?_
 obtain ⟨g7,H⟩:=guard_some H
 obtain ⟨ad7,e7,a7⟩:=kEntry_at h57 g7.1 g7.2
 refine RW.ix tk g7 e7 ?_
 refine pu 1 rfl (RW.ld tk [iv ((rd ((rd p0.Tables vd).List_) vh).Dev)] ((a7.fld 2).take 1 rfl) ?_)
 refine pu 1 rfl (RW.done (NW.next ?_))
 refine CW.seqJ (fun a w20=>∃(vr:Bool),Sat 162 [(1,.pointer (some ⟨b1,0,none⟩)),(3,iv va),(7,iv vd),(8,iv vh),(150,.bool vr)] a∧w19.heap.size≤w20.heap.size∧Ext w w20∧Ext w2 w20∧r9_Pool.j3 vh (r9_Pool.l3 p0 k vd (r9_Pool.l2 p0 k va n3) n4) vr=some r) ?_ ?_
 refine CW.lex [.W,.L,.W,.X,.W,.W,.L,.W,.X,.W,.W] rfl (pu 1 rfl (RW.lb tk [.slice A1 p0.Devices.length c_1] (vb.ext vi) 0 ?_))
 refine pu 1 rfl (RW.cp H ent23 (fun _ h=>r7_At.calls h (h1.ext vg).all hl1) fun y7 w21 x13 sx13 H=>?_)
 refine pu 2 rfl ?_
 have j9:=vg.tr x13
 have j10:=vi.tr x13
 refine RW.i 145 H (fun c17 H=>?_) fun c17 H=>?_
 have h59:=(vb.ext vi).ext x13
 refine RW.lw tk h59 ?_
 refine pu 1 rfl ?_
 have h60:=(h1.ext vg).ext x13
 have h61:=(h2.ext vg).ext x13
 have h62:=(h3.ext vg).ext x13
 refine RW.cp H ent24 (fun _ h=>r9_Table.calls h h60.all hl1 h61.all hl2 h62.all hl3) fun y8 w22 x14 sx14 H=>?_
 refine pu 2 rfl (RW.done ?_)
 have h64:=j9.tr x14
 have h65:=j10.tr x14
 exact NW.J fun a ha=>⟨(decide (y8<0)),ha.sb,by omega,h64,h65,H⟩
 refine pu 5 rfl (RW.done ?_)
 exact NW.J fun a ha=>⟨false,ha.sb,by omega,j9,j10,H⟩
 rintro a w20 ⟨vr,hS,hle,vu,vy,H⟩ hp
 unfold r9_Pool.j3 at H
 refine CW.go hp hS (CW.i H (fun c18 H=>?_) fun c18 H=>?_)
 refine CW.seq (CW.lw 1 rfl (pu 1 rfl (RW.done (NW.next (CW.ret ?_)))))
 refine NW.ret_block (NW.ret_then (NW.ret_then (NW.ret_block (NW.ret_block (NW.ret_then (NW.ret_then (NW.ret_block (NW.ret_then ?_))))))))
 obtain rfl:=Option.some.inj H
 exact NW.r1 ⟨rfl,vu⟩
 refine CW.skip ?_
 refine NW.norm_block (NW.next ?_)
 refine CW.lw 3 rfl (pu 3 rfl (RW.done ?_))
 exact NW.J fun a ha=>⟨n4,Nat.lt_succ_self n4,(w64 (vh+1)),ha.sb,by omega,vu,vy,H⟩
 refine CW.exit ?_
 refine NW.exit_then (NW.exit_then (NW.exit_hit ?_))
 refine NW.norm_block (NW.next ?_)
 refine CW.lw 3 rfl (pu 3 rfl (RW.done ?_))
 exact NW.J fun a ha=>⟨n3,Nat.lt_succ_self n3,(w64 (vd+1)),ha.sb,by omega,vg,vi,H⟩
 refine CW.exit ?_
 refine NW.exit_then (NW.exit_then (NW.exit_hit ?_))
 refine NW.next (CW.seq (CW.lex [.W,.W,.W,.L,.X,.W,.W,.W,.L,.X,.W,.W] rfl (pu 3 rfl (RW.i 153 H (fun c19 H=>?_) fun c19 H=>?_))))
 refine RW.lw tk (vb.ext vn) ?_
 refine RW.cp H ent25 (fun _ h=>r9_round.calls h (h1.ext ve).all hl1 (h2.ext ve).all hl2 (h3.ext ve).all hl3) fun y9 w23 x15 sx15 H=>?_
 refine pu 3 rfl ?_
 have j11:=ve.tr x15
 refine RW.n 158 H (fun c20 H=>?_) fun c20 H=>?_
 refine pu 4 rfl (RW.done (NW.next (CW.ret ?_)))
 obtain rfl:=Option.some.inj H
 exact NW.r1 ⟨rfl,j11⟩
 have h70:=(vb.ext vn).ext x15
 refine RW.lw tk h70 ?_
 have h71:=(h1.ext ve).ext x15
 have h72:=(h2.ext ve).ext x15
 have h73:=(h3.ext ve).ext x15
 refine RW.cp H ent26 (fun _ h=>r9_job.calls h h71.all hl1 h72.all hl2 h73.all hl3) fun y10 w24 x16 sx16 H=>?_
 refine pu 2 rfl (RW.done (NW.next (CW.ret ?_)))
 obtain rfl:=Option.some.inj H
 have h75:=j11.tr x16
 exact NW.r1 ⟨rfl,h75⟩
 refine pu 9 rfl (RW.done (NW.next (CW.ret ?_)))
 obtain rfl:=Option.some.inj H
 exact NW.r1 ⟨rfl,ve⟩
theorem r0_EqSegs.calls {k:Nat} {A1:Option Addr} {c_1:Nat} {p0:List Seg} {A2:Option Addr} {c_2:Nat} {p1:List Seg} {r:Bool} {w:World} (H:r0_EqSegs.f k p0 p1=some r) (hs1:Sl kSeg w.heap okAll A1 p0) (hl1:p0.length≤c_1) (hs2:Sl kSeg w.heap okAll A2 p1) (hl2:p1.length≤c_2):
 Calls Tryz.prog 91 #[.slice A1 p0.length c_1,.slice A2 p1.length c_2] w fun e w'=>e=.returned (.bool r)∧Ext w w':=by
 have h1:Sl kSeg w.heap (okL [(0,some w.heap.size,none)]) A1 p0:=hs1.old _ rfl
 have h2:Sl kSeg w.heap (okL [(0,some w.heap.size,none)]) A2 p1:=hs2.old _ rfl
 have x0:Ext w w:=Upd.refl _ w
 unfold r0_EqSegs.f at H
 refine cst Tryz.func91 26 ?_
 refine CW.seq (CW.lw 1 rfl (pu 1 rfl (RW.done (NW.next (CW.seq (CW.seq (CW.lw 5 rfl ?_)))))))
 refine pu 5 rfl (RW.done (NW.next (CW.n H (fun c1 H=>?_) fun c1 H=>?_)))
 refine CW.skip (NW.next (CW.seq (CW.seq (CW.lw 1 rfl (pu 1 rfl (RW.done (NW.next ?_)))))))
 refine CW.block ?_
 refine CW.loop (fun n1 a w1=>∃(va:Int),Sat 26 [(0,.slice A1 p0.length c_1),(1,.slice A2 p1.length c_2),(5,iv va)] a∧w.heap.size≤w1.heap.size∧Ext w w1∧r0_EqSegs.l0 p0 p1 n1 va=some r) k ?_ ?_
 exact fun a ha=>⟨0,ha.sb,by omega,x0,H⟩
 rintro n1 a w1 ⟨va,hS,hle,vb,H⟩ hp
 obtain _|n1:=n1
 cases H
 rw [r0_EqSegs.l0] at H
 refine CW.go hp hS (CW.seq (CW.seq (CW.lw 4 rfl (pu 4 rfl (RW.done (NW.next (CW.i H (fun c2 H=>?_) fun c2 H=>?_)))))))
 refine CW.skip (NW.next (CW.seq (CW.block (CW.seq (CW.ord [0,0,3,7,0,0,48,112,255] (ofL [(0,.W),(1,.W),(2,.W),(4,.W),(5,.W),(6,.W),(3,.L),(7,.L),(8,.W)] .nil) mixed (by kernel_rfl) ?_)))))
 intro w2 x1
 have sx1:=x1.size
 refine pu 2 rfl ?_
 obtain ⟨g1,H⟩:=guard_some H
 have h3:=(h1.ext vb).ext x1
 obtain ⟨ad1,e1,a1⟩:=kSeg_at h3 g1.1 g1.2
 refine RW.ix tk g1 e1 ?_
 refine pu 2 rfl ?_
 obtain ⟨g2,H⟩:=guard_some H
 have h4:=(h2.ext vb).ext x1
 obtain ⟨ad2,e2,a2⟩:=kSeg_at h4 g2.1 g2.2
 refine RW.ix tk g2 e2 ?_
 refine RW.ld tk _ a1 ?_
 refine RW.ld tk _ a2 ?_
 refine RW.eqAgg eqgSeg (eqSeg (rd p0 va) (rd p1 va)) ⟨rfl,rfl,rfl,rfl⟩ rfl rfl rfl rfl (RW.done (NW.next ?_))
 have j1:=vb.tr x1
 refine CW.n H (fun c3 H=>?_) fun c3 H=>?_
 refine CW.skip ?_
 refine NW.norm_block (NW.next ?_)
 refine CW.lw 3 rfl (pu 3 rfl (RW.done ?_))
 exact NW.J fun a ha=>⟨n1,Nat.lt_succ_self n1,(w64 (va+1)),ha.sb,by omega,j1,H⟩
 refine CW.seq (CW.lw 1 rfl (pu 1 rfl (RW.done (NW.next (CW.ret ?_)))))
 refine NW.ret_block (NW.ret_then (NW.ret_then (NW.ret_block (NW.ret_then ?_))))
 obtain rfl:=Option.some.inj H
 exact NW.r1 ⟨rfl,j1⟩
 refine CW.exit ?_
 refine NW.exit_then (NW.exit_then (NW.exit_hit ?_))
 refine NW.next (CW.seq (CW.lw 1 rfl (pu 1 rfl (RW.done (NW.next (CW.ret ?_))))))
 obtain rfl:=Option.some.inj H
 exact NW.r1 ⟨rfl,vb⟩
 refine CW.seq (CW.lw 1 rfl (pu 1 rfl (RW.done (NW.next (CW.ret (NW.ret_then ?_))))))
 obtain rfl:=Option.some.inj H
 exact NW.r1 ⟨rfl,x0⟩
theorem r0_EqDevice.calls {k:Nat} {p0:Device} {A1:Option Addr} {c_1:Nat} {A2:Option Addr} {c_2:Nat} {p1:Device} {A3:Option Addr} {c_3:Nat} {A4:Option Addr} {c_4:Nat} {r:Bool} {w:World} (H:r0_EqDevice.f k p0 p1=some r) (hs1:Sl kSeg w.heap okAll A1 p0.Free) (hl1:p0.Free.length≤c_1) (hs2:Sl kSeg w.heap okAll A2 p0.Late) (hl2:p0.Late.length≤c_2) (hs3:Sl kSeg w.heap okAll A3 p1.Free) (hl3:p1.Free.length≤c_3) (hs4:Sl kSeg w.heap okAll A4 p1.Late) (hl4:p1.Late.length≤c_4):
 Calls Tryz.prog 65 #[.agg #[iv p0.ID,iv p0.Size,.slice A1 p0.Free.length c_1,.slice A2 p0.Late.length c_2],.agg #[iv p1.ID,iv p1.Size,.slice A3 p1.Free.length c_3,.slice A4 p1.Late.length c_4]] w fun e w'=>e=.returned (.bool r)∧Ext w w':=by
 have h1:Sl kSeg w.heap (okL [(0,some w.heap.size,none)]) A1 p0.Free:=hs1.old _ rfl
 have h2:Sl kSeg w.heap (okL [(0,some w.heap.size,none)]) A2 p0.Late:=hs2.old _ rfl
 have h3:Sl kSeg w.heap (okL [(0,some w.heap.size,none)]) A3 p1.Free:=hs3.old _ rfl
 have h4:Sl kSeg w.heap (okL [(0,some w.heap.size,none)]) A4 p1.Late:=hs4.old _ rfl
 have x0:Ext w w:=Upd.refl _ w
 unfold r0_EqDevice.f at H
 refine cst Tryz.func65 31 ?_
 refine CW.seq (CW.lex [.X,.X,.W] rfl (RW.bx fun b1 w1 x1 sx1 l1 ltb1 h5=>?_))
 refine RW.bx fun b2 w2 x2 sx2 l2 ltb2 h6=>?_
 refine pu 1 rfl (RW.done (NW.next (CW.seq (CW.lex [.W,.L,.W,.L,.W,.W,.W,.L,.W,.L,.W,.W,.W,.W,.L,.W,.L,.X,.W,.W,.W,.L,.W,.L,.X,.W,.W] rfl (pu 1 rfl ?_)))))
 have h7:=h5.ext x2
 refine RW.lb tk [iv p0.ID] h7 0 ?_
 refine pu 1 rfl (RW.lb tk [iv p1.ID] h6 0 ?_)
 refine pu 2 rfl ?_
 have j1:=(x0.tr x1).tr x2
 refine RW.i 10 H (fun c1 H=>?_) fun c1 H=>?_
 refine pu 1 rfl (RW.lb tk [iv p0.Size] h7 1 ?_)
 refine pu 1 rfl (RW.lb tk [iv p1.Size] h6 1 ?_)
 refine pu 3 rfl (RW.i 17 H (fun c2 H=>?_) fun c2 H=>?_)
 refine pu 1 rfl (RW.lb tk [.slice A1 p0.Free.length c_1] h7 2 ?_)
 refine pu 1 rfl (RW.lb tk [.slice A3 p1.Free.length c_3] h6 2 ?_)
 have h8:=(h1.ext x1).ext x2
 have h9:=(h3.ext x1).ext x2
 refine RW.cp H ent91 (fun _ h=>r0_EqSegs.calls h h8.all hl1 h9.all hl3) fun y1 w3 x3 sx3 H=>?_
 refine pu 2 rfl ?_
 have j2:=j1.tr x3
 refine RW.i 24 H (fun c3 H=>?_) fun c3 H=>?_
 refine pu 1 rfl ?_
 have h11:=h7.ext x3
 refine RW.lb tk [.slice A2 p0.Late.length c_2] h11 3 ?_
 refine pu 1 rfl ?_
 have h12:=h6.ext x3
 refine RW.lb tk [.slice A4 p1.Late.length c_4] h12 3 ?_
 have h13:=((h2.ext x1).ext x2).ext x3
 have h14:=((h4.ext x1).ext x2).ext x3
 refine RW.cp H ent91 (fun _ h=>r0_EqSegs.calls h h13.all hl2 h14.all hl4) fun y2 w4 x4 sx4 H=>?_
 refine pu 2 rfl (RW.done (NW.next (CW.ret ?_)))
 obtain rfl:=Option.some.inj H
 have h16:=j2.tr x4
 exact NW.r1 ⟨rfl,h16⟩
 refine pu 7 rfl (RW.done (NW.next (CW.ret ?_)))
 obtain rfl:=Option.some.inj H
 exact NW.r1 ⟨rfl,j2⟩
 refine pu 14 rfl (RW.done (NW.next (CW.ret ?_)))
 obtain rfl:=Option.some.inj H
 exact NW.r1 ⟨rfl,j1⟩
 refine pu 21 rfl (RW.done (NW.next (CW.ret ?_)))
 obtain rfl:=Option.some.inj H
 exact NW.r1 ⟨rfl,j1⟩
theorem r0_EqDevices.calls {k:Nat} {A1:Option Addr} {c_1:Nat} {p0:List Device} {A2:Option Addr} {c_2:Nat} {p1:List Device} {r:Bool} {w:World} (H:r0_EqDevices.f k p0 p1=some r) (hs1:Sl kDeviceR w.heap okAll A1 p0) (hl1:p0.length≤c_1) (hs2:Sl kDeviceR w.heap okAll A2 p1) (hl2:p1.length≤c_2):
 Calls Tryz.prog 41 #[.slice A1 p0.length c_1,.slice A2 p1.length c_2] w fun e w'=>e=.returned (.bool r)∧Ext w w':=by
 have h1:Sl kDeviceR w.heap (okL [(0,some w.heap.size,none)]) A1 p0:=hs1.old _ rfl
 have h2:Sl kDeviceR w.heap (okL [(0,some w.heap.size,none)]) A2 p1:=hs2.old _ rfl
 have x0:Ext w w:=Upd.refl _ w
 unfold r0_EqDevices.f at H
 refine cst Tryz.func41 27 ?_
 refine CW.seq (CW.lw 1 rfl (pu 1 rfl (RW.done (NW.next (CW.seq (CW.seq (CW.lw 5 rfl ?_)))))))
 refine pu 5 rfl (RW.done (NW.next (CW.n H (fun c1 H=>?_) fun c1 H=>?_)))
 refine CW.skip (NW.next (CW.seq (CW.seq (CW.lw 1 rfl (pu 1 rfl (RW.done (NW.next ?_)))))))
 refine CW.block ?_
 refine CW.loop (fun n1 a w1=>∃(va:Int),Sat 27 [(0,.slice A1 p0.length c_1),(1,.slice A2 p1.length c_2),(5,iv va)] a∧w.heap.size≤w1.heap.size∧Ext w w1∧r0_EqDevices.l0 p0 p1 k n1 va=some r) k ?_ ?_
 exact fun a ha=>⟨0,ha.sb,by omega,x0,H⟩
 rintro n1 a w1 ⟨va,hS,hle,vb,H⟩ hp
 obtain _|n1:=n1
 cases H
 rw [r0_EqDevices.l0] at H
 refine CW.go hp hS (CW.seq (CW.seq (CW.lw 4 rfl (pu 4 rfl (RW.done (NW.next (CW.i H (fun c2 H=>?_) fun c2 H=>?_)))))))
 refine CW.skip (NW.next (CW.seq (CW.block (CW.seq (CW.ord [0,0,3,7,0,0,48,112,255,511] (ofL [(0,.W),(1,.W),(2,.W),(4,.W),(5,.W),(6,.W),(3,.L),(7,.L),(8,.X),(9,.W)] .nil) mixed (by kernel_rfl) ?_)))))
 intro w2 x1
 have sx1:=x1.size
 refine pu 2 rfl ?_
 obtain ⟨g1,H⟩:=guard_some H
 have h3:=(h1.ext vb).ext x1
 obtain ⟨ad1,A3,c_3,A4,c_4,e1,a1,l1,h4,l2,h5⟩:=kDeviceR_at h3 g1.1 g1.2
 refine RW.ix tk g1 e1 ?_
 refine pu 2 rfl ?_
 obtain ⟨g2,H⟩:=guard_some H
 have h6:=(h2.ext vb).ext x1
 obtain ⟨ad2,A5,c_5,A6,c_6,e2,a2,l3,h7,l4,h8⟩:=kDeviceR_at h6 g2.1 g2.2
 refine RW.ix tk g2 e2 ?_
 refine RW.ld tk _ a1 ?_
 refine RW.ld tk _ a2 ?_
 refine RW.cp H ent65 (fun _ h=>r0_EqDevice.calls h h4.all l1 h5.all l2 h7.all l3 h8.all l4) fun y1 w3 x2 sx2 H=>?_
 refine pu 1 rfl (RW.done (NW.next ?_))
 have j1:=(vb.tr x1).tr x2
 refine CW.n H (fun c3 H=>?_) fun c3 H=>?_
 refine CW.skip ?_
 refine NW.norm_block (NW.next ?_)
 refine CW.lw 3 rfl (pu 3 rfl (RW.done ?_))
 exact NW.J fun a ha=>⟨n1,Nat.lt_succ_self n1,(w64 (va+1)),ha.sb,by omega,j1,H⟩
 refine CW.seq (CW.lw 1 rfl (pu 1 rfl (RW.done (NW.next (CW.ret ?_)))))
 refine NW.ret_block (NW.ret_then (NW.ret_then (NW.ret_block (NW.ret_then ?_))))
 obtain rfl:=Option.some.inj H
 exact NW.r1 ⟨rfl,j1⟩
 refine CW.exit ?_
 refine NW.exit_then (NW.exit_then (NW.exit_hit ?_))
 refine NW.next (CW.seq (CW.lw 1 rfl (pu 1 rfl (RW.done (NW.next (CW.ret ?_))))))
 obtain rfl:=Option.some.inj H
 exact NW.r1 ⟨rfl,vb⟩
 refine CW.seq (CW.lw 1 rfl (pu 1 rfl (RW.done (NW.next (CW.ret (NW.ret_then ?_))))))
 obtain rfl:=Option.some.inj H
 exact NW.r1 ⟨rfl,x0⟩
theorem r0_EqTables.calls {k:Nat} {A1:Option Addr} {c_1:Nat} {p0:List Table} {A2:Option Addr} {c_2:Nat} {p1:List Table} {r:Bool} {w:World} (H:r0_EqTables.f k p0 p1=some r) (hs1:Sl kTableR w.heap okAll A1 p0) (hl1:p0.length≤c_1) (hs2:Sl kTableR w.heap okAll A2 p1) (hl2:p1.length≤c_2):
 Calls Tryz.prog 42 #[.slice A1 p0.length c_1,.slice A2 p1.length c_2] w fun e w'=>e=.returned (.bool r)∧Ext w w':=by
 have h1:Sl kTableR w.heap (okL [(0,some w.heap.size,none)]) A1 p0:=hs1.old _ rfl
 have h2:Sl kTableR w.heap (okL [(0,some w.heap.size,none)]) A2 p1:=hs2.old _ rfl
 have x0:Ext w w:=Upd.refl _ w
 unfold r0_EqTables.f at H
 refine cst Tryz.func42 27 ?_
 refine CW.seq (CW.lw 1 rfl (pu 1 rfl (RW.done (NW.next (CW.seq (CW.seq (CW.lw 5 rfl ?_)))))))
 refine pu 5 rfl (RW.done (NW.next (CW.n H (fun c1 H=>?_) fun c1 H=>?_)))
 refine CW.skip (NW.next (CW.seq (CW.seq (CW.lw 1 rfl (pu 1 rfl (RW.done (NW.next ?_)))))))
 refine CW.block ?_
 refine CW.loop (fun n1 a w1=>∃(va:Int),Sat 27 [(0,.slice A1 p0.length c_1),(1,.slice A2 p1.length c_2),(5,iv va)] a∧w.heap.size≤w1.heap.size∧Ext w w1∧r0_EqTables.l0 p0 p1 k n1 va=some r) k ?_ ?_
 exact fun a ha=>⟨0,ha.sb,by omega,x0,H⟩
 rintro n1 a w1 ⟨va,hS,hle,vb,H⟩ hp
 obtain _|n1:=n1
 cases H
 rw [r0_EqTables.l0] at H
 refine CW.go hp hS (CW.seq (CW.seq (CW.lw 4 rfl (pu 4 rfl (RW.done (NW.next (CW.i H (fun c2 H=>?_) fun c2 H=>?_)))))))
 refine CW.skip (NW.next (CW.seq (CW.block (CW.seq (CW.ord [0,0,3,7,0,0,48,112,255,511] (ofL [(0,.W),(1,.W),(2,.W),(4,.W),(5,.W),(6,.W),(3,.L),(7,.L),(8,.X),(9,.W)] .nil) mixed (by kernel_rfl) ?_)))))
 intro w2 x1
 have sx1:=x1.size
 refine pu 2 rfl ?_
 obtain ⟨g1,H⟩:=guard_some H
 have h3:=(h1.ext vb).ext x1
 obtain ⟨ad1,A3,c_3,e1,a1,l1,h4⟩:=kTableR_at h3 g1.1 g1.2
 refine RW.ix tk g1 e1 ?_
 refine pu 2 rfl ?_
 obtain ⟨g2,H⟩:=guard_some H
 have h5:=(h2.ext vb).ext x1
 obtain ⟨ad2,A4,c_4,e2,a2,l2,h6⟩:=kTableR_at h5 g2.1 g2.2
 refine RW.ix tk g2 e2 ?_
 refine RW.ld tk _ a1 ?_
 refine RW.ld tk _ a2 ?_
 refine RW.cp H ent43 (fun _ h=>r0_EqTable.calls h h4.all l1 h6.all l2) fun y1 w3 x2 sx2 H=>?_
 refine pu 1 rfl (RW.done (NW.next ?_))
 have j1:=(vb.tr x1).tr x2
 refine CW.n H (fun c3 H=>?_) fun c3 H=>?_
 refine CW.skip ?_
 refine NW.norm_block (NW.next ?_)
 refine CW.lw 3 rfl (pu 3 rfl (RW.done ?_))
 exact NW.J fun a ha=>⟨n1,Nat.lt_succ_self n1,(w64 (va+1)),ha.sb,by omega,j1,H⟩
 refine CW.seq (CW.lw 1 rfl (pu 1 rfl (RW.done (NW.next (CW.ret ?_)))))
 refine NW.ret_block (NW.ret_then (NW.ret_then (NW.ret_block (NW.ret_then ?_))))
 obtain rfl:=Option.some.inj H
 exact NW.r1 ⟨rfl,j1⟩
 refine CW.exit ?_
 refine NW.exit_then (NW.exit_then (NW.exit_hit ?_))
 refine NW.next (CW.seq (CW.lw 1 rfl (pu 1 rfl (RW.done (NW.next (CW.ret ?_))))))
 obtain rfl:=Option.some.inj H
 exact NW.r1 ⟨rfl,vb⟩
 refine CW.seq (CW.lw 1 rfl (pu 1 rfl (RW.done (NW.next (CW.ret (NW.ret_then ?_))))))
 obtain rfl:=Option.some.inj H
 exact NW.r1 ⟨rfl,x0⟩
theorem r0_EqPool.calls {k:Nat} {p0:Pool} {A1:Option Addr} {c_1:Nat} {A2:Option Addr} {c_2:Nat} {A3:Option Addr} {c_3:Nat} {p1:Pool} {A4:Option Addr} {c_4:Nat} {A5:Option Addr} {c_5:Nat} {A6:Option Addr} {c_6:Nat} {r:Bool} {w:World} (H:r0_EqPool.f k p0 p1=some r) (hs1:Sl kDeviceR w.heap okAll A1 p0.Devices) (hl1:p0.Devices.length≤c_1) (hs2:Sl kTableR w.heap okAll A2 p0.Tables) (hl2:p0.Tables.length≤c_2) (hs3:Sl kEntry w.heap okAll A3 p0.Job.Table.List_) (hl3:p0.Job.Table.List_.length≤c_3) (hs4:Sl kDeviceR w.heap okAll A4 p1.Devices) (hl4:p1.Devices.length≤c_4) (hs5:Sl kTableR w.heap okAll A5 p1.Tables) (hl5:p1.Tables.length≤c_5) (hs6:Sl kEntry w.heap okAll A6 p1.Job.Table.List_) (hl6:p1.Job.Table.List_.length≤c_6):
 Calls Tryz.prog 14 #[.agg #[.slice A1 p0.Devices.length c_1,.slice A2 p0.Tables.length c_2,iv p0.Job.Dev,iv p0.Job.At,iv p0.Job.Table.Dev,iv p0.Job.Table.Size,.slice A3 p0.Job.Table.List_.length c_3,iv p0.Next],.agg #[.slice A4 p1.Devices.length c_4,.slice A5 p1.Tables.length c_5,iv p1.Job.Dev,iv p1.Job.At,iv p1.Job.Table.Dev,iv p1.Job.Table.Size,.slice A6 p1.Job.Table.List_.length c_6,iv p1.Next]] w fun e w'=>e=.returned (.bool r)∧Ext w w':=by
 have h1:Sl kDeviceR w.heap (okL [(0,some w.heap.size,none)]) A1 p0.Devices:=hs1.old _ rfl
 have h2:Sl kTableR w.heap (okL [(0,some w.heap.size,none)]) A2 p0.Tables:=hs2.old _ rfl
 have h3:Sl kEntry w.heap (okL [(0,some w.heap.size,none)]) A3 p0.Job.Table.List_:=hs3.old _ rfl
 have h4:Sl kDeviceR w.heap (okL [(0,some w.heap.size,none)]) A4 p1.Devices:=hs4.old _ rfl
 have h5:Sl kTableR w.heap (okL [(0,some w.heap.size,none)]) A5 p1.Tables:=hs5.old _ rfl
 have h6:Sl kEntry w.heap (okL [(0,some w.heap.size,none)]) A6 p1.Job.Table.List_:=hs6.old _ rfl
 have x0:Ext w w:=Upd.refl _ w
 unfold r0_EqPool.f at H
 refine cst Tryz.func14 51 ?_
 refine CW.seq (CW.lex [.X,.X,.W] rfl (RW.bx fun b1 w1 x1 sx1 l1 ltb1 h7=>?_))
 refine RW.bx fun b2 w2 x2 sx2 l2 ltb2 h8=>?_
 refine pu 1 rfl (RW.done (NW.next (CW.seq (CW.lex [.W,.L,.W,.L,.X,.W,.W,.L,.W,.L,.X,.W,.W,.W,.W,.L,.W,.W,.L,.W,.W,.W,.W,.W,.L,.W,.W,.L,.W,.W,.W,.W,.W,.L,.W,.W,.L,.X,.W,.W,.W,.L,.W,.L,.W,.W,.W] rfl (pu 1 rfl ?_)))))
 have h9:=h7.ext x2
 refine RW.lb tk [.slice A1 p0.Devices.length c_1] h9 0 ?_
 refine pu 1 rfl (RW.lb tk [.slice A4 p1.Devices.length c_4] h8 0 ?_)
 have h10:=(h1.ext x1).ext x2
 have h11:=(h4.ext x1).ext x2
 refine RW.cp H ent41 (fun _ h=>r0_EqDevices.calls h h10.all hl1 h11.all hl4) fun y1 w3 x3 sx3 H=>?_
 refine pu 1 rfl ?_
 have j1:=((x0.tr x1).tr x2).tr x3
 refine RW.i 10 H (fun c1 H=>?_) fun c1 H=>?_
 refine pu 1 rfl ?_
 have h13:=h9.ext x3
 refine RW.lb tk [.slice A2 p0.Tables.length c_2] h13 1 ?_
 refine pu 1 rfl ?_
 have h14:=h8.ext x3
 refine RW.lb tk [.slice A5 p1.Tables.length c_5] h14 1 ?_
 have h15:=((h2.ext x1).ext x2).ext x3
 have h16:=((h5.ext x1).ext x2).ext x3
 refine RW.cp H ent42 (fun _ h=>r0_EqTables.calls h h15.all hl2 h16.all hl5) fun y2 w4 x4 sx4 H=>?_
 refine pu 2 rfl ?_
 have j2:=j1.tr x4
 refine RW.i 17 H (fun c2 H=>?_) fun c2 H=>?_
 refine pu 2 rfl ?_
 have h18:=h13.ext x4
 refine RW.lb tk [iv p0.Job.Dev] h18 2 ?_
 refine pu 2 rfl ?_
 have h19:=h14.ext x4
 refine RW.lb tk [iv p1.Job.Dev] h19 2 ?_
 refine pu 3 rfl (RW.i 26 H (fun c3 H=>?_) fun c3 H=>?_)
 refine pu 2 rfl (RW.lb tk [iv p0.Job.At] h18 3 ?_)
 refine pu 2 rfl (RW.lb tk [iv p1.Job.At] h19 3 ?_)
 refine pu 3 rfl (RW.i 35 H (fun c4 H=>?_) fun c4 H=>?_)
 refine pu 2 rfl (RW.lb tk [iv p0.Job.Table.Dev,iv p0.Job.Table.Size,.slice A3 p0.Job.Table.List_.length c_3] h18 4 ?_)
 refine pu 2 rfl (RW.lb tk [iv p1.Job.Table.Dev,iv p1.Job.Table.Size,.slice A6 p1.Job.Table.List_.length c_6] h19 4 ?_)
 have h20:=(((h3.ext x1).ext x2).ext x3).ext x4
 have h21:=(((h6.ext x1).ext x2).ext x3).ext x4
 refine RW.cp H ent43 (fun _ h=>r0_EqTable.calls h h20.all hl3 h21.all hl6) fun y3 w5 x5 sx5 H=>?_
 refine pu 2 rfl ?_
 have j3:=j2.tr x5
 refine RW.i 44 H (fun c5 H=>?_) fun c5 H=>?_
 refine pu 1 rfl ?_
 have h23:=h18.ext x5
 refine RW.lb tk [iv p0.Next] h23 7 ?_
 refine pu 1 rfl ?_
 have h24:=h19.ext x5
 refine RW.lb tk [iv p1.Next] h24 7 ?_
 refine pu 3 rfl (RW.done (NW.next (CW.ret ?_)))
 obtain rfl:=Option.some.inj H
 exact NW.r1 ⟨rfl,j3⟩
 refine pu 7 rfl (RW.done (NW.next (CW.ret ?_)))
 obtain rfl:=Option.some.inj H
 exact NW.r1 ⟨rfl,j3⟩
 refine pu 16 rfl (RW.done (NW.next (CW.ret ?_)))
 obtain rfl:=Option.some.inj H
 exact NW.r1 ⟨rfl,j2⟩
 refine pu 25 rfl (RW.done (NW.next (CW.ret ?_)))
 obtain rfl:=Option.some.inj H
 exact NW.r1 ⟨rfl,j2⟩
 refine pu 34 rfl (RW.done (NW.next (CW.ret ?_)))
 obtain rfl:=Option.some.inj H
 exact NW.r1 ⟨rfl,j2⟩
 refine pu 41 rfl (RW.done (NW.next (CW.ret ?_)))
 obtain rfl:=Option.some.inj H
 exact NW.r1 ⟨rfl,j1⟩
end Go.Proofs.YtnaajldlloglkaaGreatDoor.W
