/- Walks; printed by a program of the claim. -/
import Derived.Test.YtnaajldlloglkaaGreatDoorMoveW4
set_option linter.unusedVariables false
set_option linter.unusedSimpArgs false
set_option maxHeartbeats 20000000
set_option maxRecDepth 100000
namespace Go.Proofs.YtnaajldlloglkaaGreatDoor.W
open Go.H Go.Proofs
theorem r0_CopyPtrs.calls {k:Nat} {A1:Option Addr} {c_1:Nat} {p0:List Ptr} {r:(List Ptr)} {w:World} (H:r0_CopyPtrs.f k p0=some r) (hs1:Sl kPtr w.heap okAll A1 p0) (hl1:p0.length≤c_1):
 Calls Tryz.prog 100 #[.slice A1 p0.length c_1] w fun e w'=>∃(B1:Option Addr) (d1:Nat),e=.returned (.slice B1 r.length d1)∧Ext w w'∧Ow kPtr 43 w'.heap (okL [(w.heap.size,none,some 43)]) (okL []) B1 d1 r:=by
 have h1:Sl kPtr w.heap (okL [(0,some w.heap.size,none)]) A1 p0:=hs1.old _ rfl
 have x0:Ext w w:=Upd.refl _ w
 unfold r0_CopyPtrs.f at H
 refine cst Tryz.func100 19 ?_
 refine CW.seq (CW.lw 1 rfl (pu 1 rfl (RW.done (NW.next (CW.seq (CW.lw 1 rfl (pu 1 rfl ?_)))))))
 refine RW.done (NW.next (CW.seq (CW.seq (CW.lw 1 rfl (pu 1 rfl (RW.done (NW.next ?_)))))))
 refine CW.block ?_
 refine CW.loop (fun n1 a w1=>∃(vb:List Ptr) (vc:Option Addr) (vd:Nat) (va:Int),Sat 19 [(0,.slice A1 p0.length c_1),(3,.slice vc vb.length vd),(4,iv va)] a∧w.heap.size≤w1.heap.size∧Ow kPtr 43 w1.heap (okL [(w.heap.size,none,some 43)]) (okL []) vc vd vb∧Ext w w1∧r0_CopyPtrs.l0 p0 n1 vb va=some r) k ?_ ?_
 exact fun a ha=>⟨([]:List Ptr),none,0,0,ha.sb,by omega,Ow.nil,x0,H⟩
 rintro n1 a w1 ⟨vb,vc,vd,va,hS,hle,vf,ve,H⟩ hp
 obtain _|n1:=n1
 cases H
 rw [r0_CopyPtrs.l0] at H
 refine CW.go hp hS ?_
 have h2:Ow kPtr 43 w1.heap (okL [(w.heap.size,some w1.heap.size,some 43)]) (okL []) vc vd vb:=vf.close
 have xt1:Ext w1 w1:=Upd.refl _ _
 refine CW.seq (CW.seq (CW.lw 4 rfl (pu 4 rfl (RW.done (NW.next (CW.i H (fun c1 H=>?_) fun c1 H=>?_))))))
 refine CW.skip (NW.next (CW.seq (CW.block (CW.lex [.W,.W,.W,.W,.L,.X,.M,.W] rfl (pu 3 rfl ?_)))))
 obtain ⟨g1,H⟩:=guard_some H
 obtain ⟨ad1,e1,a1⟩:=kPtr_at (h1.ext ve) g1.1 g1.2
 refine RW.ix tk g1 e1 ?_
 refine RW.ld tk _ a1 ?_
 refine RW.buildSlice (cs:=[iv ((rd p0 va).Dev),iv ((rd p0 va).At)]) tk (.inl rfl) ⟨rfl,rfl,rfl,rfl⟩ rfl rfl rfl rfl rfl rfl rfl ?_
 intro b1 w2 x1 l1 h3
 have sx1:=x1.size
 have ltb1:=h3.lt
 have h4:=h2.ext x1
 obtain ⟨g2,H⟩:=guard_some H
 refine RW.append1L (d:=kPtr) (v:=(rd p0 va)) (l:=[(w.heap.size,some w1.heap.size,some 43)]) (li:=[]) (ly:=[]) (xs:=vb) tk h4 h3 (kPtr_mk (rd p0 va)) trivial (by simp only [maxLen];omega) g2 ⟨rfl,rfl,rfl,rfl⟩ rfl rfl rfl rfl rfl rfl rfl ?_
 intro A2 c_2 w3 x2 h5
 have sx2:=x2.size
 have h6:=h5.close.sub (l':=[(w.heap.size,some w3.heap.size,some 43)]) (li':=[]) ⟨(.inl ⟨by omega,by omega,rfl⟩),⟨(.inl ⟨by omega,by omega,rfl⟩),trivial⟩⟩ trivial
 refine pu 1 rfl (RW.done ?_)
 refine NW.norm_block (NW.next ?_)
 refine CW.lw 3 rfl (pu 3 rfl (RW.done ?_))
 have h7:=Ext.turn (ve.tr x1) x2 ⟨by omega,trivial⟩
 exact NW.J fun a ha=>⟨n1,Nat.lt_succ_self n1,(vb++[(rd p0 va)]),A2,c_2,(w64 (va+1)),ha.sb,by omega,(h6.sb),h7,H⟩
 refine CW.exit ?_
 refine NW.exit_then (NW.exit_then (NW.exit_hit ?_))
 refine NW.next (CW.seq (CW.lw 2 rfl (pu 2 rfl (RW.done (NW.next (CW.ret ?_))))))
 obtain rfl:=Option.some.inj H
 exact NW.r1 ⟨vc,vd,rfl,ve,(h2.sub (l':=[(w.heap.size,none,some 43)]) (li':=[]) ⟨(.inl ⟨by omega,trivial,rfl⟩),trivial⟩ trivial)⟩
theorem l0_Within.calls {p0:Int} {p1:Int} {r:Int} {w:World} (H:l0_Within.f p0 p1=some r):
 Calls Tryz.prog 101 #[iv p0,iv p1] w fun e w'=>e=.returned (iv r)∧Ext w w':=by
 have x0:Ext w w:=Upd.refl _ w
 unfold l0_Within.f at H
 refine cst Tryz.func101 11 ?_
 refine CW.seq (CW.lw 1 rfl (pu 1 rfl (RW.done (NW.next (CW.seq (CW.lw 7 rfl (pu 4 rfl ?_)))))))
 obtain ⟨g1,H⟩:=guard_some H
 refine RW.div g1 ⟨rfl,rfl,rfl,rfl⟩ rfl rfl rfl rfl (pu 2 rfl (RW.done (NW.next (CW.ret ?_))))
 obtain rfl:=Option.some.inj H
 exact NW.r1 ⟨rfl,x0⟩
theorem r7_Commit.calls {k:Nat} {A1:Option Addr} {c_1:Nat} {p0:List Device} {r:(List Device)} {w:World} (H:r7_Commit.f k p0=some r) (hs1:Sl kDeviceR w.heap okAll A1 p0) (hl1:p0.length≤c_1):
 Calls Tryz.prog 45 #[.slice A1 p0.length c_1] w fun e w'=>∃(B1:Option Addr) (d1:Nat),e=.returned (.slice B1 r.length d1)∧Ext w w'∧Ow kDeviceO 40 w'.heap (okL [(w.heap.size,none,some 40)]) (okL [(w.heap.size,none,some 105)]) B1 d1 r:=by
 have h1:Sl kDeviceR w.heap (okL [(0,some w.heap.size,none)]) A1 p0:=hs1.old _ rfl
 have x0:Ext w w:=Upd.refl _ w
 unfold r7_Commit.f at H
 refine cst Tryz.func45 32 ?_
 refine CW.seq (CW.lw 1 rfl (pu 1 rfl (RW.done (NW.next (CW.seq (CW.lex [.W,.X,.W] rfl (pu 1 rfl ?_)))))))
 obtain ⟨y1,h2,H⟩:=bind_some H
 refine RW.cl ent67 (r0_CopyDevices.calls h2 h1.all hl1) ?_
 rintro _ w1 ⟨A2,c_2,rfl,x1,h3⟩
 refine ⟨_,rfl,x1,?_⟩
 have sx1:=x1.size
 have h4:Ow kDeviceO 40 w1.heap (okL [(w.heap.size,some w1.heap.size,some 40)]) (okL [(w.heap.size,some w1.heap.size,some 105)]) A2 c_2 y1:=h3.close
 refine pu 1 rfl (RW.done (NW.next (CW.seq (CW.seq (CW.lw 1 rfl (pu 1 rfl (RW.done ?_)))))))
 refine NW.next (CW.block ?_)
 refine CW.loop (fun n1 a w2=>∃(vb:List Device) (va:Int),Sat 32 [(0,.slice A2 vb.length c_2),(3,iv va)] a∧w1.heap.size≤w2.heap.size∧Ow kDeviceO 40 w2.heap (okL [(w.heap.size,none,some 40)]) (okL [(w.heap.size,none,some 105)]) A2 c_2 vb∧Ext w w2∧vb.length=y1.length∧r7_Commit.l0 k n1 vb va=some r) k ?_ ?_
 have h5:=x0.tr x1
 exact fun a ha=>⟨y1,0,ha.sb,by omega,(h4.sb),h5,(by (try simp only [List.length_set]) <;>omega),H⟩
 rintro n1 a w2 ⟨vb,va,hS,hle,vd,vc,ve,H⟩ hp
 obtain _|n1:=n1
 cases H
 rw [r7_Commit.l0] at H
 refine CW.go hp hS ?_
 have h6:Ow kDeviceO 40 w2.heap (okL [(w.heap.size,some w2.heap.size,some 40)]) (okL [(w.heap.size,some w2.heap.size,some 105)]) A2 c_2 vb:=vd.close
 have xt1:Ext w2 w2:=Upd.refl _ _
 refine CW.seq (CW.seq (CW.lw 4 rfl (pu 4 rfl (RW.done (NW.next (CW.i H (fun c1 H=>?_) fun c1 H=>?_))))))
 refine CW.skip (NW.next (CW.seq (CW.block (CW.ord [0,0,0,0,0,0,48,112,240,0,0,1536,3584,7680,16368,32755,65523,131059,262143,524287,1048575] (ofL [(0,.W),(1,.W),(2,.W),(3,.W),(4,.W),(5,.W),(6,.W),(7,.W),(9,.W),(10,.W),(11,.W),(12,.W),(8,.L),(13,.L),(14,.X),(15,.W),(16,.W),(17,.M),(18,.W),(19,.W),(20,.M)] .nil) mixed (by kernel_rfl) ?_))))
 intro w3 x2
 have sx2:=x2.size
 refine pu 6 rfl ?_
 obtain ⟨g1,H⟩:=guard_some H
 have h7:=h6.ext x2
 obtain ⟨ad1,A3,c_3,A4,c_4,e1,a1,h8,h9⟩:=kDeviceO_ato h7 g1.1 g1.2
 refine RW.ix tk g1 e1 ?_
 refine pu 3 rfl ?_
 obtain ⟨g2,H⟩:=guard_some H
 obtain ⟨ad2,A5,c_5,A6,c_6,e2,a2,h10,h11⟩:=kDeviceO_ato h7 g2.1 g2.2
 refine RW.ix tk g2 e2 ?_
 refine pu 1 rfl (RW.ld tk [.slice A3 ((rd vb va).Free).length c_3] ((a1.fld 2).take 1 rfl) ?_)
 refine RW.ld tk [.slice A6 ((rd vb va).Late).length c_6] (a2.fld 3) ?_
 obtain ⟨y2,h12,H⟩:=bind_some H
 refine RW.cl ent70 (r1_Two.calls h12 h8.all h8.len h11.all h11.len) ?_
 rintro _ w4 ⟨A7,c_7,rfl,x3,h13⟩
 refine ⟨_,rfl,x3,?_⟩
 have sx3:=x3.size
 have h14:Ow kSeg 105 w4.heap (okL [(w3.heap.size,some w4.heap.size,some 105)]) (okL []) A7 c_7 y2:=h13.close
 obtain ⟨g3,H⟩:=guard_some H
 have h15:=h7.ext x3
 obtain ⟨ad3,A8,c_8,A9,c_9,e3,a3,h16,h17⟩:=kDeviceO_ato h15 g3.1 g3.2
 refine RW.ix tk g3 e3 ?_
 refine pu 1 rfl ?_
 refine RW.storeElL (y:=(⟨(rd vb va).ID,(rd vb va).Size,y2,(rd vb va).Late⟩:Device)) (lv:=[(w3.heap.size,some w4.heap.size,some 105)]) (k:=2) tk h15 (j:=va.toNat) (by have:=g3;omega) default [.slice A7 y2.length c_7] (fun cs ok' hr=>by obtain ⟨qa1,qc1,qa2,qc2,rfl,q1,q2⟩:=kDeviceO_open hr;exact ⟨by simp,kDeviceO_mk (⟨(rd vb va).ID,(rd vb va).Size,y2,(rd vb va).Late⟩:Device) (h14.mono (fun _ _ ho=>Or.inr (okL_sub (l:=[(w3.heap.size,some w4.heap.size,some 105)]) (l':=[(w3.heap.size,some w4.heap.size,some 105)]) ⟨(.inl ⟨by omega,by omega,rfl⟩),trivial⟩ ho)) (fun _ _ ho=>Or.inr (okL_sub (l:=[]) (l':=[(w3.heap.size,some w4.heap.size,some 105)]) trivial ho))) (q2.mono (fun _ _ ho=>Or.inl ho) (fun _ _ ho=>Or.inl ho))⟩) ⟨⟨.inl (nq rfl),trivial⟩,trivial⟩ ⟨rfl,rfl,rfl⟩ rfl rfl e3 rfl rfl rfl rfl rfl ?_
 intro w5 x4 h18
 have sx4:=x4.size
 have h19:=h18.close.sub (l':=[(w.heap.size,some w2.heap.size,some 40)]) (li':=[(w.heap.size,some w4.heap.size,some 105)]) ⟨(.inl ⟨by omega,by omega,rfl⟩),trivial⟩ ⟨(.inl ⟨by omega,by omega,rfl⟩),⟨(.inl ⟨by omega,by omega,rfl⟩),trivial⟩⟩
 refine RW.tell 0 (v':=.slice A2 (vb.set va.toNat (⟨(rd vb va).ID,(rd vb va).Size,y2,(rd vb va).Late⟩:Device)).length c_2) (by simp only [List.length_set]) rfl (RW.tell 14 (v':=.slice A2 (vb.set va.toNat (⟨(rd vb va).ID,(rd vb va).Size,y2,(rd vb va).Late⟩:Device)).length c_2) (by simp only [List.length_set]) rfl ?_)
 obtain ⟨g4,H⟩:=guard_some H
 obtain ⟨ad4,A10,c_10,A11,c_11,e4,a4,h20,h21⟩:=kDeviceO_ato h19 g4.1 g4.2
 refine RW.ix tk g4 e4 ?_
 refine pu 1 rfl ?_
 refine RW.storeElL (y:=(⟨(rd (vb.set va.toNat (⟨(rd vb va).ID,(rd vb va).Size,y2,(rd vb va).Late⟩:Device)) va).ID,(rd (vb.set va.toNat (⟨(rd vb va).ID,(rd vb va).Size,y2,(rd vb va).Late⟩:Device)) va).Size,(rd (vb.set va.toNat (⟨(rd vb va).ID,(rd vb va).Size,y2,(rd vb va).Late⟩:Device)) va).Free,([]:List Seg)⟩:Device)) (lv:=[]) (k:=3) tk h19 (j:=va.toNat) (by have:=g4;omega) default [.slice none 0 0] (fun cs ok' hr=>by obtain ⟨qa1,qc1,qa2,qc2,rfl,q1,q2⟩:=kDeviceO_open hr;exact ⟨by simp,kDeviceO_mk (⟨(rd (vb.set va.toNat (⟨(rd vb va).ID,(rd vb va).Size,y2,(rd vb va).Late⟩:Device)) va).ID,(rd (vb.set va.toNat (⟨(rd vb va).ID,(rd vb va).Size,y2,(rd vb va).Late⟩:Device)) va).Size,(rd (vb.set va.toNat (⟨(rd vb va).ID,(rd vb va).Size,y2,(rd vb va).Late⟩:Device)) va).Free,([]:List Seg)⟩:Device) (q1.mono (fun _ _ ho=>Or.inl ho) (fun _ _ ho=>Or.inl ho)) Ow.nil⟩) trivial ⟨rfl,rfl,rfl⟩ rfl rfl e4 rfl rfl rfl rfl rfl ?_
 intro w6 x5 h22
 have sx5:=x5.size
 have h23:=h22.sub (l':=[(w.heap.size,some w2.heap.size,some 40)]) (li':=[(w.heap.size,some w4.heap.size,some 105)]) ⟨(.inl ⟨by omega,by omega,rfl⟩),trivial⟩ ⟨(.inl ⟨by omega,by omega,rfl⟩),trivial⟩
 refine RW.tell 0 (v':=.slice A2 ((vb.set va.toNat (⟨(rd vb va).ID,(rd vb va).Size,y2,(rd vb va).Late⟩:Device)).set va.toNat (⟨(rd (vb.set va.toNat (⟨(rd vb va).ID,(rd vb va).Size,y2,(rd vb va).Late⟩:Device)) va).ID,(rd (vb.set va.toNat (⟨(rd vb va).ID,(rd vb va).Size,y2,(rd vb va).Late⟩:Device)) va).Size,(rd (vb.set va.toNat (⟨(rd vb va).ID,(rd vb va).Size,y2,(rd vb va).Late⟩:Device)) va).Free,([]:List Seg)⟩:Device)).length c_2) (by simp only [List.length_set]) rfl (RW.done ?_)
 refine NW.norm_block (NW.next ?_)
 refine CW.lw 3 rfl (pu 3 rfl (RW.done ?_))
 have h24:=Ext.turn (Ext.turn ((vc.tr x2).tr x3) x4 ⟨by omega,trivial⟩) x5 ⟨by omega,trivial⟩
 exact NW.J fun a ha=>⟨n1,Nat.lt_succ_self n1,((vb.set va.toNat (⟨(rd vb va).ID,(rd vb va).Size,y2,(rd vb va).Late⟩:Device)).set va.toNat (⟨(rd (vb.set va.toNat (⟨(rd vb va).ID,(rd vb va).Size,y2,(rd vb va).Late⟩:Device)) va).ID,(rd (vb.set va.toNat (⟨(rd vb va).ID,(rd vb va).Size,y2,(rd vb va).Late⟩:Device)) va).Size,(rd (vb.set va.toNat (⟨(rd vb va).ID,(rd vb va).Size,y2,(rd vb va).Late⟩:Device)) va).Free,([]:List Seg)⟩:Device)),(w64 (va+1)),ha.sb,by omega,(h23.sb),h24,(by (try simp only [List.length_set]) <;>omega),H⟩
 refine CW.exit ?_
 refine NW.exit_then (NW.exit_then (NW.exit_hit ?_))
 refine NW.next (CW.seq (CW.lw 2 rfl (pu 2 rfl (RW.done (NW.next (CW.ret ?_))))))
 obtain rfl:=Option.some.inj H
 exact NW.r1 ⟨A2,c_2,rfl,vc,(h6.sub (l':=[(w.heap.size,none,some 40)]) (li':=[(w.heap.size,none,some 105)]) ⟨(.inl ⟨by omega,trivial,rfl⟩),trivial⟩ ⟨(.inl ⟨by omega,trivial,rfl⟩),trivial⟩)⟩
theorem r9_Commit.calls {k:Nat} {p0:Pool} {A1:Option Addr} {c_1:Nat} {A2:Option Addr} {c_2:Nat} {A3:Option Addr} {c_3:Nat} {r:Pool} {w:World} (H:r9_Commit.f k p0=some r) (hs1:Sl kDeviceR w.heap okAll A1 p0.Devices) (hl1:p0.Devices.length≤c_1) (hs2:Sl kTableR w.heap okAll A2 p0.Tables) (hl2:p0.Tables.length≤c_2) (hs3:Sl kEntry w.heap okAll A3 p0.Job.Table.List_) (hl3:p0.Job.Table.List_.length≤c_3):
 Calls Tryz.prog 15 #[.agg #[.slice A1 p0.Devices.length c_1,.slice A2 p0.Tables.length c_2,iv p0.Job.Dev,iv p0.Job.At,iv p0.Job.Table.Dev,iv p0.Job.Table.Size,.slice A3 p0.Job.Table.List_.length c_3,iv p0.Next]] w fun e w'=>∃(B1:Option Addr) (d1:Nat) (B2:Option Addr) (d2:Nat) (B3:Option Addr) (d3:Nat),e=.returned (.agg #[.slice B1 r.Devices.length d1,.slice B2 r.Tables.length d2,iv r.Job.Dev,iv r.Job.At,iv r.Job.Table.Dev,iv r.Job.Table.Size,.slice B3 r.Job.Table.List_.length d3,iv r.Next])∧Ext w w'∧Ow kDeviceO 40 w'.heap (okL [(w.heap.size,none,some 40)]) (okL [(w.heap.size,none,some 105)]) B1 d1 r.Devices∧Ow kTableO 26 w'.heap (okL [(w.heap.size,none,some 26)]) (okL [(w.heap.size,none,some 66)]) B2 d2 r.Tables∧Ow kEntry 66 w'.heap (okL [(w.heap.size,none,some 66)]) (okL []) B3 d3 r.Job.Table.List_:=by
 have h1:Sl kDeviceR w.heap (okL [(0,some w.heap.size,none)]) A1 p0.Devices:=hs1.old _ rfl
 have h2:Sl kTableR w.heap (okL [(0,some w.heap.size,none)]) A2 p0.Tables:=hs2.old _ rfl
 have h3:Sl kEntry w.heap (okL [(0,some w.heap.size,none)]) A3 p0.Job.Table.List_:=hs3.old _ rfl
 have x0:Ext w w:=Upd.refl _ w
 unfold r9_Commit.f at H
 refine cst Tryz.func15 10 ?_
 refine CW.seq (CW.lex [.X,.X] rfl (RW.bx fun b1 w1 x1 sx1 l1 ltb1 h4=>?_))
 refine RW.al tk fun b2 w2 x2 sx2 l2 ltb2 h5=>?_
 refine RW.done (NW.next (CW.seq (CW.lex [.L,.X,.M] rfl ?_)))
 have h6:=h4.ext x2
 refine RW.lw tk h6 ?_
 have h7:=(h1.ext x1).ext x2
 have h8:=(h2.ext x1).ext x2
 have h9:=(h3.ext x1).ext x2
 obtain ⟨y1,h10,H⟩:=bind_some H
 refine RW.cl ent44 (r0_CopyPool.calls h10 h7.all hl1 h8.all hl2 h9.all hl3) ?_
 rintro _ w3 ⟨A4,c_4,A5,c_5,A6,c_6,rfl,x3,h11,h12,h13⟩
 refine ⟨_,rfl,x3,?_⟩
 have sx3:=x3.size
 have h14:Ow kDeviceO 40 w3.heap (okL [(w2.heap.size,some w3.heap.size,some 40)]) (okL [(w2.heap.size,some w3.heap.size,some 105)]) A4 c_4 y1.Devices:=h11.close
 have h15:Ow kTableO 26 w3.heap (okL [(w2.heap.size,some w3.heap.size,some 26)]) (okL [(w2.heap.size,some w3.heap.size,some 66)]) A5 c_5 y1.Tables:=h12.close
 have h16:Ow kEntry 66 w3.heap (okL [(w2.heap.size,some w3.heap.size,some 66)]) (okL []) A6 c_6 y1.Job.Table.List_:=h13.close
 have h17:=h6.ext x3
 refine RW.sf tk h17 fun w4 x4 sx4 h19=>?_
 refine RW.done (NW.next (CW.seq (CW.lex [.W,.L,.X,.W,.M] rfl (pu 1 rfl (RW.lb tk [.slice A4 y1.Devices.length c_4] h19 0 ?_)))))
 have h20:=h14.tB x4 h17
 obtain ⟨y2,h21,H⟩:=bind_some H
 refine RW.cl ent45 (r7_Commit.calls h21 (h20.all.to kDevice_ro rfl) h20.len) ?_
 rintro _ w5 ⟨A7,c_7,rfl,x5,h22⟩
 refine ⟨_,rfl,x5,?_⟩
 have sx5:=x5.size
 have h23:Ow kDeviceO 40 w5.heap (okL [(w4.heap.size,some w5.heap.size,some 40)]) (okL [(w4.heap.size,some w5.heap.size,some 105)]) A7 c_7 y2:=h22.close
 refine pu 1 rfl ?_
 have h24:=h19.ext x5
 refine RW.sp tk h24 [.slice A7 y2.length c_7,.slice A5 y1.Tables.length c_5,iv y1.Job.Dev,iv y1.Job.At,iv y1.Job.Table.Dev,iv y1.Job.Table.Size,.slice A6 y1.Job.Table.List_.length c_6,iv y1.Next] fun w6 x6 sx6 h26=>?_
 refine RW.done (NW.next (CW.seq (CW.lex [.L,.M] rfl (RW.lw tk h26 ?_))))
 have h27:=(((h5.ext x3).tB x4).ext x5).tB x6
 refine RW.sf tk h27 fun w7 x7 sx7 h29=>?_
 refine RW.done (NW.next (CW.ret ?_))
 have h30:=(h23.tB x6 h24).tB x7 h27
 have h31:=(((h15.tB x4 h17).ext x5).tB x6 h24).tB x7 h27
 have h32:=(((h16.tB x4 h17).ext x5).tB x6 h24).tB x7 h27
 obtain rfl:=Option.some.inj H
 have h33:=((((((x0.tr x1).tr x2).tr x3).tB x4).tr x5).tB x6).tB x7
 exact NW.ret1 rfl (resOne_cell tk (h29.at 0) rfl rfl rfl) ⟨A7,c_7,A5,c_5,A6,c_6,rfl,h33,(h30.sub (l':=[(w.heap.size,none,some 40)]) (li':=[(w.heap.size,none,some 105)]) ⟨(.inl ⟨by omega,trivial,rfl⟩),trivial⟩ ⟨(.inl ⟨by omega,trivial,rfl⟩),trivial⟩),(h31.sub (l':=[(w.heap.size,none,some 26)]) (li':=[(w.heap.size,none,some 66)]) ⟨(.inl ⟨by omega,trivial,rfl⟩),trivial⟩ ⟨(.inl ⟨by omega,trivial,rfl⟩),trivial⟩),(h32.sub (l':=[(w.heap.size,none,some 66)]) (li':=[]) ⟨(.inl ⟨by omega,trivial,rfl⟩),trivial⟩ trivial)⟩
theorem r1_List.calls {k:Nat} {A1:Option Addr} {c_1:Nat} {p0:List Seg} {r:(List Int)} {w:World} (H:r1_List.f k p0=some r) (hs1:Sl kSeg w.heap okAll A1 p0) (hl1:p0.length≤c_1):
 Calls Tryz.prog 157 #[.slice A1 p0.length c_1] w fun e w'=>∃(B1:Option Addr) (d1:Nat),e=.returned (.slice B1 r.length d1)∧Ext w w'∧Ow (Kd.int .i64) 3 w'.heap (okL [(w.heap.size,none,some 3)]) (okL []) B1 d1 r:=by
 have h1:Sl kSeg w.heap (okL [(0,some w.heap.size,none)]) A1 p0:=hs1.old _ rfl
 have x0:Ext w w:=Upd.refl _ w
 unfold r1_List.f at H
 refine cst Tryz.func157 20 ?_
 refine CW.seq (CW.lw 1 rfl (pu 1 rfl (RW.done (NW.next (CW.seq (CW.lw 1 rfl (pu 1 rfl ?_)))))))
 refine RW.done (NW.next (CW.seq (CW.lex [.W,.X,.X,.M] rfl (pu 1 rfl (RW.cp H ent28 (fun _ h=>r1_Set.calls h h1.all hl1) fun y1 w1 x1 sx1 H=>?_)))))
 refine RW.al tk fun b1 w2 x2 sx2 l1 ltb1 h3=>?_
 refine RW.storeBox tk h3 (arrB 64 y1) ⟨rfl,rfl,rfl⟩ rfl rfl rfl rfl rfl arrF_len (arrF_all fun _=>rfl) (arrF_fitAll arrF_len) ?_
 intro w3 x3 h4
 have h5:Box w3.heap b1 69 (arrB 64 y1):=by rw [lay_arrFull] at h4;exact h4
 have sx3:=x3.size
 refine RW.done (NW.next (CW.seq (CW.seq (CW.lw 1 rfl (pu 1 rfl (RW.done (NW.next ?_)))))))
 refine CW.block ?_
 refine CW.loop (fun n1 a w4=>∃(vb:List Int) (vc:Option Addr) (vd:Nat) (va:Int),Sat 20 [(3,.slice vc vb.length vd),(4,.pointer (some ⟨b1,0,none⟩)),(5,iv va)] a∧w3.heap.size≤w4.heap.size∧Ow (Kd.int .i64) 3 w4.heap (okL [(w3.heap.size,none,some 3)]) (okL []) vc vd vb∧Ext w w4∧Box w4.heap b1 69 (arrB 64 y1)∧r1_List.l0 y1 n1 vb va=some r) k ?_ ?_
 have h6:=((x0.tr x1).tr x2).tB x3
 exact fun a ha=>⟨([]:List Int),none,0,0,ha.sb,by omega,Ow.nil,h6,h5,H⟩
 rintro n1 a w4 ⟨vb,vc,vd,va,hS,hle,vj,vh,vi,H⟩ hp
 obtain _|n1:=n1
 cases H
 rw [r1_List.l0] at H
 refine CW.go hp hS ?_
 have h7:Ow (Kd.int .i64) 3 w4.heap (okL [(w3.heap.size,some w4.heap.size,some 3)]) (okL []) vc vd vb:=vj.close
 have xt1:Ext w4 w4:=Upd.refl _ _
 refine CW.seq (CW.seq (CW.lw 2 rfl (pu 2 rfl (RW.done (NW.next (CW.i H (fun c1 H=>?_) fun c1 H=>?_))))))
 refine CW.skip (NW.next ?_)
 refine CW.seqJ (fun a w5=>∃(ve:List Int) (vf:Option Addr) (vg:Nat),Sat 20 [(3,.slice vf ve.length vg),(4,.pointer (some ⟨b1,0,none⟩)),(5,iv va)] a∧w4.heap.size≤w5.heap.size∧Ow (Kd.int .i64) 3 w5.heap (okL [(w3.heap.size,none,some 3)]) (okL []) vf vg ve∧Ext w w5∧Box w5.heap b1 69 (arrB 64 y1)∧r1_List.j0 va (r1_List.l0 y1 n1) ve=some r) ?_ ?_
 refine CW.block (CW.seq (CW.lex [.W,.W,.L] rfl (pu 1 rfl ?_)))
 obtain ⟨g1,H⟩:=guard_some H
 refine RW.indexBox tk g1.1 g1.2 ⟨rfl,rfl,rfl,rfl⟩ rfl rfl rfl rfl rfl rfl rfl (RW.ld tk [.bool (y1 va.toNat)] (vi.elF (by have:=g1;omega)) ?_)
 refine RW.done (NW.next (CW.i H (fun c2 H=>?_) fun c2 H=>?_))
 refine CW.lex [.W,.W,.X,.M,.W] rfl (pu 2 rfl (RW.buildSlice (cs:=[iv va]) tk (.inl rfl) ⟨rfl,rfl,rfl,rfl⟩ rfl rfl rfl rfl rfl rfl rfl ?_))
 intro b2 w6 x4 l2 h8
 have sx4:=x4.size
 have ltb2:=h8.lt
 have h9:=h7.ext x4
 obtain ⟨g2,H⟩:=guard_some H
 refine RW.append1L (d:=(Kd.int .i64)) (v:=va) (l:=[(w3.heap.size,some w4.heap.size,some 3)]) (li:=[]) (ly:=[]) (xs:=vb) tk h9 h8 rfl trivial (by simp only [maxLen];omega) g2 ⟨rfl,rfl,rfl,rfl⟩ rfl rfl rfl rfl rfl rfl rfl ?_
 intro A2 c_2 w7 x5 h10
 have sx5:=x5.size
 have h11:=h10.close.sub (l':=[(w3.heap.size,some w7.heap.size,some 3)]) (li':=[]) ⟨(.inl ⟨by omega,by omega,rfl⟩),⟨(.inl ⟨by omega,by omega,rfl⟩),trivial⟩⟩ trivial
 refine pu 1 rfl (RW.done (NW.norm_block ?_))
 have h12:=Ext.turn (vh.tr x4) x5 ⟨by omega,trivial⟩
 have h13:=(vi.ext x4).tL x5
 exact NW.J fun a ha=>⟨(vb++[va]),A2,c_2,ha.sb,by omega,(h11.sb),h12,h13,H⟩
 refine CW.skip (NW.norm_block ?_)
 exact NW.J fun a ha=>⟨vb,vc,vd,ha.sb,by omega,(h7.sb),vh,vi,H⟩
 rintro a w5 ⟨ve,vf,vg,hS,hle,vk,vl,vm,H⟩ hp
 unfold r1_List.j0 at H
 refine CW.go hp hS ?_
 have h14:Ow (Kd.int .i64) 3 w5.heap (okL [(w3.heap.size,some w5.heap.size,some 3)]) (okL []) vf vg ve:=vk.close
 have xt2:Ext w5 w5:=Upd.refl _ _
 refine CW.lw 3 rfl (pu 3 rfl (RW.done ?_))
 exact NW.J fun a ha=>⟨n1,Nat.lt_succ_self n1,ve,vf,vg,(w64 (va+1)),ha.sb,by omega,(h14.sb),vl,vm,H⟩
 refine CW.exit ?_
 refine NW.exit_then (NW.exit_then (NW.exit_hit ?_))
 refine NW.next (CW.seq (CW.lw 2 rfl (pu 2 rfl (RW.done (NW.next (CW.ret ?_))))))
 obtain rfl:=Option.some.inj H
 exact NW.r1 ⟨vc,vd,rfl,vh,(h7.sub (l':=[(w.heap.size,none,some 3)]) (li':=[]) ⟨(.inl ⟨by omega,trivial,rfl⟩),trivial⟩ trivial)⟩
theorem r1_Count.calls {k:Nat} {A1:Option Addr} {c_1:Nat} {p0:List Seg} {r:Int} {w:World} (H:r1_Count.f k p0=some r) (hs1:Sl kSeg w.heap okAll A1 p0) (hl1:p0.length≤c_1):
 Calls Tryz.prog 153 #[.slice A1 p0.length c_1] w fun e w'=>e=.returned (iv r)∧Ext w w':=by
 have h1:Sl kSeg w.heap (okL [(0,some w.heap.size,none)]) A1 p0:=hs1.old _ rfl
 have x0:Ext w w:=Upd.refl _ w
 unfold r1_Count.f at H
 refine cst Tryz.func153 6 ?_
 refine CW.seq (CW.lw 1 rfl (pu 1 rfl (RW.done (NW.next (CW.seq (CW.lex [.W,.X,.W,.W] rfl (pu 1 rfl ?_)))))))
 obtain ⟨y1,h2,H⟩:=bind_some H
 refine RW.cl ent157 (r1_List.calls h2 h1.all hl1) ?_
 rintro _ w1 ⟨A2,c_2,rfl,x1,h3⟩
 refine ⟨_,rfl,x1,?_⟩
 have sx1:=x1.size
 have h4:Ow (Kd.int .i64) 3 w1.heap (okL [(w.heap.size,some w1.heap.size,some 3)]) (okL []) A2 c_2 y1:=h3.close
 refine pu 2 rfl (RW.done (NW.next (CW.ret ?_)))
 obtain rfl:=Option.some.inj H
 have h5:=x0.tr x1
 exact NW.r1 ⟨rfl,h5⟩
theorem r7_Used.calls {k:Nat} {p0:Device} {A1:Option Addr} {c_1:Nat} {A2:Option Addr} {c_2:Nat} {r:Int} {w:World} (H:r7_Used.f k p0=some r) (hs1:Sl kSeg w.heap okAll A1 p0.Free) (hl1:p0.Free.length≤c_1) (hs2:Sl kSeg w.heap okAll A2 p0.Late) (hl2:p0.Late.length≤c_2):
 Calls Tryz.prog 148 #[.agg #[iv p0.ID,iv p0.Size,.slice A1 p0.Free.length c_1,.slice A2 p0.Late.length c_2]] w fun e w'=>e=.returned (iv r)∧Ext w w':=by
 have h1:Sl kSeg w.heap (okL [(0,some w.heap.size,none)]) A1 p0.Free:=hs1.old _ rfl
 have h2:Sl kSeg w.heap (okL [(0,some w.heap.size,none)]) A2 p0.Late:=hs2.old _ rfl
 have x0:Ext w w:=Upd.refl _ w
 unfold r7_Used.f at H
 refine cst Tryz.func148 13 ?_
 refine CW.seq (CW.lex [.X,.W] rfl (RW.bx fun b1 w1 x1 sx1 l1 ltb1 h3=>?_))
 refine pu 1 rfl (RW.done (NW.next (CW.seq (CW.ord [0,1,0,4,12,31,0,64,220,511,1023] (ofL [(0,.W),(2,.W),(6,.W),(1,.L),(3,.L),(7,.L),(4,.X),(5,.W),(8,.X),(9,.W),(10,.W)] .nil) mixed (by kernel_rfl) ?_))))
 intro w2 x2
 have sx2:=x2.size
 refine pu 3 rfl ?_
 have h4:=h3.ext x2
 refine RW.lb tk [iv p0.Size] h4 1 ?_
 refine RW.lb tk [.slice A1 p0.Free.length c_1] h4 2 ?_
 refine RW.lb tk [.slice A2 p0.Late.length c_2] h4 3 ?_
 have h5:=(h1.ext x1).ext x2
 refine RW.cp H ent153 (fun _ h=>r1_Count.calls h h5.all hl1) fun y1 w3 x3 sx3 H=>?_
 refine pu 1 rfl ?_
 have h7:=((h2.ext x1).ext x2).ext x3
 refine RW.cp H ent153 (fun _ h=>r1_Count.calls h h7.all hl2) fun y2 w4 x4 sx4 H=>?_
 refine pu 2 rfl (RW.done (NW.next (CW.ret ?_)))
 obtain rfl:=Option.some.inj H
 have h9:=(((x0.tr x1).tr x2).tr x3).tr x4
 exact NW.r1 ⟨rfl,h9⟩
theorem r9_Fits.calls {k:Nat} {p0:Pool} {A1:Option Addr} {c_1:Nat} {A2:Option Addr} {c_2:Nat} {A3:Option Addr} {c_3:Nat} {p1:Int} {r:Bool} {w:World} (H:r9_Fits.f k p0 p1=some r) (hs1:Sl kDeviceR w.heap okAll A1 p0.Devices) (hl1:p0.Devices.length≤c_1) (hs2:Sl kTableR w.heap okAll A2 p0.Tables) (hl2:p0.Tables.length≤c_2) (hs3:Sl kEntry w.heap okAll A3 p0.Job.Table.List_) (hl3:p0.Job.Table.List_.length≤c_3):
 Calls Tryz.prog 130 #[.agg #[.slice A1 p0.Devices.length c_1,.slice A2 p0.Tables.length c_2,iv p0.Job.Dev,iv p0.Job.At,iv p0.Job.Table.Dev,iv p0.Job.Table.Size,.slice A3 p0.Job.Table.List_.length c_3,iv p0.Next],iv p1] w fun e w'=>e=.returned (.bool r)∧Ext w w':=by
 have h1:Sl kDeviceR w.heap (okL [(0,some w.heap.size,none)]) A1 p0.Devices:=hs1.old _ rfl
 have h2:Sl kTableR w.heap (okL [(0,some w.heap.size,none)]) A2 p0.Tables:=hs2.old _ rfl
 have h3:Sl kEntry w.heap (okL [(0,some w.heap.size,none)]) A3 p0.Job.Table.List_:=hs3.old _ rfl
 have x0:Ext w w:=Upd.refl _ w
 unfold r9_Fits.f at H
 refine cst Tryz.func130 40 ?_
 refine CW.seq (CW.lex [.X,.W] rfl (RW.bx fun b1 w1 x1 sx1 l1 ltb1 h4=>?_))
 refine pu 1 rfl (RW.done (NW.next (CW.seq (CW.lw 1 rfl (pu 1 rfl (RW.done (NW.next ?_)))))))
 refine CW.seq (CW.seq (CW.lw 1 rfl (pu 1 rfl (RW.done (NW.next (CW.block ?_))))))
 refine CW.loop (fun n1 a w2=>∃(vb:Int) (va:Int),Sat 40 [(1,iv p1),(2,.pointer (some ⟨b1,0,none⟩)),(5,iv vb),(6,iv va)] a∧w1.heap.size≤w2.heap.size∧Ext w w2∧Box w2.heap b1 30 [.slice A1 p0.Devices.length c_1,.slice A2 p0.Tables.length c_2,iv p0.Job.Dev,iv p0.Job.At,iv p0.Job.Table.Dev,iv p0.Job.Table.Size,.slice A3 p0.Job.Table.List_.length c_3,iv p0.Next]∧r9_Fits.l0 p0 p1 k n1 vb va=some r) k ?_ ?_
 have h5:=x0.tr x1
 exact fun a ha=>⟨0,0,ha.sb,by omega,h5,h4,H⟩
 rintro n1 a w2 ⟨vb,va,hS,hle,vc,vd,H⟩ hp
 obtain _|n1:=n1
 cases H
 rw [r9_Fits.l0] at H
 refine CW.go hp hS ?_
 have xt1:Ext w2 w2:=Upd.refl _ _
 refine CW.seq (CW.seq (CW.lex [.W,.W,.L,.W,.W] rfl (pu 2 rfl (RW.lb tk [.slice A1 p0.Devices.length c_1] vd 0 ?_))))
 refine pu 2 rfl (RW.done (NW.next (CW.i H (fun c1 H=>?_) fun c1 H=>?_)))
 refine CW.skip (NW.next ?_)
 refine CW.seqJ (fun a w3=>∃(ve:Int),Sat 40 [(1,iv p1),(2,.pointer (some ⟨b1,0,none⟩)),(5,iv ve),(6,iv va)] a∧w2.heap.size≤w3.heap.size∧Ext w w3∧Ext w2 w3∧r9_Fits.j0 va (r9_Fits.l0 p0 p1 k n1) ve=some r) ?_ ?_
 refine CW.block (CW.seq (CW.lw 3 rfl (pu 3 rfl (RW.done (NW.next (CW.n H (fun c2 H=>?_) fun c2 H=>?_))))))
 refine CW.skip (NW.norm_block ?_)
 exact NW.J fun a ha=>⟨vb,ha.sb,by omega,vc,xt1,H⟩
 refine CW.ord [0,0,2,0,14,30,62,127,0,256,0,1792,3840,7936,16383,32767] (ofL [(0,.W),(1,.W),(3,.W),(8,.W),(10,.W),(2,.L),(4,.W),(5,.W),(6,.L),(7,.W),(9,.L),(11,.W),(12,.L),(13,.X),(14,.W),(15,.W)] .nil) mixed (by kernel_rfl) ?_
 intro w4 x2
 have sx2:=x2.size
 refine pu 5 rfl ?_
 have h6:=vd.ext x2
 refine RW.lb tk [.slice A1 p0.Devices.length c_1] h6 0 ?_
 obtain ⟨g1,H⟩:=guard_some H
 have h7:=(h1.ext vc).ext x2
 obtain ⟨ad1,A4,c_4,A5,c_5,e1,a1,l2,h8,l3,h9⟩:=kDeviceR_at h7 g1.1 g1.2
 refine RW.ix tk g1 e1 ?_
 refine pu 1 rfl (RW.ld tk [iv ((rd p0.Devices va).Size)] ((a1.fld 1).take 1 rfl) ?_)
 refine pu 1 rfl (RW.lb tk [.slice A1 p0.Devices.length c_1] h6 0 ?_)
 obtain ⟨g2,H⟩:=guard_some H
 obtain ⟨ad2,A6,c_6,A7,c_7,e2,a2,l4,h10,l5,h11⟩:=kDeviceR_at h7 g2.1 g2.2
 refine RW.ix tk g2 e2 ?_
 refine RW.ld tk _ a2 ?_
 refine RW.cp H ent148 (fun _ h=>r7_Used.calls h h10.all l4 h11.all l5) fun y1 w5 x3 sx3 H=>?_
 refine pu 2 rfl (RW.done (NW.norm_block ?_))
 have h13:=(vc.tr x2).tr x3
 have h14:=(xt1.tr x2).tr x3
 exact NW.J fun a ha=>⟨(w64 ((w64 (vb+((rd p0.Devices va).Size)))-y1)),ha.sb,by omega,h13,h14,H⟩
 rintro a w3 ⟨ve,hS,hle,vf,vg,H⟩ hp
 unfold r9_Fits.j0 at H
 refine CW.go hp hS (CW.lw 3 rfl (pu 3 rfl (RW.done ?_)))
 exact NW.J fun a ha=>⟨n1,Nat.lt_succ_self n1,ve,(w64 (va+1)),ha.sb,by omega,vf,(vd.ext vg),H⟩
 refine CW.exit ?_
 refine NW.exit_then (NW.exit_then (NW.exit_hit ?_))
 refine NW.next (CW.seq (CW.lex [.W,.W,.L,.W,.W,.L,.X,.W,.W] rfl (pu 2 rfl (RW.lb tk [.slice A1 p0.Devices.length c_1] vd 0 ?_))))
 refine pu 1 rfl ?_
 obtain ⟨g3,H⟩:=guard_some H
 obtain ⟨ad3,A8,c_8,A9,c_9,e3,a3,l6,h15,l7,h16⟩:=kDeviceR_at (h1.ext vc) g3.1 g3.2
 refine RW.ix tk g3 e3 ?_
 refine RW.ld tk _ a3 ?_
 refine RW.cp H ent148 (fun _ h=>r7_Used.calls h h15.all l6 h16.all l7) fun y2 w6 x4 sx4 H=>?_
 refine pu 2 rfl (RW.done (NW.next (CW.ret ?_)))
 obtain rfl:=Option.some.inj H
 have h18:=vc.tr x4
 exact NW.r1 ⟨rfl,h18⟩
theorem r9_Remove.calls {k:Nat} {p0:Pool} {A1:Option Addr} {c_1:Nat} {A2:Option Addr} {c_2:Nat} {A3:Option Addr} {c_3:Nat} {p1:Int} {r:Pool×Int} {w:World} (H:r9_Remove.f k p0 p1=some r) (hs1:Sl kDeviceR w.heap okAll A1 p0.Devices) (hl1:p0.Devices.length≤c_1) (hs2:Sl kTableR w.heap okAll A2 p0.Tables) (hl2:p0.Tables.length≤c_2) (hs3:Sl kEntry w.heap okAll A3 p0.Job.Table.List_) (hl3:p0.Job.Table.List_.length≤c_3):
 Calls Tryz.prog 104 #[.agg #[.slice A1 p0.Devices.length c_1,.slice A2 p0.Tables.length c_2,iv p0.Job.Dev,iv p0.Job.At,iv p0.Job.Table.Dev,iv p0.Job.Table.Size,.slice A3 p0.Job.Table.List_.length c_3,iv p0.Next],iv p1] w fun e w'=>∃(B1:Option Addr) (d1:Nat) (B2:Option Addr) (d2:Nat) (B3:Option Addr) (d3:Nat),e=.returned (.tuple #[.agg #[.slice B1 r.1.Devices.length d1,.slice B2 r.1.Tables.length d2,iv r.1.Job.Dev,iv r.1.Job.At,iv r.1.Job.Table.Dev,iv r.1.Job.Table.Size,.slice B3 r.1.Job.Table.List_.length d3,iv r.1.Next],iv r.2])∧Ext w w'∧Ow kDeviceO 40 w'.heap (okL [(w.heap.size,none,some 40)]) (okL [(w.heap.size,none,some 105)]) B1 d1 r.1.Devices∧Ow kTableO 26 w'.heap (okL [(w.heap.size,none,some 26)]) (okL [(w.heap.size,none,some 66)]) B2 d2 r.1.Tables∧Ow kEntry 66 w'.heap (okL [(w.heap.size,none,some 66)]) (okL []) B3 d3 r.1.Job.Table.List_:=by
 have h1:Sl kDeviceR w.heap (okL [(0,some w.heap.size,none)]) A1 p0.Devices:=hs1.old _ rfl
 have h2:Sl kTableR w.heap (okL [(0,some w.heap.size,none)]) A2 p0.Tables:=hs2.old _ rfl
 have h3:Sl kEntry w.heap (okL [(0,some w.heap.size,none)]) A3 p0.Job.Table.List_:=hs3.old _ rfl
 have x0:Ext w w:=Upd.refl _ w
 unfold r9_Remove.f at H
 refine cst Tryz.func104 48 ?_
 refine CW.seq (CW.lex [.X,.X,.W] rfl (RW.bx fun b1 w1 x1 sx1 l1 ltb1 h4=>?_))
 refine RW.al tk fun b2 w2 x2 sx2 l2 ltb2 h5=>?_
 refine pu 1 rfl (RW.done (NW.next (CW.seq (CW.lex [.W,.L,.W,.X,.W] rfl (pu 1 rfl ?_)))))
 have h6:=h4.ext x2
 refine RW.lb tk [.slice A1 p0.Devices.length c_1] h6 0 ?_
 refine pu 1 rfl ?_
 have h7:=(h1.ext x1).ext x2
 refine RW.cp H ent23 (fun _ h=>r7_At.calls h h7.all hl1) fun y1 w3 x3 sx3 H=>?_
 refine pu 1 rfl (RW.done (NW.next (CW.seq (CW.seq (CW.lw 2 rfl (pu 2 rfl (RW.done ?_)))))))
 refine NW.next ?_
 have j1:=h5.ext x3
 have j2:=((x0.tr x1).tr x2).tr x3
 refine CW.i H (fun c1 H=>?_) fun c1 H=>?_
 refine CW.seq (CW.lex [.W,.M,.W] rfl (pu 1 rfl (RW.sf tk j1 fun w4 x4 sx4 h11=>?_)))
 refine pu 1 rfl (RW.done (NW.next (CW.ret (NW.ret_then ?_))))
 obtain rfl:=Option.some.inj H
 have h12:=j2.tB x4
 exact NW.ret2 rfl (resOne_cell tk (h11.at 0) rfl rfl rfl) (by rfl) ⟨none,0,none,0,none,0,rfl,h12,Ow.nil,Ow.nil,Ow.nil⟩
 refine CW.skip (NW.next (CW.seq (CW.seq (CW.lex [.W,.W,.L,.W] rfl (pu 2 rfl ?_)))))
 have h13:=h6.ext x3
 refine RW.lb tk [iv p0.Job.Dev] h13 2 ?_
 refine pu 1 rfl (RW.done (NW.next (CW.n H (fun c2 H=>?_) fun c2 H=>?_)))
 refine CW.skip (NW.next (CW.seq (CW.seq (CW.lex [.W,.L,.W,.W] rfl (pu 1 rfl (RW.lb tk [.slice A1 p0.Devices.length c_1] h13 0 ?_))))))
 refine pu 2 rfl (RW.done (NW.next (CW.i H (fun c3 H=>?_) fun c3 H=>?_)))
 refine CW.seq (CW.lex [.W,.M,.W] rfl (pu 1 rfl (RW.sf tk j1 fun w5 x5 sx5 h16=>?_)))
 refine pu 1 rfl (RW.done (NW.next (CW.ret (NW.ret_then ?_))))
 obtain rfl:=Option.some.inj H
 have h17:=j2.tB x5
 exact NW.ret2 rfl (resOne_cell tk (h16.at 0) rfl rfl rfl) (by rfl) ⟨none,0,none,0,none,0,rfl,h17,Ow.nil,Ow.nil,Ow.nil⟩
 refine CW.skip (NW.next (CW.seq (CW.seq (CW.lex [.W,.L,.W,.W] rfl (pu 1 rfl (RW.lb tk [.slice A2 p0.Tables.length c_2] h13 1 ?_))))))
 refine pu 2 rfl (RW.done (NW.next (CW.i H (fun c4 H=>?_) fun c4 H=>?_)))
 refine CW.seq (CW.lex [.W,.M,.W] rfl (pu 1 rfl (RW.sf tk j1 fun w6 x6 sx6 h20=>?_)))
 refine pu 1 rfl (RW.done (NW.next (CW.ret (NW.ret_then ?_))))
 obtain rfl:=Option.some.inj H
 have h21:=j2.tB x6
 exact NW.ret2 rfl (resOne_cell tk (h20.at 0) rfl rfl rfl) (by rfl) ⟨none,0,none,0,none,0,rfl,h21,Ow.nil,Ow.nil,Ow.nil⟩
 refine CW.skip (NW.next (CW.seq (CW.seq (CW.lex [.L,.W,.X,.W] rfl (RW.lw tk h13 ?_)))))
 refine pu 1 rfl ?_
 have h22:=h7.ext x3
 have h23:=((h2.ext x1).ext x2).ext x3
 have h24:=((h3.ext x1).ext x2).ext x3
 refine RW.cp H ent130 (fun _ h=>r9_Fits.calls h h22.all hl1 h23.all hl2 h24.all hl3) fun y2 w7 x7 sx7 H=>?_
 refine pu 1 rfl (RW.done (NW.next ?_))
 have j3:=j1.ext x7
 refine CW.n H (fun c5 H=>?_) fun c5 H=>?_
 refine CW.skip (NW.next (CW.seq (CW.lex [.L,.X,.M] rfl ?_)))
 have h26:=h13.ext x7
 refine RW.lw tk h26 ?_
 have h27:=h22.ext x7
 have h28:=h23.ext x7
 have h29:=h24.ext x7
 obtain ⟨y3,h30,H⟩:=bind_some H
 refine RW.cl ent15 (r9_Commit.calls h30 h27.all hl1 h28.all hl2 h29.all hl3) ?_
 rintro _ w8 ⟨A4,c_4,A5,c_5,A6,c_6,rfl,x8,h31,h32,h33⟩
 refine ⟨_,rfl,x8,?_⟩
 have sx8:=x8.size
 have h34:Ow kDeviceO 40 w8.heap (okL [(w7.heap.size,some w8.heap.size,some 40)]) (okL [(w7.heap.size,some w8.heap.size,some 105)]) A4 c_4 y3.Devices:=h31.close
 have h35:Ow kTableO 26 w8.heap (okL [(w7.heap.size,some w8.heap.size,some 26)]) (okL [(w7.heap.size,some w8.heap.size,some 66)]) A5 c_5 y3.Tables:=h32.close
 have h36:Ow kEntry 66 w8.heap (okL [(w7.heap.size,some w8.heap.size,some 66)]) (okL []) A6 c_6 y3.Job.Table.List_:=h33.close
 have h37:=h26.ext x8
 refine RW.sf tk h37 fun w9 x9 sx9 h39=>?_
 refine RW.done (NW.next (CW.seq (CW.lex [.W,.W,.W,.L,.W,.W,.W,.L,.W,.W,.W,.M] rfl (pu 3 rfl (RW.lb tk [.slice A4 y3.Devices.length c_4] h39 0 ?_)))))
 refine pu 1 rfl ?_
 obtain ⟨g1,H⟩:=guard_some H
 have h40:=h34.tB x9 h37
 obtain ⟨ad1,A7,c_7,A8,c_8,e1,a1,h41,h42⟩:=kDeviceO_ato h40 g1.1 g1.2
 refine RW.ix tk g1 e1 ?_
 refine pu 1 rfl (RW.ld tk [iv ((rd y3.Devices y1).Size)] ((a1.fld 1).take 1 rfl) ?_)
 refine pu 3 rfl (RW.sp tk h39 [.slice A4 y3.Devices.length c_4,.slice A5 y3.Tables.length c_5,iv p1,iv 0,iv p1,iv ((rd y3.Devices y1).Size),.slice none 0 0,iv y3.Next] fun w10 x10 sx10 h44=>?_)
 refine RW.done (NW.next (CW.seq (CW.lex [.L,.M,.W] rfl (RW.lw tk h44 ?_))))
 have h45:=((j3.ext x8).tB x9).tB x10
 refine RW.sf tk h45 fun w11 x11 sx11 h47=>?_
 refine pu 1 rfl (RW.done (NW.next (CW.ret ?_)))
 have h48:=(h40.tB x10 h39).tB x11 h45
 have h49:=((h35.tB x9 h37).tB x10 h39).tB x11 h45
 obtain rfl:=Option.some.inj H
 have h50:=((((j2.tr x7).tr x8).tB x9).tB x10).tB x11
 exact NW.ret2 rfl (resOne_cell tk (h47.at 0) rfl rfl rfl) (by rfl) ⟨A4,c_4,A5,c_5,none,0,rfl,h50,(h48.sub (l':=[(w.heap.size,none,some 40)]) (li':=[(w.heap.size,none,some 105)]) ⟨(.inl ⟨by omega,trivial,rfl⟩),trivial⟩ ⟨(.inl ⟨by omega,trivial,rfl⟩),trivial⟩),(h49.sub (l':=[(w.heap.size,none,some 26)]) (li':=[(w.heap.size,none,some 66)]) ⟨(.inl ⟨by omega,trivial,rfl⟩),trivial⟩ ⟨(.inl ⟨by omega,trivial,rfl⟩),trivial⟩),Ow.nil⟩
 refine CW.seq (CW.lex [.W,.M,.W] rfl (pu 1 rfl (RW.sf tk j3 fun w12 x12 sx12 h53=>?_)))
 refine pu 1 rfl (RW.done (NW.next (CW.ret (NW.ret_then ?_))))
 obtain rfl:=Option.some.inj H
 have h54:=(j2.tr x7).tB x12
 exact NW.ret2 rfl (resOne_cell tk (h53.at 0) rfl rfl rfl) (by rfl) ⟨none,0,none,0,none,0,rfl,h54,Ow.nil,Ow.nil,Ow.nil⟩
 refine CW.seq (CW.lex [.W,.M,.W] rfl (pu 1 rfl (RW.sf tk j1 fun w13 x13 sx13 h57=>?_)))
 refine pu 1 rfl (RW.done (NW.next (CW.ret (NW.ret_then ?_))))
 obtain rfl:=Option.some.inj H
 have h58:=j2.tB x13
 exact NW.ret2 rfl (resOne_cell tk (h57.at 0) rfl rfl rfl) (by rfl) ⟨none,0,none,0,none,0,rfl,h58,Ow.nil,Ow.nil,Ow.nil⟩
theorem table_Tidy_1.calls {p0:Entry} {r:Bool} {w:World} (H:table_Tidy_1.f p0=some r):
 Calls Tryz.prog 151 #[.agg #[iv p0.From,iv p0.Len,iv p0.Dev,iv p0.To,iv p0.Stale]] w fun e w'=>e=.returned (.bool r)∧Ext w w':=by
 have x0:Ext w w:=Upd.refl _ w
 unfold table_Tidy_1.f at H
 refine cst Tryz.func151 8 ?_
 refine CW.seq (CW.lex [.X,.W] rfl (RW.bx fun b1 w1 x1 sx1 l1 ltb1 h1=>?_))
 refine pu 1 rfl (RW.done (NW.next (CW.seq (CW.lex [.W,.L,.W,.L,.W,.W] rfl (pu 1 rfl (RW.lb tk [iv p0.Stale] h1 4 ?_))))))
 refine pu 1 rfl (RW.lb tk [iv p0.Len] h1 1 ?_)
 refine pu 2 rfl (RW.done (NW.next (CW.ret ?_)))
 obtain rfl:=Option.some.inj H
 have h2:=x0.tr x1
 exact NW.r1 ⟨rfl,h2⟩
theorem table_Tidy.calls {k:Nat} {p0:Table} {A1:Option Addr} {c_1:Nat} {r:Table×Int} {w:World} (H:table_Tidy.f k p0=some r) (hs1:Sl kEntry w.heap okAll A1 p0.List_) (hl1:p0.List_.length≤c_1):
 Calls Tryz.prog 135 #[.agg #[iv p0.Dev,iv p0.Size,.slice A1 p0.List_.length c_1]] w fun e w'=>∃(B1:Option Addr) (d1:Nat),e=.returned (.tuple #[.agg #[iv r.1.Dev,iv r.1.Size,.slice B1 r.1.List_.length d1],iv r.2])∧Ext w w'∧Ow kEntry 66 w'.heap (okL [(w.heap.size,none,some 66)]) (okL []) B1 d1 r.1.List_:=by
 have h1:Sl kEntry w.heap (okL [(0,some w.heap.size,none)]) A1 p0.List_:=hs1.old _ rfl
 have x0:Ext w w:=Upd.refl _ w
 unfold table_Tidy.f at H
 refine cst Tryz.func135 15 ?_
 refine CW.seq (CW.lex [.X,.X,.W] rfl (RW.bx fun b1 w1 x1 sx1 l1 ltb1 h2=>?_))
 refine RW.al tk fun b2 w2 x2 sx2 l2 ltb2 h3=>?_
 refine pu 1 rfl (RW.done (NW.next (CW.seq (CW.seq (CW.lex [.L,.X,.W] rfl ?_)))))
 have h4:=h2.ext x2
 refine RW.lw tk h4 ?_
 have h5:=(h1.ext x1).ext x2
 refine RW.cp H ent113 (fun _ h=>table_May.calls h h5.all hl1) fun y1 w3 x3 sx3 H=>?_
 refine pu 1 rfl (RW.done (NW.next ?_))
 have j1:=((x0.tr x1).tr x2).tr x3
 have j2:=h3.ext x3
 refine CW.n H (fun c1 H=>?_) fun c1 H=>?_
 refine CW.skip (NW.next (CW.seq (CW.lex [.L,.X,.M] rfl ?_)))
 have h7:=h4.ext x3
 refine RW.lw tk h7 ?_
 have h8:=h5.ext x3
 obtain ⟨y2,h9,H⟩:=bind_some H
 refine RW.cl ent86 (table_Own.calls h9 h8.all hl1) ?_
 rintro _ w4 ⟨A2,c_2,rfl,x4,h10⟩
 refine ⟨_,rfl,x4,?_⟩
 have sx4:=x4.size
 have h11:Ow kEntry 66 w4.heap (okL [(w3.heap.size,some w4.heap.size,some 66)]) (okL []) A2 c_2 y2.List_:=h10.close
 have h12:=h7.ext x4
 refine RW.sf tk h12 fun w5 x5 sx5 h14=>?_
 refine RW.done (NW.next (CW.seq (CW.lex [.W,.L,.M,.W,.M] rfl (pu 1 rfl (RW.lb tk [.slice A2 y2.List_.length c_2] h14 2 ?_)))))
 refine RW.callFM (R:=fun e w6=>∃(ve:List Entry) (vf:Option Addr) (vg:Nat) (vj:List Entry) (vm:Option Addr) (vn:Nat),e=.returned (.slice vf ve.length vg)∧w5.heap.size≤w6.heap.size∧Ow kEntry 66 w6.heap (okL [(w3.heap.size,some w4.heap.size,some 66)]) (okL []) vf vg ve∧Ow kEntry 66 w6.heap (okL [(w3.heap.size,some w4.heap.size,some 66)]) (okL []) vm vn vj∧Ext w w6∧Box w6.heap b1 26 [iv y2.Dev,iv y2.Size,.slice vm vj.length vn]∧Box w6.heap b2 26 [iv 0,iv 0,.slice none 0 0]∧table_Tidy.j0 y2 ve vj=some r) ent150 ⟨rfl,rfl,rfl,rfl⟩ rfl rfl rfl ?_ ?_
 refine cst Tryz.func150 42 ?_
 refine CW.seq (CW.lw 1 rfl (pu 1 rfl (RW.done (NW.next (CW.seq (CW.lex [.W,.W,.X,.W] rfl (pu 2 rfl ?_)))))))
 have xc1:Ext w5 w5:=Upd.refl _ _
 refine RW.callV (R:=fun e w7=>∃(vh:Int),e=.returned (iv vh)∧w5.heap.size≤w7.heap.size∧Ow kEntry 66 w7.heap (okL [(w3.heap.size,some w4.heap.size,some 66)]) (okL []) A2 c_2 y2.List_∧Ext w w7∧Ext w5 w7∧Box w7.heap b1 26 [iv y2.Dev,iv y2.Size,.slice A2 y2.List_.length c_2]∧Box w7.heap b2 26 [iv 0,iv 0,.slice none 0 0]∧table_Tidy.j1 k y2 vh=some r) (.inl rfl) ent144 ⟨rfl,rfl,rfl,rfl⟩ rfl rfl rfl ?_ ?_
 refine cst Tryz.func144 19 ?_
 refine CW.seq (CW.lw 1 rfl (pu 1 rfl (RW.done (NW.next (CW.seq (CW.seq (CW.lw 3 rfl ?_)))))))
 refine pu 3 rfl (RW.done (NW.next (CW.block ?_)))
 refine CW.loop (fun n1 a w8=>∃(vi:Int),Sat 19 [(0,.slice A2 y2.List_.length c_2),(1,.func (.func 151) #[] #[]),(7,iv (y2.List_.length:Int)),(8,iv vi)] a∧w5.heap.size≤w8.heap.size∧Ow kEntry 66 w8.heap (okL [(w3.heap.size,some w4.heap.size,some 66)]) (okL []) A2 c_2 y2.List_∧Ext w w8∧Ext w5 w8∧Box w8.heap b1 26 [iv y2.Dev,iv y2.Size,.slice A2 y2.List_.length c_2]∧Box w8.heap b2 26 [iv 0,iv 0,.slice none 0 0]∧table_Tidy.l0 k y2 n1 vi=some r) k ?_ ?_
 have h15:=h11.tB x5 h12
 have h16:=(j1.tr x4).tB x5
 have h17:=(j2.ext x4).tB x5
 exact fun a ha=>⟨0,ha.sb,by omega,h15,h16,xc1,h14,h17,H⟩
 rintro n1 a w8 ⟨vi,hS,hle,vo,vr,vs,vt,vu,H⟩ hp
 obtain _|n1:=n1
 cases H
 rw [table_Tidy.l0] at H
 refine CW.go hp hS ?_
 have xt1:Ext w8 w8:=Upd.refl _ _
 refine CW.seq (CW.lw 1 rfl (pu 1 rfl (RW.done (NW.next (CW.seq (CW.i H (fun c2 H=>?_) fun c2 H=>?_))))))
 refine CW.skip (NW.next (CW.seq (CW.block (CW.seq (CW.lw 2 rfl (pu 2 rfl (RW.done ?_)))))))
 refine NW.next (CW.seq (CW.lex [.W,.W,.W,.W,.L,.M] rfl (pu 3 rfl ?_)))
 obtain ⟨g1,H⟩:=guard_some H
 obtain ⟨ad1,e1,a1⟩:=kEntry_at vo.slL g1.1 g1.2
 refine RW.ix tk g1 e1 ?_
 refine RW.ld tk _ a1 ?_
 obtain ⟨y3,h18,H⟩:=bind_some H
 refine RW.callV (cap:=[]) (.inr rfl) ent151 ⟨rfl,rfl,rfl,rfl⟩ rfl rfl rfl (table_Tidy_1.calls h18) ?_
 rintro _ w9 ⟨rfl,x6⟩
 refine ⟨_,rfl,x6,?_⟩
 have sx6:=x6.size
 refine RW.done (NW.next ?_)
 have j3:=vo.ext x6
 have j4:=vr.tr x6
 have j5:=vs.tr x6
 have j6:=vt.ext x6
 have j7:=vu.ext x6
 refine CW.i H (fun c3 H=>?_) fun c3 H=>?_
 refine CW.seq (CW.lw 2 rfl (pu 2 rfl (RW.done (NW.next (CW.ret ?_)))))
 refine NW.ret_block (NW.ret_then (NW.ret_then (NW.ret_block (NW.ret_then ?_))))
 exact NW.r1 ⟨vi,rfl,by omega,j3,j4,j5,j6,j7,H⟩
 refine CW.skip ?_
 refine NW.norm_block (NW.next ?_)
 refine CW.lw 2 rfl (pu 2 rfl (RW.done ?_))
 exact NW.J fun a ha=>⟨n1,Nat.lt_succ_self n1,(w64 (vi+1)),ha.sb,by omega,j3,j4,j5,j6,j7,H⟩
 refine CW.exit ?_
 refine NW.exit_then (NW.exit_then (NW.exit_hit ?_))
 refine NW.next (CW.seq (CW.lw 1 rfl (pu 1 rfl (RW.done (NW.next (CW.ret ?_))))))
 exact NW.r1 ⟨(-1),rfl,by omega,vo,vr,vs,vt,vu,H⟩
 rintro _ w7 ⟨vh,rfl,hle,vp,vv,vB,vw,vx,H⟩
 refine ⟨_,rfl,vB,?_⟩
 unfold table_Tidy.j1 at H
 have xt2:Ext w7 w7:=Upd.refl _ _
 refine pu 1 rfl (RW.done (NW.next (CW.seq (CW.seq (CW.lw 2 rfl (pu 2 rfl (RW.done ?_)))))))
 refine NW.next (CW.i H (fun c4 H=>?_) fun c4 H=>?_)
 refine CW.seq (CW.lw 2 rfl (pu 2 rfl (RW.done (NW.next (CW.ret (NW.ret_then ?_))))))
 exact NW.r1 ⟨y2.List_,A2,c_2,y2.List_,A2,c_2,rfl,by omega,(vp.sb),(vp.sb),vv,vw,vx,H⟩
 refine CW.skip (NW.next (CW.seq (CW.seq (CW.lw 3 rfl (pu 3 rfl (RW.done (NW.next ?_)))))))
 refine CW.block ?_
 refine CW.loop (fun n2 a w10=>∃(va:List Entry) (vb:Int) (vc:Int),Sat 42 [(0,.slice A2 va.length c_2),(1,.func (.func 151) #[] #[]),(5,iv vb),(6,iv vc)] a∧w7.heap.size≤w10.heap.size∧Ow kEntry 66 w10.heap (okL [(w3.heap.size,some w4.heap.size,some 66)]) (okL []) A2 c_2 va∧Ext w w10∧va.length=y2.List_.length∧Box w10.heap b1 26 [iv y2.Dev,iv y2.Size,.slice A2 va.length c_2]∧Box w10.heap b2 26 [iv 0,iv 0,.slice none 0 0]∧table_Tidy.l1 y2 n2 va vb vc=some r) k ?_ ?_
 exact fun a ha=>⟨y2.List_,vh,(w64 (vh+1)),ha.sb,by omega,(vp.sb),vv,(by (try simp only [List.length_set]) <;>omega),vw,vx,H⟩
 rintro n2 a w10 ⟨va,vb,vc,hS,hle,vk,vq,vJ,vy,vz,H⟩ hp
 obtain _|n2:=n2
 cases H
 rw [table_Tidy.l1] at H
 refine CW.go hp hS ?_
 have xt3:Ext w10 w10:=Upd.refl _ _
 refine CW.seq (CW.seq (CW.lw 4 rfl (pu 4 rfl (RW.done (NW.next (CW.i H (fun c5 H=>?_) fun c5 H=>?_))))))
 refine CW.skip (NW.next ?_)
 refine CW.seqJ (fun a w11=>∃(vd:List Entry) (vl:Int),Sat 42 [(0,.slice A2 vd.length c_2),(1,.func (.func 151) #[] #[]),(5,iv vl),(6,iv vc)] a∧w10.heap.size≤w11.heap.size∧Ow kEntry 66 w11.heap (okL [(w3.heap.size,some w4.heap.size,some 66)]) (okL []) A2 c_2 vd∧Ext w w11∧vd.length=va.length∧Box w11.heap b1 26 [iv y2.Dev,iv y2.Size,.slice A2 vd.length c_2]∧Box w11.heap b2 26 [iv 0,iv 0,.slice none 0 0]∧table_Tidy.j2 vc (table_Tidy.l1 y2 n2) vd vl=some r) ?_ ?_
 refine CW.block (CW.seq (CW.lex [.W,.W,.W,.L,.X,.M] rfl (pu 2 rfl ?_)))
 obtain ⟨g2,H⟩:=guard_some H
 obtain ⟨ad2,e2,a2⟩:=kEntry_at vk.slL g2.1 g2.2
 refine RW.ix tk g2 e2 ?_
 refine RW.ld tk _ a2 ?_
 refine RW.al tk fun b3 w12 x7 sx7 l3 ltb3 h29=>?_
 refine RW.sf tk h29 fun w13 x8 sx8 h31=>?_
 refine RW.done (NW.next (CW.seq (CW.lex [.W,.L,.M,.W] rfl (pu 1 rfl (RW.lw tk h31 ?_)))))
 obtain ⟨y4,h32,H⟩:=bind_some H
 refine RW.callV (cap:=[]) (.inr rfl) ent151 ⟨rfl,rfl,rfl,rfl⟩ rfl rfl rfl (table_Tidy_1.calls h32) ?_
 rintro _ w14 ⟨rfl,x9⟩
 refine ⟨_,rfl,x9,?_⟩
 have sx9:=x9.size
 refine pu 1 rfl (RW.done (NW.next ?_))
 have j8:=((vk.ext x7).turnB x8 h29 ⟨.inr (by omega),trivial⟩ trivial).ext x9
 have j9:=((vy.ext x7).tB x8).ext x9
 have j10:=((vz.ext x7).tB x8).ext x9
 refine CW.n H (fun c6 H=>?_) fun c6 H=>?_
 refine CW.skip (NW.norm_block ?_)
 have h34:=((vq.tr x7).tB x8).tr x9
 exact NW.J fun a ha=>⟨va,vb,ha.sb,by omega,(j8.sb),h34,(by (try simp only [List.length_set]) <;>omega),j9,j10,H⟩
 refine CW.seq (CW.lex [.W,.W,.L,.W,.M] rfl (pu 2 rfl ?_))
 have h37:=h31.ext x9
 refine RW.lw tk h37 ?_
 obtain ⟨g3,H⟩:=guard_some H
 obtain ⟨ad3,e3,a3⟩:=kEntry_at j8.slL g3.1 g3.2
 refine RW.ix tk g3 e3 ?_
 refine RW.storeElL0 (y:=(rd va vc)) (lv:=[]) tk j8 (j:=vb.toNat) (by have:=g3;omega) default [iv ((rd va vc).From),iv ((rd va vc).Len),iv ((rd va vc).Dev),iv ((rd va vc).To),iv ((rd va vc).Stale)] (fun cs ok' hr=>by obtain rfl:=kEntry_open hr;exact ⟨by simp,kEntry_mk (rd va vc)⟩) trivial ⟨rfl,rfl,rfl⟩ rfl rfl e3 rfl rfl rfl rfl rfl ?_
 intro w15 x10 h39
 have sx10:=x10.size
 have h40:=h39.sub (l':=[(w3.heap.size,some w4.heap.size,some 66)]) (li':=[]) ⟨(.inl ⟨by omega,by omega,rfl⟩),trivial⟩ trivial
 refine RW.tell 0 (v':=.slice A2 (va.set vb.toNat (rd va vc)).length c_2) (by simp only [List.length_set]) rfl ?_
 have h41:=j9.tL x10
 have h42:Box w15.heap b1 26 [iv y2.Dev,iv y2.Size,.slice A2 (va.set vb.toNat (rd va vc)).length c_2]:=by simpa only [List.length_set] using h41
 refine RW.done (NW.next (CW.lw 3 rfl (pu 3 rfl (RW.done (NW.norm_block ?_)))))
 have h43:=Ext.turn (((vq.tr x7).tB x8).tr x9) x10 ⟨by omega,trivial⟩
 have h44:=j10.tL x10
 exact NW.J fun a ha=>⟨(va.set vb.toNat (rd va vc)),(w64 (vb+1)),ha.sb,by omega,(h40.sb),h43,(by (try simp only [List.length_set]) <;>omega),h42,h44,H⟩
 rintro a w11 ⟨vd,vl,hS,hle,vC,vD,vK,vE,vF,H⟩ hp
 unfold table_Tidy.j2 at H
 refine CW.go hp hS ?_
 have xt4:Ext w11 w11:=Upd.refl _ _
 refine CW.lw 3 rfl (pu 3 rfl (RW.done ?_))
 exact NW.J fun a ha=>⟨n2,Nat.lt_succ_self n2,vd,vl,(w64 (vc+1)),ha.sb,by omega,(vC.sb),vD,(by (try simp only [List.length_set]) <;>omega),vE,vF,H⟩
 refine CW.exit ?_
 refine NW.exit_then (NW.exit_then (NW.exit_hit ?_))
 refine NW.next (CW.seq (CW.lex [.W,.W,.W,.M] rfl (pu 2 rfl ?_)))
 obtain ⟨g4,H⟩:=guard_some H
 refine RW.sliceFrom tk g4.1 g4.2 vk.len ⟨rfl,rfl,rfl,rfl⟩ rfl rfl rfl rfl rfl rfl ?_
 refine RW.clearTail (j:=vb.toNat) (z0:=(⟨0,0,0,0,0⟩:Entry)) tk vk (by have:=g4;omega) ⟨rfl,rfl,rfl⟩ rfl rfl rfl rfl rfl (fun _=>(kEntry_mk (⟨0,0,0,0,0⟩:Entry))) rfl ?_
 intro w16 x11 h45
 have sx11:=x11.size
 have h46:=h45
 have hl2:=take_rep_len (z:=(⟨0,0,0,0,0⟩:Entry)) (xs:=va) (show vb.toNat≤va.length by have:=g4;omega)
 refine RW.tell 0 (v':=.slice A2 (va.take vb.toNat++List.replicate (va.length-vb.toNat) (⟨0,0,0,0,0⟩:Entry)).length c_2) (by simp only [hl2]) rfl ?_
 have h47:=vy.tL x11
 have h48:Box w16.heap b1 26 [iv y2.Dev,iv y2.Size,.slice A2 (va.take vb.toNat++List.replicate (va.length-vb.toNat) (⟨0,0,0,0,0⟩:Entry)).length c_2]:=by simpa only [hl2] using h47
 refine RW.done (NW.next (CW.seq (CW.lw 4 rfl (pu 2 rfl ?_))))
 obtain ⟨g5,H⟩:=guard_some H
 refine RW.sliceTo tk g5.1 g5.2 h46.len ⟨rfl,rfl,rfl,rfl⟩ rfl rfl rfl rfl rfl rfl ?_
 have h49:=h46.take vb.toNat
 refine pu 1 rfl (RW.done (NW.next (CW.ret ?_)))
 have h50:=Ext.turn vq x11 ⟨by omega,trivial⟩
 have h51:=vz.tL x11
 exact NW.r1 ⟨((va.take vb.toNat++List.replicate (va.length-vb.toNat) (⟨0,0,0,0,0⟩:Entry)).take vb.toNat),A2,c_2,(va.take vb.toNat++List.replicate (va.length-vb.toNat) (⟨0,0,0,0,0⟩:Entry)),A2,c_2,rfl,by omega,(h49.sb),(h46.sb),h50,h48,h51,H⟩
 rintro _ w6 ⟨ve,vf,vg,vj,vm,vn,rfl,hle,vG,vL,vH,vA,vI,H⟩
 refine ⟨_,rfl,?_⟩
 unfold table_Tidy.j0 at H
 have xt5:Ext w6 w6:=Upd.refl _ _
 refine pu 1 rfl (RW.sp tk vA [iv y2.Dev,iv y2.Size,.slice vf ve.length vg] fun w17 x12 sx12 h53=>?_)
 refine RW.done (NW.next (CW.seq (CW.lex [.L,.M,.W] rfl (RW.lw tk h53 ?_))))
 have h54:=vI.tB x12
 refine RW.sf tk h54 fun w18 x13 sx13 h56=>?_
 refine pu 1 rfl (RW.done (NW.next (CW.ret ?_)))
 have h57:=(vG.tB x12 vA).tB x13 h54
 obtain rfl:=Option.some.inj H
 have h58:=(vH.tB x12).tB x13
 exact NW.ret2 rfl (resOne_cell tk (h56.at 0) rfl rfl rfl) (by rfl) ⟨vf,vg,rfl,h58,(h57.sub (l':=[(w.heap.size,none,some 66)]) (li':=[]) ⟨(.inl ⟨by omega,trivial,rfl⟩),trivial⟩ trivial)⟩
 refine CW.seq (CW.lex [.W,.M,.W] rfl (pu 1 rfl (RW.sf tk j2 fun w19 x14 sx14 h61=>?_)))
 refine pu 1 rfl (RW.done (NW.next (CW.ret (NW.ret_then ?_))))
 obtain rfl:=Option.some.inj H
 have h62:=j1.tB x14
 exact NW.ret2 rfl (resOne_cell tk (h61.at 0) rfl rfl rfl) (by rfl) ⟨none,0,rfl,h62,Ow.nil⟩
theorem move_Tidy.calls {k:Nat} {p0:Pool} {A1:Option Addr} {c_1:Nat} {A2:Option Addr} {c_2:Nat} {A3:Option Addr} {c_3:Nat} {p1:Int} {r:Pool×Int} {w:World} (H:move_Tidy.f k p0 p1=some r) (hs1:Sl kDeviceR w.heap okAll A1 p0.Devices) (hl1:p0.Devices.length≤c_1) (hs2:Sl kTableR w.heap okAll A2 p0.Tables) (hl2:p0.Tables.length≤c_2) (hs3:Sl kEntry w.heap okAll A3 p0.Job.Table.List_) (hl3:p0.Job.Table.List_.length≤c_3) {gT:Nat} (hG:Box w.heap 0 gT (arrI .u8 64 tz)):
 Calls Tryz.prog 106 #[.agg #[.slice A1 p0.Devices.length c_1,.slice A2 p0.Tables.length c_2,iv p0.Job.Dev,iv p0.Job.At,iv p0.Job.Table.Dev,iv p0.Job.Table.Size,.slice A3 p0.Job.Table.List_.length c_3,iv p0.Next],iv p1] w fun e w'=>∃(B1:Option Addr) (d1:Nat) (B2:Option Addr) (d2:Nat) (B3:Option Addr) (d3:Nat),e=.returned (.tuple #[.agg #[.slice B1 r.1.Devices.length d1,.slice B2 r.1.Tables.length d2,iv r.1.Job.Dev,iv r.1.Job.At,iv r.1.Job.Table.Dev,iv r.1.Job.Table.Size,.slice B3 r.1.Job.Table.List_.length d3,iv r.1.Next],iv r.2])∧Ext w w'∧Ow kDeviceO 40 w'.heap (okL [(w.heap.size,none,some 40)]) (okL [(w.heap.size,none,some 105)]) B1 d1 r.1.Devices∧Ow kTableO 26 w'.heap (okL [(w.heap.size,none,some 26)]) (okL [(w.heap.size,none,some 66)]) B2 d2 r.1.Tables∧Ow kEntry 66 w'.heap (okL [(w.heap.size,none,some 66)]) (okL []) B3 d3 r.1.Job.Table.List_:=by
 have h1:Sl kDeviceR w.heap (okL [(0,some w.heap.size,none)]) A1 p0.Devices:=hs1.old _ rfl
 have h2:Sl kTableR w.heap (okL [(0,some w.heap.size,none)]) A2 p0.Tables:=hs2.old _ rfl
 have h3:Sl kEntry w.heap (okL [(0,some w.heap.size,none)]) A3 p0.Job.Table.List_:=hs3.old _ rfl
 have hG0:0<w.heap.size:=hG.lt
 have x0:Ext w w:=Upd.refl _ w
 unfold move_Tidy.f at H
 refine cst Tryz.func106 59 ?_
 refine CW.seq (CW.lex [.X,.X,.W] rfl (RW.bx fun b1 w1 x1 sx1 l1 ltb1 h4=>?_))
 refine RW.al tk fun b2 w2 x2 sx2 l2 ltb2 h5=>?_
 refine pu 1 rfl (RW.done (NW.next (CW.seq (CW.lex [.L,.X,.W,.W,.W,.W,.W] rfl ?_))))
 have h6:=h4.ext x2
 refine RW.lw tk h6 ?_
 have xc1:Ext w2 w2:=Upd.refl _ _
 refine RW.callK (.inl rfl) ent30 ⟨rfl,rfl,rfl,rfl⟩ rfl rfl rfl ?_
 refine cst Tryz.func30 11 ?_
 refine CW.seq (CW.lex [.X,.W,.W] rfl (RW.bx fun b3 w3 x3 sx3 l3 ltb3 h7=>?_))
 refine pu 2 rfl (RW.done (NW.next (CW.seq (CW.seq (CW.lex [.L,.X,.W] rfl (RW.lw tk h7 ?_))))))
 have h8:=((h1.ext x1).ext x2).ext x3
 have h9:=((h2.ext x1).ext x2).ext x3
 have h10:=((h3.ext x1).ext x2).ext x3
 refine RW.cp H ent53 (fun _ h=>chain_May.calls h h8.all hl1 h9.all hl2 h10.all hl3) fun y1 w4 x4 sx4 H=>?_
 refine pu 1 rfl (RW.done (NW.next ?_))
 have j1:=(xc1.tr x3).tr x4
 have j2:=(h5.ext x3).ext x4
 have j3:=(((x0.tr x1).tr x2).tr x3).tr x4
 refine CW.n H (fun c1 H=>?_) fun c1 H=>?_
 refine CW.skip (NW.next (CW.seq (CW.lex [.L,.X,.W,.X,.W,.W] rfl ?_)))
 have h12:=h7.ext x4
 refine RW.lw tk h12 ?_
 have h13:=h8.ext x4
 have h14:=h9.ext x4
 have h15:=h10.ext x4
 obtain ⟨y2,h16,H⟩:=bind_some H
 refine RW.cl ent54 (chain_Own.calls h16 h13.all hl1 h14.all hl2 h15.all hl3) ?_
 rintro _ w5 ⟨mid1,A4,c_4,A5,c_5,A6,c_6,rfl,x5,lomid1,himid1,h17,h18,h19⟩
 refine ⟨_,rfl,x5,?_⟩
 have sx5:=x5.size
 have h20:Ow kDeviceO 40 w5.heap (okL [(w4.heap.size,some w5.heap.size,some 40)]) (okL [(w4.heap.size,some w5.heap.size,some 105)]) A4 c_4 y2.Devices:=h17.close
 have h21:Ow kTableO 26 w5.heap (okL [(w4.heap.size,some w5.heap.size,some 26)]) (okL [(mid1,some w5.heap.size,some 66)]) A5 c_5 y2.Tables:=h18.close
 have h22:Ow kEntry 66 w5.heap (okL [(w4.heap.size,some mid1,some 66)]) (okL []) A6 c_6 y2.Job.Table.List_:=h19.close
 refine pu 1 rfl (RW.bx fun b4 w6 x6 sx6 l4 ltb4 h23=>?_)
 refine pu 2 rfl (RW.done (NW.next (CW.ret ?_)))
 have h24:=(j1.tr x5).tr x6
 refine NW.ret2 rfl (by rfl) (by rfl) ⟨_,rfl,h24,?_⟩
 refine pu 5 rfl (RW.done (NW.next (CW.seq (CW.seq (CW.lw 2 rfl (pu 2 rfl (RW.done ?_)))))))
 refine NW.next (CW.cond_f rfl rfl (CW.skip (NW.next (CW.seq (CW.lex [.W,.W,.W,.L,.W,.X,.W,.W,.W,.W,.W] rfl (pu 3 rfl (RW.lw tk h23 ?_)))))))
 refine pu 1 rfl ?_
 have h25:=h20.ext x6
 have h26:=h21.ext x6
 have h27:=h22.ext x6
 refine RW.cp H ent60 (fun _ h=>chain_Find.calls h (h25.all.to kDevice_ro rfl) h25.len (h26.all.to kTable_ro rfl) h26.len h27.all h27.len) fun y3 w7 x7 sx7 H=>?_
 refine pu 5 rfl (RW.done (NW.next (CW.seq (CW.seq (CW.lw 2 rfl (pu 2 rfl (RW.done ?_)))))))
 refine NW.next ?_
 have j4:=((j2.ext x5).ext x6).ext x7
 refine CW.n H (fun c2 H=>?_) fun c2 H=>?_
 refine CW.skip (NW.next (CW.seq (CW.ord [0,1,3,7,15,0,0,64,192,448,960,0,4032,8128,16320,32704,65472,65472,131071,393215] (ofL [(0,.W),(1,.W),(2,.W),(3,.W),(5,.W),(6,.W),(7,.W),(8,.W),(9,.W),(11,.W),(4,.L),(10,.L),(12,.W),(13,.L),(14,.X),(15,.W),(16,.W),(17,.W),(18,.W),(19,.M)] .nil) mixed (by kernel_rfl) ?_)))
 intro w8 x8
 have sx8:=x8.size
 refine pu 10 rfl ?_
 have h29:=(h23.ext x7).ext x8
 refine RW.lb tk [.slice A5 y2.Tables.length c_5] h29 1 ?_
 refine RW.lb tk [.slice A5 y2.Tables.length c_5] h29 1 ?_
 obtain ⟨g1,H⟩:=guard_some H
 have h30:=(h26.ext x7).ext x8
 obtain ⟨ad1,A7,c_7,e1,a1,h31⟩:=kTableO_ato h30 g1.1 g1.2
 refine RW.ix tk g1 e1 ?_
 refine RW.ld tk _ a1 ?_
 obtain ⟨y4,h32,H⟩:=bind_some H
 refine RW.cl ent135 (table_Tidy.calls h32 h31.all h31.len) ?_
 rintro _ w9 ⟨A8,c_8,rfl,x9,h33⟩
 refine ⟨_,rfl,x9,?_⟩
 have sx9:=x9.size
 have h34:Ow kEntry 66 w9.heap (okL [(w8.heap.size,some w9.heap.size,some 66)]) (okL []) A8 c_8 y4.1.List_:=h33.close
 refine pu 3 rfl ?_
 obtain ⟨g2,H⟩:=guard_some H
 have h35:=h30.ext x9
 obtain ⟨ad2,A9,c_9,e2,a2,h36⟩:=kTableO_ato h35 g2.1 g2.2
 refine RW.ix tk g2 e2 ?_
 refine RW.storeElL0 (y:=y4.1) (lv:=[(w8.heap.size,some w9.heap.size,some 66)]) tk h35 (j:=y3.1.toNat) (by have:=g2;omega) default [iv y4.1.Dev,iv y4.1.Size,.slice A8 y4.1.List_.length c_8] (fun cs ok' hr=>by obtain ⟨qa1,qc1,rfl,q1⟩:=kTableO_open hr;exact ⟨by simp,kTableO_mk y4.1 (h34.mono (fun _ _ ho=>Or.inr (okL_sub (l:=[(w8.heap.size,some w9.heap.size,some 66)]) (l':=[(w8.heap.size,some w9.heap.size,some 66)]) ⟨(.inl ⟨by omega,by omega,rfl⟩),trivial⟩ ho)) (fun _ _ ho=>Or.inr (okL_sub (l:=[]) (l':=[(w8.heap.size,some w9.heap.size,some 66)]) trivial ho)))⟩) ⟨⟨.inl (nq rfl),trivial⟩,trivial⟩ ⟨rfl,rfl,rfl⟩ rfl rfl e2 rfl rfl rfl rfl rfl ?_
 intro w10 x10 h37
 have sx10:=x10.size
 have h38:=h37.close.sub (l':=[(w4.heap.size,some w5.heap.size,some 26)]) (li':=[(mid1,some w9.heap.size,some 66)]) ⟨(.inl ⟨by omega,by omega,rfl⟩),trivial⟩ ⟨(.inl ⟨by omega,by omega,rfl⟩),⟨(.inl ⟨by omega,by omega,rfl⟩),trivial⟩⟩
 have h39:=(h29.ext x9).tL x10
 have h40:Box w10.heap b4 78 [.slice A4 y2.Devices.length c_4,.slice A5 (y2.Tables.set y3.1.toNat y4.1).length c_5,iv y2.Job.Dev,iv y2.Job.At,iv y2.Job.Table.Dev,iv y2.Job.Table.Size,.slice A6 y2.Job.Table.List_.length c_6,iv y2.Next]:=by first|simpa only [List.length_set] using h39|(simp only [List.length_set];exact h39)
 refine RW.done (NW.next (CW.seq (CW.lex [.W,.W,.W,.W,.L,.M] rfl (pu 4 rfl (RW.lb tk [.slice A4 y2.Devices.length c_4] h40 0 ?_)))))
 refine RW.callKM ent35 ⟨rfl,rfl,rfl,rfl⟩ rfl rfl rfl ?_
 refine cst Tryz.func35 28 ?_
 refine CW.seq (CW.lw 3 rfl (pu 3 rfl (RW.done (NW.next (CW.block ?_)))))
 refine CW.loop (fun n1 a w11=>∃(vb:List Device) (va:Int),Sat 28 [(0,.slice A4 vb.length c_4),(4,.slice A4 vb.length c_4),(5,iv (y2.Devices.length:Int)),(6,iv va)] a∧w10.heap.size≤w11.heap.size∧Ow kDeviceO 40 w11.heap (okL [(w4.heap.size,none,some 40)]) (okL [(w4.heap.size,none,some 105)]) A4 c_4 vb∧Ow kTableO 26 w11.heap (okL [(w4.heap.size,some w5.heap.size,some 26)]) (okL [(mid1,some w9.heap.size,some 66)]) A5 c_5 (y2.Tables.set y3.1.toNat y4.1)∧Ow kEntry 66 w11.heap (okL [(w4.heap.size,some mid1,some 66)]) (okL []) A6 c_6 y2.Job.Table.List_∧Ext w w11∧vb.length=y2.Devices.length∧Box w11.heap b2 30 [.slice none 0 0,.slice none 0 0,iv 0,iv 0,iv 0,iv 0,.slice none 0 0,iv 0]∧Box w11.heap b4 78 [.slice A4 vb.length c_4,.slice A5 (y2.Tables.set y3.1.toNat y4.1).length c_5,iv y2.Job.Dev,iv y2.Job.At,iv y2.Job.Table.Dev,iv y2.Job.Table.Size,.slice A6 y2.Job.Table.List_.length c_6,iv y2.Next]∧move_Tidy.l0 k y2 y3 y4 n1 vb va=some r) k ?_ ?_
 have h41:=(((h25.ext x7).ext x8).ext x9).tL x10
 have h42:=(((h27.ext x7).ext x8).ext x9).tL x10
 have h43:=Ext.turn (((((((((x0.tr x1).tr x2).tr x3).tr x4).tr x5).tr x6).tr x7).tr x8).tr x9) x10 ⟨by omega,trivial⟩
 have h44:=((j4.ext x8).ext x9).tL x10
 exact fun a ha=>⟨y2.Devices,0,ha.sb,by omega,(h41.sb),h38,h42,h43,(by (try simp only [List.length_set]) <;>omega),h44,h40,H⟩
 rintro n1 a w11 ⟨vb,va,hS,hle,vh,ve,vf,vd,vi,vc,vg,H⟩ hp
 obtain _|n1:=n1
 cases H
 rw [move_Tidy.l0] at H
 refine CW.go hp hS ?_
 have h45:Ow kDeviceO 40 w11.heap (okL [(w4.heap.size,some w11.heap.size,some 40)]) (okL [(w4.heap.size,some w11.heap.size,some 105)]) A4 c_4 vb:=vh.close
 have xt1:Ext w11 w11:=Upd.refl _ _
 refine CW.seq (CW.lw 1 rfl (pu 1 rfl (RW.done (NW.next (CW.seq (CW.i H (fun c3 H=>?_) fun c3 H=>?_))))))
 refine CW.skip (NW.next (CW.seq (CW.block (CW.seq (CW.lex [.W,.W,.L,.X,.W,.M] rfl (pu 1 rfl ?_))))))
 obtain ⟨g3,H⟩:=guard_some H
 obtain ⟨ad3,A10,c_10,A11,c_11,e3,a3,h46,h47⟩:=kDeviceO_ato h45 g3.1 g3.2
 refine RW.ix tk g3 e3 ?_
 refine RW.ld tk _ a3 ?_
 refine RW.al tk fun b5 w12 x11 sx11 l9 ltb5 h48=>?_
 refine pu 1 rfl (RW.sf tk h48 fun w13 x12 sx12 h50=>?_)
 refine RW.done (NW.next (CW.ord [0,0,0,0,0,16,48,0,128,496,1008,2032,4083,8179,16371,32767,65535,131071] (ofL [(0,.W),(1,.W),(2,.W),(3,.W),(4,.W),(7,.W),(5,.L),(8,.L),(6,.X),(9,.X),(10,.W),(11,.X),(12,.W),(13,.W),(14,.M),(15,.W),(16,.W),(17,.M)] .nil) mixed (by kernel_rfl) ?_))
 intro w14 x13
 have sx13:=x13.size
 refine pu 6 rfl ?_
 have h51:=h50.ext x13
 refine RW.lb tk [.slice A10 ((rd vb va).Free).length c_10] h51 2 ?_
 refine RW.lb tk [.slice A11 ((rd vb va).Late).length c_11] h51 3 ?_
 have h52:=((h46.ext x11).tB x12 h48).ext x13
 refine RW.cp H ent57 (fun _ h=>seg_Make.calls h h52.all h52.len) fun y5 w15 x14 sx14 H=>?_
 have h54:=(((h47.ext x11).tB x12 h48).ext x13).ext x14
 refine RW.cp H ent57 (fun _ h=>seg_Make.calls h h54.all h54.len) fun y6 w16 x15 sx15 H=>?_
 refine pu 1 rfl ?_
 have h56:=(((((hG.ext vd).ext x11).tB x12).ext x13).ext x14).ext x15
 obtain ⟨y7,h57,H⟩:=bind_some H
 refine RW.cl ent40 (seg_Set_Segs.calls h57 h56) ?_
 rintro _ w17 ⟨A12,c_12,rfl,x16,h58⟩
 refine ⟨_,rfl,x16,?_⟩
 have sx16:=x16.size
 have h59:Ow kSeg 105 w17.heap (okL [(w16.heap.size,some w17.heap.size,some 105)]) (okL []) A12 c_12 y7:=h58.close
 obtain ⟨g4,H⟩:=guard_some H
 have h60:=(((((h45.ext x11).turnB x12 h48 ⟨.inr (by omega),trivial⟩ ⟨.inl (nq rfl),trivial⟩).ext x13).ext x14).ext x15).ext x16
 obtain ⟨ad4,A13,c_13,A14,c_14,e4,a4,h61,h62⟩:=kDeviceO_ato h60 g4.1 g4.2
 refine RW.ix tk g4 e4 ?_
 refine pu 1 rfl ?_
 refine RW.storeElL (y:=(⟨(rd vb va).ID,(rd vb va).Size,y7,(rd vb va).Late⟩:Device)) (lv:=[(w16.heap.size,some w17.heap.size,some 105)]) (k:=2) tk h60 (j:=va.toNat) (by have:=g4;omega) default [.slice A12 y7.length c_12] (fun cs ok' hr=>by obtain ⟨qa1,qc1,qa2,qc2,rfl,q1,q2⟩:=kDeviceO_open hr;exact ⟨by simp,kDeviceO_mk (⟨(rd vb va).ID,(rd vb va).Size,y7,(rd vb va).Late⟩:Device) (h59.mono (fun _ _ ho=>Or.inr (okL_sub (l:=[(w16.heap.size,some w17.heap.size,some 105)]) (l':=[(w16.heap.size,some w17.heap.size,some 105)]) ⟨(.inl ⟨by omega,by omega,rfl⟩),trivial⟩ ho)) (fun _ _ ho=>Or.inr (okL_sub (l:=[]) (l':=[(w16.heap.size,some w17.heap.size,some 105)]) trivial ho))) (q2.mono (fun _ _ ho=>Or.inl ho) (fun _ _ ho=>Or.inl ho))⟩) ⟨⟨.inl (nq rfl),trivial⟩,trivial⟩ ⟨rfl,rfl,rfl⟩ rfl rfl e4 rfl rfl rfl rfl rfl ?_
 intro w18 x17 h63
 have sx17:=x17.size
 have h64:=h63.close.sub (l':=[(w4.heap.size,some w11.heap.size,some 40)]) (li':=[(w4.heap.size,some w17.heap.size,some 105)]) ⟨(.inl ⟨by omega,by omega,rfl⟩),trivial⟩ ⟨(.inl ⟨by omega,by omega,rfl⟩),⟨(.inl ⟨by omega,by omega,rfl⟩),trivial⟩⟩
 refine RW.tell 0 (v':=.slice A4 (vb.set va.toNat (⟨(rd vb va).ID,(rd vb va).Size,y7,(rd vb va).Late⟩:Device)).length c_4) (by simp only [List.length_set]) rfl (RW.tell 4 (v':=.slice A4 (vb.set va.toNat (⟨(rd vb va).ID,(rd vb va).Size,y7,(rd vb va).Late⟩:Device)).length c_4) (by simp only [List.length_set]) rfl (RW.tell 13 (v':=.slice A4 (vb.set va.toNat (⟨(rd vb va).ID,(rd vb va).Size,y7,(rd vb va).Late⟩:Device)).length c_4) (by simp only [List.length_set]) rfl ?_))
 have h65:=((((((vg.ext x11).tB x12).ext x13).ext x14).ext x15).ext x16).tL x17
 have h66:Box w18.heap b4 78 [.slice A4 (vb.set va.toNat (⟨(rd vb va).ID,(rd vb va).Size,y7,(rd vb va).Late⟩:Device)).length c_4,.slice A5 (y2.Tables.set y3.1.toNat y4.1).length c_5,iv y2.Job.Dev,iv y2.Job.At,iv y2.Job.Table.Dev,iv y2.Job.Table.Size,.slice A6 y2.Job.Table.List_.length c_6,iv y2.Next]:=by first|simpa only [List.length_set] using h65|(simp only [List.length_set];exact h65)
 obtain ⟨g5,H⟩:=guard_some H
 obtain ⟨ad5,A15,c_15,A16,c_16,e5,a5,h67,h68⟩:=kDeviceO_ato h64 g5.1 g5.2
 refine RW.ix tk g5 e5 ?_
 refine pu 1 rfl ?_
 refine RW.storeElL (y:=(⟨(rd (vb.set va.toNat (⟨(rd vb va).ID,(rd vb va).Size,y7,(rd vb va).Late⟩:Device)) va).ID,(rd (vb.set va.toNat (⟨(rd vb va).ID,(rd vb va).Size,y7,(rd vb va).Late⟩:Device)) va).Size,(rd (vb.set va.toNat (⟨(rd vb va).ID,(rd vb va).Size,y7,(rd vb va).Late⟩:Device)) va).Free,([]:List Seg)⟩:Device)) (lv:=[]) (k:=3) tk h64 (j:=va.toNat) (by have:=g5;omega) default [.slice none 0 0] (fun cs ok' hr=>by obtain ⟨qa1,qc1,qa2,qc2,rfl,q1,q2⟩:=kDeviceO_open hr;exact ⟨by simp,kDeviceO_mk (⟨(rd (vb.set va.toNat (⟨(rd vb va).ID,(rd vb va).Size,y7,(rd vb va).Late⟩:Device)) va).ID,(rd (vb.set va.toNat (⟨(rd vb va).ID,(rd vb va).Size,y7,(rd vb va).Late⟩:Device)) va).Size,(rd (vb.set va.toNat (⟨(rd vb va).ID,(rd vb va).Size,y7,(rd vb va).Late⟩:Device)) va).Free,([]:List Seg)⟩:Device) (q1.mono (fun _ _ ho=>Or.inl ho) (fun _ _ ho=>Or.inl ho)) Ow.nil⟩) trivial ⟨rfl,rfl,rfl⟩ rfl rfl e5 rfl rfl rfl rfl rfl ?_
 intro w19 x18 h69
 have sx18:=x18.size
 have h70:=h69.sub (l':=[(w4.heap.size,some w11.heap.size,some 40)]) (li':=[(w4.heap.size,some w17.heap.size,some 105)]) ⟨(.inl ⟨by omega,by omega,rfl⟩),trivial⟩ ⟨(.inl ⟨by omega,by omega,rfl⟩),trivial⟩
 refine RW.tell 0 (v':=.slice A4 ((vb.set va.toNat (⟨(rd vb va).ID,(rd vb va).Size,y7,(rd vb va).Late⟩:Device)).set va.toNat (⟨(rd (vb.set va.toNat (⟨(rd vb va).ID,(rd vb va).Size,y7,(rd vb va).Late⟩:Device)) va).ID,(rd (vb.set va.toNat (⟨(rd vb va).ID,(rd vb va).Size,y7,(rd vb va).Late⟩:Device)) va).Size,(rd (vb.set va.toNat (⟨(rd vb va).ID,(rd vb va).Size,y7,(rd vb va).Late⟩:Device)) va).Free,([]:List Seg)⟩:Device)).length c_4) (by simp only [List.length_set]) rfl (RW.tell 4 (v':=.slice A4 ((vb.set va.toNat (⟨(rd vb va).ID,(rd vb va).Size,y7,(rd vb va).Late⟩:Device)).set va.toNat (⟨(rd (vb.set va.toNat (⟨(rd vb va).ID,(rd vb va).Size,y7,(rd vb va).Late⟩:Device)) va).ID,(rd (vb.set va.toNat (⟨(rd vb va).ID,(rd vb va).Size,y7,(rd vb va).Late⟩:Device)) va).Size,(rd (vb.set va.toNat (⟨(rd vb va).ID,(rd vb va).Size,y7,(rd vb va).Late⟩:Device)) va).Free,([]:List Seg)⟩:Device)).length c_4) (by simp only [List.length_set]) rfl ?_)
 have h71:=h66.tL x18
 have h72:Box w19.heap b4 78 [.slice A4 ((vb.set va.toNat (⟨(rd vb va).ID,(rd vb va).Size,y7,(rd vb va).Late⟩:Device)).set va.toNat (⟨(rd (vb.set va.toNat (⟨(rd vb va).ID,(rd vb va).Size,y7,(rd vb va).Late⟩:Device)) va).ID,(rd (vb.set va.toNat (⟨(rd vb va).ID,(rd vb va).Size,y7,(rd vb va).Late⟩:Device)) va).Size,(rd (vb.set va.toNat (⟨(rd vb va).ID,(rd vb va).Size,y7,(rd vb va).Late⟩:Device)) va).Free,([]:List Seg)⟩:Device)).length c_4,.slice A5 (y2.Tables.set y3.1.toNat y4.1).length c_5,iv y2.Job.Dev,iv y2.Job.At,iv y2.Job.Table.Dev,iv y2.Job.Table.Size,.slice A6 y2.Job.Table.List_.length c_6,iv y2.Next]:=by first|simpa only [List.length_set] using h71|(simp only [List.length_set];exact h71)
 refine RW.done ?_
 refine NW.norm_block (NW.next ?_)
 refine CW.lw 2 rfl (pu 2 rfl (RW.done ?_))
 have h73:=(((((((ve.ext x11).tB x12 h48).ext x13).ext x14).ext x15).ext x16).tL x17).tL x18
 have h74:=(((((((vf.ext x11).tB x12 h48).ext x13).ext x14).ext x15).ext x16).tL x17).tL x18
 have h75:=Ext.turn (Ext.turn ((((((vd.tr x11).tB x12).tr x13).tr x14).tr x15).tr x16) x17 ⟨by omega,trivial⟩) x18 ⟨by omega,trivial⟩
 have h76:=(((((((vc.ext x11).tB x12).ext x13).ext x14).ext x15).ext x16).tL x17).tL x18
 exact NW.J fun a ha=>⟨n1,Nat.lt_succ_self n1,((vb.set va.toNat (⟨(rd vb va).ID,(rd vb va).Size,y7,(rd vb va).Late⟩:Device)).set va.toNat (⟨(rd (vb.set va.toNat (⟨(rd vb va).ID,(rd vb va).Size,y7,(rd vb va).Late⟩:Device)) va).ID,(rd (vb.set va.toNat (⟨(rd vb va).ID,(rd vb va).Size,y7,(rd vb va).Late⟩:Device)) va).Size,(rd (vb.set va.toNat (⟨(rd vb va).ID,(rd vb va).Size,y7,(rd vb va).Late⟩:Device)) va).Free,([]:List Seg)⟩:Device)),(w64 (va+1)),ha.sb,by omega,(h70.sb),h73,h74,h75,(by (try simp only [List.length_set]) <;>omega),h76,h72,H⟩
 refine CW.exit ?_
 refine NW.exit_then (NW.exit_then (NW.exit_hit ?_))
 refine NW.end_ ?_
 refine NW.ret0 rfl ⟨_,rfl,?_⟩
 refine RW.done (NW.next (CW.seq (CW.lex [.W,.W,.W,.L,.M,.W] rfl (pu 3 rfl (RW.lw tk vg ?_)))))
 refine RW.sf tk vc fun w20 x19 sx19 h78=>?_
 refine pu 1 rfl (RW.done (NW.next (CW.ret ?_)))
 have h79:=h45.tB x19 vc
 have h80:=ve.tB x19 vc
 have h81:=vf.tB x19 vc
 obtain rfl:=Option.some.inj H
 have h82:=vd.tB x19
 exact NW.ret2 rfl (resOne_cell tk (h78.at 0) rfl rfl rfl) (by rfl) ⟨A4,c_4,A5,c_5,A6,c_6,rfl,h82,(h79.sub (l':=[(w.heap.size,none,some 40)]) (li':=[(w.heap.size,none,some 105)]) ⟨(.inl ⟨by omega,trivial,rfl⟩),trivial⟩ ⟨(.inl ⟨by omega,trivial,rfl⟩),trivial⟩),(h80.sub (l':=[(w.heap.size,none,some 26)]) (li':=[(w.heap.size,none,some 66)]) ⟨(.inl ⟨by omega,trivial,rfl⟩),trivial⟩ ⟨(.inl ⟨by omega,trivial,rfl⟩),trivial⟩),(h81.sub (l':=[(w.heap.size,none,some 66)]) (li':=[]) ⟨(.inl ⟨by omega,trivial,rfl⟩),trivial⟩ trivial)⟩
 refine CW.seq (CW.lex [.W,.M,.W] rfl (pu 1 rfl (RW.sf tk j4 fun w21 x20 sx20 h85=>?_)))
 refine pu 1 rfl (RW.done (NW.next (CW.ret (NW.ret_then ?_))))
 obtain rfl:=Option.some.inj H
 have h86:=(((j3.tr x5).tr x6).tr x7).tB x20
 exact NW.ret2 rfl (resOne_cell tk (h85.at 0) rfl rfl rfl) (by rfl) ⟨none,0,none,0,none,0,rfl,h86,Ow.nil,Ow.nil,Ow.nil⟩
 refine CW.seq (CW.lw 2 rfl (pu 2 rfl (RW.done (NW.next (CW.ret (NW.ret_then ?_))))))
 refine NW.ret2 rfl (by rfl) (by rfl) ⟨_,rfl,j1,?_⟩
 refine pu 5 rfl (RW.done (NW.next (CW.seq (CW.seq (CW.lw 2 rfl (pu 2 rfl (RW.done ?_)))))))
 refine NW.next (CW.cond_t rfl rfl (CW.seq (CW.lex [.W,.M,.W] rfl (pu 1 rfl (RW.sf tk j2 fun w22 x21 sx21 h90=>?_)))))
 refine pu 1 rfl (RW.done (NW.next (CW.ret (NW.ret_then ?_))))
 obtain rfl:=Option.some.inj H
 have h91:=j3.tB x21
 exact NW.ret2 rfl (resOne_cell tk (h90.at 0) rfl rfl rfl) (by rfl) ⟨none,0,none,0,none,0,rfl,h91,Ow.nil,Ow.nil,Ow.nil⟩
theorem r7_Tidy.calls {k:Nat} {p0:Table} {A1:Option Addr} {c_1:Nat} {r:Table} {w:World} (H:r7_Tidy.f k p0=some r) (hs1:Sl kEntry w.heap okAll A1 p0.List_) (hl1:p0.List_.length≤c_1):
 Calls Tryz.prog 136 #[.agg #[iv p0.Dev,iv p0.Size,.slice A1 p0.List_.length c_1]] w fun e w'=>∃(B1:Option Addr) (d1:Nat),e=.returned (.agg #[iv r.Dev,iv r.Size,.slice B1 r.List_.length d1])∧Ext w w'∧Ow kEntry 66 w'.heap (okL [(w.heap.size,none,some 66)]) (okL []) B1 d1 r.List_:=by
 have h1:Sl kEntry w.heap (okL [(0,some w.heap.size,none)]) A1 p0.List_:=hs1.old _ rfl
 have x0:Ext w w:=Upd.refl _ w
 unfold r7_Tidy.f at H
 refine cst Tryz.func136 41 ?_
 refine CW.seq (CW.lex [.X,.X] rfl (RW.bx fun b1 w1 x1 sx1 l1 ltb1 h2=>?_))
 refine RW.al tk fun b2 w2 x2 sx2 l2 ltb2 h3=>?_
 refine RW.done (NW.next (CW.seq (CW.lex [.W,.L,.W,.L,.W,.X,.M] rfl (pu 1 rfl ?_))))
 have h4:=h2.ext x2
 refine RW.lb tk [iv p0.Dev] h4 0 ?_
 refine pu 1 rfl (RW.lb tk [iv p0.Size] h4 1 ?_)
 refine pu 1 rfl (RW.al tk fun b3 w3 x3 sx3 l3 ltb3 h5=>?_)
 refine RW.sf tk h5 fun w4 x4 sx4 h7=>?_
 refine RW.done (NW.next (CW.seq (CW.seq (CW.lw 1 rfl (pu 1 rfl (RW.done (NW.next ?_)))))))
 refine CW.block ?_
 refine CW.loop (fun n1 a w5=>∃(va:Int) (vb:List Entry) (vc:Option Addr) (vd:Nat),Sat 41 [(1,.pointer (some ⟨b1,0,none⟩)),(2,.pointer (some ⟨b2,0,none⟩)),(3,.pointer (some ⟨b3,0,none⟩)),(4,iv va)] a∧w4.heap.size≤w5.heap.size∧Ow kEntry 66 w5.heap (okL [(w4.heap.size,none,some 66)]) (okL []) vc vd vb∧Ext w w5∧Box w5.heap b1 26 [iv p0.Dev,iv p0.Size,.slice A1 p0.List_.length c_1]∧Box w5.heap b2 26 [iv 0,iv 0,.slice none 0 0]∧Box w5.heap b3 26 [iv p0.Dev,iv p0.Size,.slice vc vb.length vd]∧r7_Tidy.l0 p0 n1 va vb=some r) k ?_ ?_
 have h8:=(((x0.tr x1).tr x2).tr x3).tB x4
 have h9:=(h4.ext x3).tB x4
 have h10:=(h3.ext x3).tB x4
 exact fun a ha=>⟨0,([]:List Entry),none,0,ha.sb,by omega,Ow.nil,h8,h9,h10,h7,H⟩
 rintro n1 a w5 ⟨va,vb,vc,vd,hS,hle,vl,vh,vj,vi,vk,H⟩ hp
 obtain _|n1:=n1
 cases H
 rw [r7_Tidy.l0] at H
 refine CW.go hp hS ?_
 have h11:Ow kEntry 66 w5.heap (okL [(w4.heap.size,some w5.heap.size,some 66)]) (okL []) vc vd vb:=vl.close
 have xt1:Ext w5 w5:=Upd.refl _ _
 refine CW.seq (CW.seq (CW.lex [.W,.W,.L,.W,.W] rfl (pu 2 rfl (RW.lb tk [.slice A1 p0.List_.length c_1] vj 2 ?_))))
 refine pu 2 rfl (RW.done (NW.next (CW.i H (fun c1 H=>?_) fun c1 H=>?_)))
 refine CW.skip (NW.next ?_)
 refine CW.seqJ (fun a w6=>∃(ve:List Entry) (vf:Option Addr) (vg:Nat),Sat 41 [(1,.pointer (some ⟨b1,0,none⟩)),(2,.pointer (some ⟨b2,0,none⟩)),(3,.pointer (some ⟨b3,0,none⟩)),(4,iv va)] a∧w5.heap.size≤w6.heap.size∧Ow kEntry 66 w6.heap (okL [(w4.heap.size,none,some 66)]) (okL []) vf vg ve∧Ext w w6∧Box w6.heap b1 26 [iv p0.Dev,iv p0.Size,.slice A1 p0.List_.length c_1]∧Box w6.heap b2 26 [iv 0,iv 0,.slice none 0 0]∧Box w6.heap b3 26 [iv p0.Dev,iv p0.Size,.slice vf ve.length vg]∧r7_Tidy.j0 va (r7_Tidy.l0 p0 n1) ve=some r) ?_ ?_
 refine CW.block (CW.seq (CW.ord [0,1,0,7,15,31,0,64,0,448,960,1984,4095] (ofL [(0,.W),(2,.W),(6,.W),(8,.W),(1,.L),(3,.W),(4,.W),(5,.L),(7,.L),(9,.W),(10,.W),(11,.L),(12,.W)] .nil) mixed (by kernel_rfl) ?_))
 intro w7 x5
 have sx5:=x5.size
 refine pu 4 rfl ?_
 have h12:=vj.ext x5
 refine RW.lb tk [.slice A1 p0.List_.length c_1] h12 2 ?_
 obtain ⟨g1,H⟩:=guard_some H
 have h13:=(h1.ext vh).ext x5
 obtain ⟨ad1,e1,a1⟩:=kEntry_at h13 g1.1 g1.2
 refine RW.ix tk g1 e1 ?_
 refine pu 1 rfl (RW.ld tk [iv ((rd p0.List_ va).Stale)] (a1.fld 4) ?_)
 refine RW.lb tk [.slice A1 p0.List_.length c_1] h12 2 ?_
 obtain ⟨g2,H⟩:=guard_some H
 obtain ⟨ad2,e2,a2⟩:=kEntry_at h13 g2.1 g2.2
 refine RW.ix tk g2 e2 ?_
 refine pu 1 rfl (RW.ld tk [iv ((rd p0.List_ va).Len)] ((a2.fld 1).take 1 rfl) ?_)
 refine pu 1 rfl (RW.done (NW.next ?_))
 have j1:=vk.ext x5
 have j2:=h11.ext x5
 have j3:=vi.ext x5
 refine CW.i H (fun c2 H=>?_) fun c2 H=>?_
 refine CW.ord [0,1,0,4,0,28,60,124,255,511,1023] (ofL [(0,.W),(2,.W),(4,.W),(1,.L),(3,.L),(5,.W),(6,.L),(7,.X),(8,.M),(9,.W),(10,.M)] .nil) mixed (by kernel_rfl) ?_
 intro w8 x6
 have sx6:=x6.size
 refine pu 3 rfl ?_
 have h14:=j1.ext x6
 refine RW.lb tk [.slice vc vb.length vd] h14 2 ?_
 have h15:=h12.ext x6
 refine RW.lb tk [.slice A1 p0.List_.length c_1] h15 2 ?_
 obtain ⟨g3,H⟩:=guard_some H
 have h16:=h13.ext x6
 obtain ⟨ad3,e3,a3⟩:=kEntry_at h16 g3.1 g3.2
 refine RW.ix tk g3 e3 ?_
 refine RW.ld tk _ a3 ?_
 refine RW.buildSlice (cs:=[iv ((rd p0.List_ va).From),iv ((rd p0.List_ va).Len),iv ((rd p0.List_ va).Dev),iv ((rd p0.List_ va).To),iv ((rd p0.List_ va).Stale)]) tk (.inl rfl) ⟨rfl,rfl,rfl,rfl⟩ rfl rfl rfl rfl rfl rfl rfl ?_
 intro b4 w9 x7 l4 h17
 have sx7:=x7.size
 have ltb4:=h17.lt
 have h18:=(j2.ext x6).ext x7
 obtain ⟨g4,H⟩:=guard_some H
 refine RW.append1L (d:=kEntry) (v:=(rd p0.List_ va)) (l:=[(w4.heap.size,some w5.heap.size,some 66)]) (li:=[]) (ly:=[]) (xs:=vb) tk h18 h17 (kEntry_mk (rd p0.List_ va)) trivial (by simp only [maxLen];omega) g4 ⟨rfl,rfl,rfl,rfl⟩ rfl rfl rfl rfl rfl rfl rfl ?_
 intro A2 c_2 w10 x8 h19
 have sx8:=x8.size
 have h20:=h19.close.sub (l':=[(w4.heap.size,some w10.heap.size,some 66)]) (li':=[]) ⟨(.inl ⟨by omega,by omega,rfl⟩),⟨(.inl ⟨by omega,by omega,rfl⟩),trivial⟩⟩ trivial
 refine pu 1 rfl ?_
 have h21:=(h14.ext x7).tL x8
 refine RW.sp tk h21 [iv p0.Dev,iv p0.Size,.slice A2 (vb++[(rd p0.List_ va)]).length c_2] fun w11 x9 sx9 h23=>?_
 refine RW.done (NW.norm_block ?_)
 have h24:=h20.tB x9 h21
 have h25:=(Ext.turn (((vh.tr x5).tr x6).tr x7) x8 ⟨by omega,trivial⟩).tB x9
 have h26:=((h15.ext x7).tL x8).tB x9
 have h27:=(((j3.ext x6).ext x7).tL x8).tB x9
 exact NW.J fun a ha=>⟨(vb++[(rd p0.List_ va)]),A2,c_2,ha.sb,by omega,(h24.sb),h25,h26,h27,h23,H⟩
 refine CW.skip (NW.norm_block ?_)
 have h29:=vh.tr x5
 exact NW.J fun a ha=>⟨vb,vc,vd,ha.sb,by omega,(j2.sb),h29,h12,j3,j1,H⟩
 rintro a w6 ⟨ve,vf,vg,hS,hle,vm,vn,vo,vp,vq,H⟩ hp
 unfold r7_Tidy.j0 at H
 refine CW.go hp hS ?_
 have h32:Ow kEntry 66 w6.heap (okL [(w4.heap.size,some w6.heap.size,some 66)]) (okL []) vf vg ve:=vm.close
 have xt2:Ext w6 w6:=Upd.refl _ _
 refine CW.lw 3 rfl (pu 3 rfl (RW.done ?_))
 exact NW.J fun a ha=>⟨n1,Nat.lt_succ_self n1,(w64 (va+1)),ve,vf,vg,ha.sb,by omega,(h32.sb),vn,vo,vp,vq,H⟩
 refine CW.exit ?_
 refine NW.exit_then (NW.exit_then (NW.exit_hit ?_))
 refine NW.next (CW.seq (CW.lex [.L,.M] rfl (RW.lw tk vk ?_)))
 refine RW.sf tk vi fun w12 x10 sx10 h34=>?_
 refine RW.done (NW.next (CW.ret ?_))
 have h35:=h11.tB x10 vi
 obtain rfl:=Option.some.inj H
 have h36:=vh.tB x10
 exact NW.ret1 rfl (resOne_cell tk (h34.at 0) rfl rfl rfl) ⟨vc,vd,rfl,h36,(h35.sub (l':=[(w.heap.size,none,some 66)]) (li':=[]) ⟨(.inl ⟨by omega,trivial,rfl⟩),trivial⟩ trivial)⟩
theorem r9_Tidy.calls {k:Nat} {p0:Pool} {A1:Option Addr} {c_1:Nat} {A2:Option Addr} {c_2:Nat} {A3:Option Addr} {c_3:Nat} {p1:Int} {r:Pool×Int} {w:World} (H:r9_Tidy.f k p0 p1=some r) (hs1:Sl kDeviceR w.heap okAll A1 p0.Devices) (hl1:p0.Devices.length≤c_1) (hs2:Sl kTableR w.heap okAll A2 p0.Tables) (hl2:p0.Tables.length≤c_2) (hs3:Sl kEntry w.heap okAll A3 p0.Job.Table.List_) (hl3:p0.Job.Table.List_.length≤c_3):
 Calls Tryz.prog 107 #[.agg #[.slice A1 p0.Devices.length c_1,.slice A2 p0.Tables.length c_2,iv p0.Job.Dev,iv p0.Job.At,iv p0.Job.Table.Dev,iv p0.Job.Table.Size,.slice A3 p0.Job.Table.List_.length c_3,iv p0.Next],iv p1] w fun e w'=>∃(B1:Option Addr) (d1:Nat) (B2:Option Addr) (d2:Nat) (B3:Option Addr) (d3:Nat),e=.returned (.tuple #[.agg #[.slice B1 r.1.Devices.length d1,.slice B2 r.1.Tables.length d2,iv r.1.Job.Dev,iv r.1.Job.At,iv r.1.Job.Table.Dev,iv r.1.Job.Table.Size,.slice B3 r.1.Job.Table.List_.length d3,iv r.1.Next],iv r.2])∧Ext w w'∧Ow kDeviceO 40 w'.heap (okL [(w.heap.size,none,some 40)]) (okL [(w.heap.size,none,some 105)]) B1 d1 r.1.Devices∧Ow kTableO 26 w'.heap (okL [(w.heap.size,none,some 26)]) (okL [(w.heap.size,none,some 66)]) B2 d2 r.1.Tables∧Ow kEntry 66 w'.heap (okL [(w.heap.size,none,some 66)]) (okL []) B3 d3 r.1.Job.Table.List_:=by
 have h1:Sl kDeviceR w.heap (okL [(0,some w.heap.size,none)]) A1 p0.Devices:=hs1.old _ rfl
 have h2:Sl kTableR w.heap (okL [(0,some w.heap.size,none)]) A2 p0.Tables:=hs2.old _ rfl
 have h3:Sl kEntry w.heap (okL [(0,some w.heap.size,none)]) A3 p0.Job.Table.List_:=hs3.old _ rfl
 have x0:Ext w w:=Upd.refl _ w
 unfold r9_Tidy.f at H
 refine cst Tryz.func107 26 ?_
 refine CW.seq (CW.lex [.X,.X,.W] rfl (RW.bx fun b1 w1 x1 sx1 l1 ltb1 h4=>?_))
 refine RW.al tk fun b2 w2 x2 sx2 l2 ltb2 h5=>?_
 refine pu 1 rfl (RW.done (NW.next (CW.seq (CW.lex [.L,.W,.X,.W] rfl ?_))))
 have h6:=h4.ext x2
 refine RW.lw tk h6 ?_
 refine pu 1 rfl ?_
 have h7:=(h1.ext x1).ext x2
 have h8:=(h2.ext x1).ext x2
 have h9:=(h3.ext x1).ext x2
 refine RW.cp H ent24 (fun _ h=>r9_Table.calls h h7.all hl1 h8.all hl2 h9.all hl3) fun y1 w3 x3 sx3 H=>?_
 refine pu 1 rfl (RW.done (NW.next (CW.seq (CW.seq (CW.lw 2 rfl (pu 2 rfl (RW.done ?_)))))))
 refine NW.next ?_
 have j1:=h5.ext x3
 refine CW.i H (fun c1 H=>?_) fun c1 H=>?_
 refine CW.seq (CW.lex [.W,.M,.W] rfl (pu 1 rfl (RW.sf tk j1 fun w4 x4 sx4 h13=>?_)))
 refine pu 1 rfl (RW.done (NW.next (CW.ret (NW.ret_then ?_))))
 obtain rfl:=Option.some.inj H
 have h14:=(((x0.tr x1).tr x2).tr x3).tB x4
 exact NW.ret2 rfl (resOne_cell tk (h13.at 0) rfl rfl rfl) (by rfl) ⟨none,0,none,0,none,0,rfl,h14,Ow.nil,Ow.nil,Ow.nil⟩
 refine CW.skip (NW.next (CW.seq (CW.lex [.L,.X,.M] rfl ?_)))
 have h15:=h6.ext x3
 refine RW.lw tk h15 ?_
 have h16:=h7.ext x3
 have h17:=h8.ext x3
 have h18:=h9.ext x3
 obtain ⟨y2,h19,H⟩:=bind_some H
 refine RW.cl ent15 (r9_Commit.calls h19 h16.all hl1 h17.all hl2 h18.all hl3) ?_
 rintro _ w5 ⟨A4,c_4,A5,c_5,A6,c_6,rfl,x5,h20,h21,h22⟩
 refine ⟨_,rfl,x5,?_⟩
 have sx5:=x5.size
 have h23:Ow kDeviceO 40 w5.heap (okL [(w3.heap.size,some w5.heap.size,some 40)]) (okL [(w3.heap.size,some w5.heap.size,some 105)]) A4 c_4 y2.Devices:=h20.close
 have h24:Ow kTableO 26 w5.heap (okL [(w3.heap.size,some w5.heap.size,some 26)]) (okL [(w3.heap.size,some w5.heap.size,some 66)]) A5 c_5 y2.Tables:=h21.close
 have h25:Ow kEntry 66 w5.heap (okL [(w3.heap.size,some w5.heap.size,some 66)]) (okL []) A6 c_6 y2.Job.Table.List_:=h22.close
 have h26:=h15.ext x5
 refine RW.sf tk h26 fun w6 x6 sx6 h28=>?_
 refine RW.done (NW.next (CW.seq (CW.ord [0,1,0,0,8,0,56,120,248,511,1023] (ofL [(0,.W),(2,.W),(3,.W),(5,.W),(1,.L),(4,.L),(6,.W),(7,.L),(8,.X),(9,.W),(10,.M)] .nil) mixed (by kernel_rfl) ?_)))
 intro w7 x7
 have sx7:=x7.size
 refine pu 4 rfl ?_
 have h29:=h28.ext x7
 refine RW.lb tk [.slice A5 y2.Tables.length c_5] h29 1 ?_
 refine RW.lb tk [.slice A5 y2.Tables.length c_5] h29 1 ?_
 obtain ⟨g1,H⟩:=guard_some H
 have h30:=(h24.tB x6 h26).ext x7
 obtain ⟨ad1,A7,c_7,e1,a1,h31⟩:=kTableO_ato h30 g1.1 g1.2
 refine RW.ix tk g1 e1 ?_
 refine RW.ld tk _ a1 ?_
 obtain ⟨y3,h32,H⟩:=bind_some H
 refine RW.cl ent136 (r7_Tidy.calls h32 h31.all h31.len) ?_
 rintro _ w8 ⟨A8,c_8,rfl,x8,h33⟩
 refine ⟨_,rfl,x8,?_⟩
 have sx8:=x8.size
 have h34:Ow kEntry 66 w8.heap (okL [(w7.heap.size,some w8.heap.size,some 66)]) (okL []) A8 c_8 y3.List_:=h33.close
 obtain ⟨g2,H⟩:=guard_some H
 have h35:=h30.ext x8
 obtain ⟨ad2,A9,c_9,e2,a2,h36⟩:=kTableO_ato h35 g2.1 g2.2
 refine RW.ix tk g2 e2 ?_
 refine RW.storeElL0 (y:=y3) (lv:=[(w7.heap.size,some w8.heap.size,some 66)]) tk h35 (j:=y1.toNat) (by have:=g2;omega) default [iv y3.Dev,iv y3.Size,.slice A8 y3.List_.length c_8] (fun cs ok' hr=>by obtain ⟨qa1,qc1,rfl,q1⟩:=kTableO_open hr;exact ⟨by simp,kTableO_mk y3 (h34.mono (fun _ _ ho=>Or.inr (okL_sub (l:=[(w7.heap.size,some w8.heap.size,some 66)]) (l':=[(w7.heap.size,some w8.heap.size,some 66)]) ⟨(.inl ⟨by omega,by omega,rfl⟩),trivial⟩ ho)) (fun _ _ ho=>Or.inr (okL_sub (l:=[]) (l':=[(w7.heap.size,some w8.heap.size,some 66)]) trivial ho)))⟩) ⟨⟨.inl (nq rfl),trivial⟩,trivial⟩ ⟨rfl,rfl,rfl⟩ rfl rfl e2 rfl rfl rfl rfl rfl ?_
 intro w9 x9 h37
 have sx9:=x9.size
 have h38:=h37.close.sub (l':=[(w3.heap.size,some w5.heap.size,some 26)]) (li':=[(w3.heap.size,some w8.heap.size,some 66)]) ⟨(.inl ⟨by omega,by omega,rfl⟩),trivial⟩ ⟨(.inl ⟨by omega,by omega,rfl⟩),⟨(.inl ⟨by omega,by omega,rfl⟩),trivial⟩⟩
 have h39:=(h29.ext x8).tL x9
 have h40:Box w9.heap b1 30 [.slice A4 y2.Devices.length c_4,.slice A5 (y2.Tables.set y1.toNat y3).length c_5,iv y2.Job.Dev,iv y2.Job.At,iv y2.Job.Table.Dev,iv y2.Job.Table.Size,.slice A6 y2.Job.Table.List_.length c_6,iv y2.Next]:=by simpa only [List.length_set] using h39
 refine RW.done (NW.next (CW.seq (CW.lex [.L,.M,.W] rfl (RW.lw tk h40 ?_))))
 have h41:=((((j1.ext x5).tB x6).ext x7).ext x8).tL x9
 refine RW.sf tk h41 fun w10 x10 sx10 h43=>?_
 refine pu 1 rfl (RW.done (NW.next (CW.ret ?_)))
 have h44:=((((h23.tB x6 h26).ext x7).ext x8).tL x9).tB x10 h41
 have h45:=h38.tB x10 h41
 have h46:=((((h25.tB x6 h26).ext x7).ext x8).tL x9).tB x10 h41
 obtain rfl:=Option.some.inj H
 have h47:=(Ext.turn (((((((x0.tr x1).tr x2).tr x3).tr x5).tB x6).tr x7).tr x8) x9 ⟨by omega,trivial⟩).tB x10
 exact NW.ret2 rfl (resOne_cell tk (h43.at 0) rfl rfl rfl) (by rfl) ⟨A4,c_4,A5,c_5,A6,c_6,rfl,h47,(h44.sub (l':=[(w.heap.size,none,some 40)]) (li':=[(w.heap.size,none,some 105)]) ⟨(.inl ⟨by omega,trivial,rfl⟩),trivial⟩ ⟨(.inl ⟨by omega,trivial,rfl⟩),trivial⟩),(h45.sub (l':=[(w.heap.size,none,some 26)]) (li':=[(w.heap.size,none,some 66)]) ⟨(.inl ⟨by omega,trivial,rfl⟩),trivial⟩ ⟨(.inl ⟨by omega,trivial,rfl⟩),trivial⟩),(h46.sub (l':=[(w.heap.size,none,some 66)]) (li':=[]) ⟨(.inl ⟨by omega,trivial,rfl⟩),trivial⟩ trivial)⟩
theorem r1_Has.calls {k:Nat} {A1:Option Addr} {c_1:Nat} {p0:List Seg} {p1:Int} {r:Bool} {w:World} (H:r1_Has.f k p0 p1=some r) (hs1:Sl kSeg w.heap okAll A1 p0) (hl1:p0.length≤c_1):
 Calls Tryz.prog 10 #[.slice A1 p0.length c_1,iv p1] w fun e w'=>e=.returned (.bool r)∧Ext w w':=by
 have h1:Sl kSeg w.heap (okL [(0,some w.heap.size,none)]) A1 p0:=hs1.old _ rfl
 have x0:Ext w w:=Upd.refl _ w
 unfold r1_Has.f at H
 refine cst Tryz.func10 15 ?_
 refine CW.seq (CW.lw 1 rfl (pu 1 rfl (RW.done (NW.next (CW.seq (CW.lex [.W,.X,.X,.M] rfl (pu 1 rfl ?_)))))))
 refine RW.cp H ent28 (fun _ h=>r1_Set.calls h h1.all hl1) fun y1 w1 x1 sx1 H=>?_
 refine RW.al tk fun b1 w2 x2 sx2 l1 ltb1 h3=>?_
 refine RW.storeBox tk h3 (arrB 64 y1) ⟨rfl,rfl,rfl⟩ rfl rfl rfl rfl rfl arrF_len (arrF_all fun _=>rfl) (arrF_fitAll arrF_len) ?_
 intro w3 x3 h4
 have h5:Box w3.heap b1 69 (arrB 64 y1):=by rw [lay_arrFull] at h4;exact h4
 have sx3:=x3.size
 refine RW.done (NW.next (CW.seq (CW.lex [.W,.X,.W,.W,.W,.L,.W,.W] rfl (pu 1 rfl (RW.cp H ent29 (fun _ h=>r0_Num.calls h) fun y2 w4 x4 sx4 H=>?_)))))
 refine pu 1 rfl ?_
 have j1:=(((x0.tr x1).tr x2).tB x3).tr x4
 refine RW.i 10 H (fun c1 H=>?_) fun c1 H=>?_
 refine pu 1 rfl ?_
 obtain ⟨g1,H⟩:=guard_some H
 refine RW.indexBox tk g1.1 g1.2 ⟨rfl,rfl,rfl,rfl⟩ rfl rfl rfl rfl rfl rfl rfl ?_
 have h7:=h5.ext x4
 refine RW.ld tk [.bool (y1 p1.toNat)] (h7.elF (by have:=g1;omega)) ?_
 refine pu 2 rfl (RW.done (NW.next (CW.ret ?_)))
 obtain rfl:=Option.some.inj H
 exact NW.r1 ⟨rfl,j1⟩
 refine pu 5 rfl (RW.done (NW.next (CW.ret ?_)))
 obtain rfl:=Option.some.inj H
 exact NW.r1 ⟨rfl,j1⟩
theorem r7_Count.calls {k:Nat} {A1:Option Addr} {c_1:Nat} {p0:List Device} {p1:Int} {r:Int} {w:World} (H:r7_Count.f k p0 p1=some r) (hs1:Sl kDeviceR w.heap okAll A1 p0) (hl1:p0.length≤c_1):
 Calls Tryz.prog 152 #[.slice A1 p0.length c_1,iv p1] w fun e w'=>e=.returned (iv r)∧Ext w w':=by
 have h1:Sl kDeviceR w.heap (okL [(0,some w.heap.size,none)]) A1 p0:=hs1.old _ rfl
 have x0:Ext w w:=Upd.refl _ w
 unfold r7_Count.f at H
 refine cst Tryz.func152 29 ?_
 refine CW.seq (CW.lw 1 rfl (pu 1 rfl (RW.done (NW.next (CW.seq (CW.lw 1 rfl (pu 1 rfl ?_)))))))
 refine RW.done (NW.next (CW.seq (CW.seq (CW.lw 1 rfl (pu 1 rfl (RW.done (NW.next ?_)))))))
 refine CW.block ?_
 refine CW.loop (fun n1 a w1=>∃(vb:Int) (va:Int),Sat 29 [(0,.slice A1 p0.length c_1),(1,iv p1),(5,iv vb),(6,iv va)] a∧w.heap.size≤w1.heap.size∧Ext w w1∧r7_Count.l0 p0 p1 k n1 vb va=some r) k ?_ ?_
 exact fun a ha=>⟨0,0,ha.sb,by omega,x0,H⟩
 rintro n1 a w1 ⟨vb,va,hS,hle,vc,H⟩ hp
 obtain _|n1:=n1
 cases H
 rw [r7_Count.l0] at H
 refine CW.go hp hS (CW.seq (CW.seq (CW.lw 4 rfl (pu 4 rfl (RW.done (NW.next (CW.i H (fun c1 H=>?_) fun c1 H=>?_)))))))
 refine CW.skip (NW.next ?_)
 refine CW.seqJ (fun a w2=>∃(vd:Int),Sat 29 [(0,.slice A1 p0.length c_1),(1,iv p1),(5,iv vd),(6,iv va)] a∧w1.heap.size≤w2.heap.size∧Ext w w2∧r7_Count.j0 va (r7_Count.l0 p0 p1 k n1) vd=some r) ?_ ?_
 refine CW.block (CW.seq (CW.lex [.W,.W,.W,.W,.L,.W,.W] rfl (pu 2 rfl ?_)))
 obtain ⟨g1,H⟩:=guard_some H
 obtain ⟨ad1,A2,c_2,A3,c_3,e1,a1,l1,h2,l2,h3⟩:=kDeviceR_at (h1.ext vc) g1.1 g1.2
 refine RW.ix tk g1 e1 ?_
 refine pu 1 rfl (RW.ld tk [iv ((rd p0 va).ID)] ((a1.fld 0).take 1 rfl) ?_)
 refine pu 2 rfl (RW.done (NW.next (CW.n H (fun c2 H=>?_) fun c2 H=>?_)))
 refine CW.skip (NW.norm_block ?_)
 exact NW.J fun a ha=>⟨vb,ha.sb,by omega,vc,H⟩
 refine CW.lex [.W,.W,.W,.W,.W,.L,.X,.W,.W] rfl (pu 3 rfl ?_)
 obtain ⟨g2,H⟩:=guard_some H
 obtain ⟨ad2,A4,c_4,A5,c_5,e2,a2,l3,h4,l4,h5⟩:=kDeviceR_at (h1.ext vc) g2.1 g2.2
 refine RW.ix tk g2 e2 ?_
 refine pu 1 rfl (RW.ld tk [.slice A4 ((rd p0 va).Free).length c_4] ((a2.fld 2).take 1 rfl) ?_)
 refine RW.cp H ent153 (fun _ h=>r1_Count.calls h h4.all l3) fun y1 w3 x1 sx1 H=>?_
 refine pu 2 rfl (RW.done (NW.norm_block ?_))
 have h7:=vc.tr x1
 exact NW.J fun a ha=>⟨(w64 (vb+y1)),ha.sb,by omega,h7,H⟩
 rintro a w2 ⟨vd,hS,hle,ve,H⟩ hp
 unfold r7_Count.j0 at H
 refine CW.go hp hS (CW.lw 3 rfl (pu 3 rfl (RW.done ?_)))
 exact NW.J fun a ha=>⟨n1,Nat.lt_succ_self n1,vd,(w64 (va+1)),ha.sb,by omega,ve,H⟩
 refine CW.exit ?_
 refine NW.exit_then (NW.exit_then (NW.exit_hit ?_))
 refine NW.next (CW.seq (CW.lw 2 rfl (pu 2 rfl (RW.done (NW.next (CW.ret ?_))))))
 obtain rfl:=Option.some.inj H
 exact NW.r1 ⟨rfl,vc⟩
theorem r7_Take.calls {k:Nat} {A1:Option Addr} {c_1:Nat} {p0:List Device} {p1:Int} {p2:Int} {r:(List Ptr)×(List Device)×Bool} {w:World} (H:r7_Take.f k p0 p1 p2=some r) (hs1:Sl kDeviceR w.heap okAll A1 p0) (hl1:p0.length≤c_1):
 Calls Tryz.prog 137 #[.slice A1 p0.length c_1,iv p1,iv p2] w fun e w'=>∃(B1:Option Addr) (d1:Nat) (B2:Option Addr) (d2:Nat),e=.returned (.tuple #[.slice B1 r.1.length d1,.slice B2 r.2.1.length d2,.bool r.2.2])∧Ext w w'∧Ow kPtr 43 w'.heap (okL [(w.heap.size,none,some 43)]) (okL []) B1 d1 r.1∧Ow kDeviceO 40 w'.heap (okL [(w.heap.size,none,some 40)]) (okL [(w.heap.size,none,some 105)]) B2 d2 r.2.1:=by
 have h1:Sl kDeviceR w.heap (okL [(0,some w.heap.size,none)]) A1 p0:=hs1.old _ rfl
 have x0:Ext w w:=Upd.refl _ w
 unfold r7_Take.f at H
 refine cst Tryz.func137 87 ?_
 refine CW.seq (CW.lw 3 rfl (pu 3 rfl (RW.done (NW.next (CW.seq (CW.seq (CW.lex [.W,.W,.X,.W,.W] rfl ?_)))))))
 refine pu 2 rfl (RW.cp H ent152 (fun _ h=>r7_Count.calls h h1.all hl1) fun y1 w1 x1 sx1 H=>?_)
 refine pu 2 rfl (RW.done (NW.next ?_))
 have j1:=x0.tr x1
 refine CW.i H (fun c1 H=>?_) fun c1 H=>?_
 refine CW.seq (CW.lw 3 rfl (pu 3 rfl (RW.done (NW.next (CW.ret (NW.ret_then ?_))))))
 obtain rfl:=Option.some.inj H
 exact NW.ret3 rfl (by rfl) (by rfl) (by rfl) ⟨none,0,none,0,rfl,j1,Ow.nil,Ow.nil⟩
 refine CW.skip (NW.next (CW.seq (CW.lex [.W,.X,.W] rfl (pu 1 rfl ?_))))
 have h4:=h1.ext x1
 obtain ⟨y2,h5,H⟩:=bind_some H
 refine RW.cl ent67 (r0_CopyDevices.calls h5 h4.all hl1) ?_
 rintro _ w2 ⟨A2,c_2,rfl,x2,h6⟩
 refine ⟨_,rfl,x2,?_⟩
 have sx2:=x2.size
 have h7:Ow kDeviceO 40 w2.heap (okL [(w1.heap.size,some w2.heap.size,some 40)]) (okL [(w1.heap.size,some w2.heap.size,some 105)]) A2 c_2 y2:=h6.close
 refine pu 1 rfl (RW.done (NW.next (CW.seq (CW.lw 1 rfl (pu 1 rfl (RW.done (NW.next ?_)))))))
 refine CW.seq (CW.seq (CW.lw 1 rfl (pu 1 rfl (RW.done (NW.next (CW.block ?_))))))
 refine CW.loop (fun n1 a w3=>∃(va:List Device) (vc:List Ptr) (vf:Option Addr) (vg:Nat) (ve:Int),Sat 87 [(0,.slice A2 va.length c_2),(1,iv p1),(2,iv p2),(9,.slice vf vc.length vg),(10,iv ve)] a∧w2.heap.size≤w3.heap.size∧Ow kDeviceO 40 w3.heap (okL [(w1.heap.size,none,some 40)]) (okL [(w1.heap.size,none,some 105)]) A2 c_2 va∧Ow kPtr 43 w3.heap (okL [(w2.heap.size,none,some 43)]) (okL []) vf vg vc∧Ext w w3∧va.length=y2.length∧r7_Take.l0 p1 p2 k n1 va vc ve=some r) k ?_ ?_
 have h8:=j1.tr x2
 exact fun a ha=>⟨y2,([]:List Ptr),none,0,0,ha.sb,by omega,(h7.sb),Ow.nil,h8,(by (try simp only [List.length_set]) <;>omega),H⟩
 rintro n1 a w3 ⟨va,vc,vf,vg,ve,hS,hle,vq,vr,vm,vu,H⟩ hp
 obtain _|n1:=n1
 cases H
 rw [r7_Take.l0] at H
 refine CW.go hp hS ?_
 have h9:Ow kDeviceO 40 w3.heap (okL [(w1.heap.size,some w3.heap.size,some 40)]) (okL [(w1.heap.size,some w3.heap.size,some 105)]) A2 c_2 va:=vq.close
 have h10:Ow kPtr 43 w3.heap (okL [(w2.heap.size,some w3.heap.size,some 43)]) (okL []) vf vg vc:=vr.close
 have xt1:Ext w3 w3:=Upd.refl _ _
 refine CW.seq (CW.seq (CW.lw 3 rfl (pu 3 rfl (RW.done (NW.next (CW.i H (fun c2 H=>?_) fun c2 H=>?_))))))
 refine CW.skip (NW.next (CW.seq (CW.block (CW.seq (CW.lw 2 rfl (pu 2 rfl (RW.done ?_)))))))
 refine NW.next (CW.seq (CW.seq (CW.lw 1 rfl (pu 1 rfl (RW.done (NW.next (CW.block ?_)))))))
 refine CW.loop (fun n2 a w4=>∃(vb:Int) (vh:Int) (vd:Int),Sat 87 [(0,.slice A2 va.length c_2),(1,iv p1),(2,iv p2),(9,.slice vf vc.length vg),(10,iv ve),(11,iv vb),(12,iv vh),(13,iv vd)] a∧w3.heap.size≤w4.heap.size∧Ext w w4∧Ext w3 w4∧r7_Take.l1 p2 k vc ve va (r7_Take.l0 p1 p2 k n1) n2 vb vh vd=some r) k ?_ ?_
 exact fun a ha=>⟨(-1),0,0,ha.sb,by omega,vm,xt1,H⟩
 rintro n2 a w4 ⟨vb,vh,vd,hS,hle,vn,vi,H⟩ hp
 obtain _|n2:=n2
 cases H
 rw [r7_Take.l1] at H
 refine CW.go hp hS (CW.seq (CW.seq (CW.lw 4 rfl (pu 4 rfl (RW.done (NW.next (CW.i H (fun c3 H=>?_) fun c3 H=>?_)))))))
 refine CW.skip (NW.next ?_)
 refine CW.seqJ (fun a w5=>∃(vj:Int) (vk:Int),Sat 87 [(0,.slice A2 va.length c_2),(1,iv p1),(2,iv p2),(9,.slice vf vc.length vg),(10,iv ve),(11,iv vj),(12,iv vk),(13,iv vd)] a∧w4.heap.size≤w5.heap.size∧Ext w w5∧Ext w3 w5∧r7_Take.j0 vd (r7_Take.l1 p2 k vc ve va (r7_Take.l0 p1 p2 k n1) n2) vj vk=some r) ?_ ?_
 refine CW.block (CW.seq (CW.lex [.W,.W,.W,.W,.L,.X,.W] rfl (pu 2 rfl ?_)))
 obtain ⟨g1,H⟩:=guard_some H
 obtain ⟨ad1,A3,c_3,A4,c_4,e1,a1,h11,h12⟩:=kDeviceO_ato (h9.ext vi) g1.1 g1.2
 refine RW.ix tk g1 e1 ?_
 refine pu 1 rfl (RW.ld tk [.slice A3 ((rd va vd).Free).length c_3] ((a1.fld 2).take 1 rfl) ?_)
 refine RW.cp H ent153 (fun _ h=>r1_Count.calls h h11.all h11.len) fun y3 w6 x3 sx3 H=>?_
 refine pu 1 rfl (RW.done (NW.next ?_))
 refine CW.seqJ (fun a w7=>∃(vl:Bool),Sat 87 [(0,.slice A2 va.length c_2),(1,iv p1),(2,iv p2),(9,.slice vf vc.length vg),(10,iv ve),(11,iv vb),(12,iv vh),(13,iv vd),(14,iv y3),(51,.bool vl)] a∧w6.heap.size≤w7.heap.size∧Ext w w7∧Ext w3 w7∧r7_Take.j1 vb vh vd y3 (r7_Take.l1 p2 k vc ve va (r7_Take.l0 p1 p2 k n1) n2) vl=some r) ?_ ?_
 refine CW.lex [.W,.W,.W,.W,.L,.W,.W,.W,.W,.W,.W,.W] rfl (pu 2 rfl ?_)
 obtain ⟨g2,H⟩:=guard_some H
 have h14:=(h9.ext vi).ext x3
 obtain ⟨ad2,A5,c_5,A6,c_6,e2,a2,h15,h16⟩:=kDeviceO_ato h14 g2.1 g2.2
 refine RW.ix tk g2 e2 ?_
 refine pu 1 rfl (RW.ld tk [iv ((rd va vd).ID)] ((a2.fld 0).take 1 rfl) ?_)
 refine pu 3 rfl ?_
 have j2:=vn.tr x3
 have j3:=vi.tr x3
 refine RW.n 47 H (fun c4 H=>?_) fun c4 H=>?_
 refine pu 4 rfl (RW.done ?_)
 exact NW.J fun a ha=>⟨false,ha.sb,by omega,j2,j3,H⟩
 refine pu 4 rfl (RW.done ?_)
 exact NW.J fun a ha=>⟨(decide (vh<y3)),ha.sb,by omega,j2,j3,H⟩
 rintro a w7 ⟨vl,hS,hle,vo,vp,H⟩ hp
 unfold r7_Take.j1 at H
 refine CW.go hp hS (CW.i H (fun c5 H=>?_) fun c5 H=>?_)
 refine CW.lw 4 rfl (pu 4 rfl (RW.done (NW.norm_block ?_)))
 exact NW.J fun a ha=>⟨vd,y3,ha.sb,by omega,vo,vp,H⟩
 refine CW.skip (NW.norm_block ?_)
 exact NW.J fun a ha=>⟨vb,vh,ha.sb,by omega,vo,vp,H⟩
 rintro a w5 ⟨vj,vk,hS,hle,vs,vt,H⟩ hp
 unfold r7_Take.j0 at H
 refine CW.go hp hS (CW.lw 3 rfl (pu 3 rfl (RW.done ?_)))
 exact NW.J fun a ha=>⟨n2,Nat.lt_succ_self n2,vj,vk,(w64 (vd+1)),ha.sb,by omega,vs,vt,H⟩
 refine CW.exit ?_
 refine NW.exit_then (NW.exit_then (NW.exit_hit ?_))
 refine NW.next (CW.seq (CW.lex [.W,.W,.W,.W,.L,.W,.W,.L,.W] rfl (pu 2 rfl ?_)))
 obtain ⟨g3,H⟩:=guard_some H
 obtain ⟨ad3,A7,c_7,A8,c_8,e3,a3,h21,h22⟩:=kDeviceO_ato (h9.ext vi) g3.1 g3.2
 refine RW.ix tk g3 e3 ?_
 refine pu 1 rfl (RW.ld tk [.slice A7 ((rd va vb).Free).length c_7] ((a3.fld 2).take 1 rfl) ?_)
 obtain ⟨g4,H⟩:=guard_some H
 obtain ⟨ad4,e4,a4⟩:=kSeg_at h21.slL g4.1 g4.2
 refine RW.ix tk g4 e4 ?_
 refine pu 1 rfl (RW.ld tk [iv ((rd ((rd va vb).Free) 0).At)] ((a4.fld 0).take 1 rfl) ?_)
 refine pu 1 rfl (RW.done (NW.next (CW.seq (CW.lex [.W,.W,.W,.W,.W,.L,.W,.W,.X,.M,.W] rfl (pu 3 rfl ?_)))))
 obtain ⟨g5,H⟩:=guard_some H
 obtain ⟨ad5,A9,c_9,A10,c_10,e5,a5,h23,h24⟩:=kDeviceO_ato (h9.ext vi) g5.1 g5.2
 refine RW.ix tk g5 e5 ?_
 refine pu 1 rfl (RW.ld tk [iv ((rd va vb).ID)] ((a5.fld 0).take 1 rfl) ?_)
 refine pu 2 rfl (RW.buildSlice (cs:=[iv ((rd va vb).ID),iv ((rd ((rd va vb).Free) 0).At)]) tk (.inl rfl) ⟨rfl,rfl,rfl,rfl⟩ rfl rfl rfl rfl rfl rfl rfl ?_)
 intro b1 w8 x4 l9 h25
 have sx4:=x4.size
 have ltb1:=h25.lt
 have h26:=(h10.ext vi).ext x4
 obtain ⟨g6,H⟩:=guard_some H
 refine RW.append1L (d:=kPtr) (v:=(⟨(rd va vb).ID,(rd ((rd va vb).Free) 0).At⟩:Ptr)) (l:=[(w2.heap.size,some w3.heap.size,some 43)]) (li:=[]) (ly:=[]) (xs:=vc) tk h26 h25 (kPtr_mk (⟨(rd va vb).ID,(rd ((rd va vb).Free) 0).At⟩:Ptr)) trivial (by simp only [maxLen];omega) g6 ⟨rfl,rfl,rfl,rfl⟩ rfl rfl rfl rfl rfl rfl rfl ?_
 intro A11 c_11 w9 x5 h27
 have sx5:=x5.size
 have h28:=h27.close.sub (l':=[(w2.heap.size,some w9.heap.size,some 43)]) (li':=[]) ⟨(.inl ⟨by omega,by omega,rfl⟩),⟨(.inl ⟨by omega,by omega,rfl⟩),trivial⟩⟩ trivial
 refine pu 1 rfl (RW.done (NW.next (CW.lex [.W,.W,.W,.W,.W,.W,.L,.W,.W,.X,.X,.W,.W,.M] rfl (pu 4 rfl ?_))))
 obtain ⟨g7,H⟩:=guard_some H
 have h29:=((h9.ext vi).ext x4).tL x5
 obtain ⟨ad6,A12,c_12,A13,c_13,e6,a6,h30,h31⟩:=kDeviceO_ato h29 g7.1 g7.2
 refine RW.ix tk g7 e6 ?_
 refine pu 1 rfl (RW.ld tk [.slice A12 ((rd va vb).Free).length c_12] ((a6.fld 2).take 1 rfl) ?_)
 refine pu 2 rfl (RW.buildSlice (cs:=[iv ((rd ((rd va vb).Free) 0).At),iv 1]) tk (.inl rfl) ⟨rfl,rfl,rfl,rfl⟩ rfl rfl rfl rfl rfl rfl rfl ?_)
 intro b2 w10 x6 l12 h32
 have sx6:=x6.size
 have ltb2:=h32.lt
 have h33:=h30.ext x6
 have h34:Ow kSeg 105 w10.heap (okL [(w9.heap.size,some w10.heap.size,some 105)]) (okL []) (some ⟨b2,0,none⟩) 1 ([(⟨(rd ((rd va vb).Free) 0).At,1⟩:Seg)]:List Seg):=Ow.of_box h32 (.inl ⟨l12,ltb2,rfl⟩) (Nat.le_of_ble_eq_true rfl) (Ch.cons (d:=kSeg) (cs:=[iv ((rd ((rd va vb).Free) 0).At),iv 1]) (x:=(⟨(rd ((rd va vb).Free) 0).At,1⟩:Seg)) (kSeg_mk (⟨(rd ((rd va vb).Free) 0).At,1⟩:Seg)) Ch.nil)
 obtain ⟨y4,h35,H⟩:=bind_some H
 refine RW.cl ent70 (r1_Two.calls h35 h33.all h33.len h34.all h34.len) ?_
 rintro _ w11 ⟨A14,c_14,rfl,x7,h36⟩
 refine ⟨_,rfl,x7,?_⟩
 have sx7:=x7.size
 have h37:Ow kSeg 105 w11.heap (okL [(w10.heap.size,some w11.heap.size,some 105)]) (okL []) A14 c_14 y4:=h36.close
 obtain ⟨g8,H⟩:=guard_some H
 have h38:=(h29.ext x6).ext x7
 obtain ⟨ad7,A15,c_15,A16,c_16,e7,a7,h39,h40⟩:=kDeviceO_ato h38 g8.1 g8.2
 refine RW.ix tk g8 e7 ?_
 refine pu 1 rfl ?_
 refine RW.storeElL (y:=(⟨(rd va vb).ID,(rd va vb).Size,y4,(rd va vb).Late⟩:Device)) (lv:=[(w10.heap.size,some w11.heap.size,some 105)]) (k:=2) tk h38 (j:=vb.toNat) (by have:=g8;omega) default [.slice A14 y4.length c_14] (fun cs ok' hr=>by obtain ⟨qa1,qc1,qa2,qc2,rfl,q1,q2⟩:=kDeviceO_open hr;exact ⟨by simp,kDeviceO_mk (⟨(rd va vb).ID,(rd va vb).Size,y4,(rd va vb).Late⟩:Device) (h37.mono (fun _ _ ho=>Or.inr (okL_sub (l:=[(w10.heap.size,some w11.heap.size,some 105)]) (l':=[(w10.heap.size,some w11.heap.size,some 105)]) ⟨(.inl ⟨by omega,by omega,rfl⟩),trivial⟩ ho)) (fun _ _ ho=>Or.inr (okL_sub (l:=[]) (l':=[(w10.heap.size,some w11.heap.size,some 105)]) trivial ho))) (q2.mono (fun _ _ ho=>Or.inl ho) (fun _ _ ho=>Or.inl ho))⟩) ⟨⟨.inl (nq rfl),trivial⟩,trivial⟩ ⟨rfl,rfl,rfl⟩ rfl rfl e7 rfl rfl rfl rfl rfl ?_
 intro w12 x8 h41
 have sx8:=x8.size
 have h42:=h41.close.sub (l':=[(w1.heap.size,some w3.heap.size,some 40)]) (li':=[(w1.heap.size,some w11.heap.size,some 105)]) ⟨(.inl ⟨by omega,by omega,rfl⟩),trivial⟩ ⟨(.inl ⟨by omega,by omega,rfl⟩),⟨(.inl ⟨by omega,by omega,rfl⟩),trivial⟩⟩
 refine RW.tell 0 (v':=.slice A2 (va.set vb.toNat (⟨(rd va vb).ID,(rd va vb).Size,y4,(rd va vb).Late⟩:Device)).length c_2) (by simp only [List.length_set]) rfl (RW.done ?_)
 refine NW.norm_block (NW.next ?_)
 refine CW.lw 3 rfl (pu 3 rfl (RW.done ?_))
 have h43:=((h28.ext x6).ext x7).tL x8
 have h44:=Ext.turn (((Ext.turn (vn.tr x4) x5 ⟨by omega,trivial⟩).tr x6).tr x7) x8 ⟨by omega,trivial⟩
 exact NW.J fun a ha=>⟨n1,Nat.lt_succ_self n1,(va.set vb.toNat (⟨(rd va vb).ID,(rd va vb).Size,y4,(rd va vb).Late⟩:Device)),(vc++[(⟨(rd va vb).ID,(rd ((rd va vb).Free) 0).At⟩:Ptr)]),A11,c_11,(w64 (ve+1)),ha.sb,by omega,(h42.sb),(h43.sb),h44,(by (try simp only [List.length_set]) <;>omega),H⟩
 refine CW.exit ?_
 refine NW.exit_then (NW.exit_then (NW.exit_hit ?_))
 refine NW.next (CW.seq (CW.lw 5 rfl (pu 5 rfl (RW.done (NW.next (CW.ret ?_))))))
 obtain rfl:=Option.some.inj H
 exact NW.ret3 rfl (by rfl) (by rfl) (by rfl) ⟨vf,vg,A2,c_2,rfl,vm,(h10.sub (l':=[(w.heap.size,none,some 43)]) (li':=[]) ⟨(.inl ⟨by omega,trivial,rfl⟩),trivial⟩ trivial),(h9.sub (l':=[(w.heap.size,none,some 40)]) (li':=[(w.heap.size,none,some 105)]) ⟨(.inl ⟨by omega,trivial,rfl⟩),trivial⟩ ⟨(.inl ⟨by omega,trivial,rfl⟩),trivial⟩)⟩
theorem r7_Add.calls {k:Nat} {p0:Table} {A1:Option Addr} {c_1:Nat} {p1:Int} {p2:Ptr} {r:Table} {w:World} (H:r7_Add.f k p0 p1 p2=some r) (hs1:Sl kEntry w.heap okAll A1 p0.List_) (hl1:p0.List_.length≤c_1):
 Calls Tryz.prog 138 #[.agg #[iv p0.Dev,iv p0.Size,.slice A1 p0.List_.length c_1],iv p1,.agg #[iv p2.Dev,iv p2.At]] w fun e w'=>∃(B1:Option Addr) (d1:Nat),e=.returned (.agg #[iv r.Dev,iv r.Size,.slice B1 r.List_.length d1])∧Ext w w'∧Ow kEntry 66 w'.heap (okL [(w.heap.size,none,some 66)]) (okL []) B1 d1 r.List_:=by
 have h1:Sl kEntry w.heap (okL [(0,some w.heap.size,none)]) A1 p0.List_:=hs1.old _ rfl
 have x0:Ext w w:=Upd.refl _ w
 unfold r7_Add.f at H
 refine cst Tryz.func138 68 ?_
 refine CW.seq (CW.lex [.X,.X,.X] rfl (RW.bx fun b1 w1 x1 sx1 l1 ltb1 h2=>?_))
 refine RW.bx fun b2 w2 x2 sx2 l2 ltb2 h3=>?_
 refine RW.al tk fun b3 w3 x3 sx3 l3 ltb3 h4=>?_
 refine RW.done (NW.next (CW.seq (CW.lex [.L,.X,.M] rfl ?_)))
 have h5:=(h2.ext x2).ext x3
 refine RW.lw tk h5 ?_
 have h6:=((h1.ext x1).ext x2).ext x3
 obtain ⟨y1,h7,H⟩:=bind_some H
 refine RW.cl ent69 (r0_CopyTable.calls h7 h6.all hl1) ?_
 rintro _ w4 ⟨A2,c_2,rfl,x4,h8⟩
 refine ⟨_,rfl,x4,?_⟩
 have sx4:=x4.size
 have h9:Ow kEntry 66 w4.heap (okL [(w3.heap.size,some w4.heap.size,some 66)]) (okL []) A2 c_2 y1.List_:=h8.close
 have h10:=h5.ext x4
 refine RW.sf tk h10 fun w5 x5 sx5 h12=>?_
 refine RW.done (NW.next (CW.seq (CW.lex [.W,.L,.W,.W,.W] rfl (pu 1 rfl (RW.lb tk [.slice A2 y1.List_.length c_2] h12 2 ?_)))))
 refine pu 3 rfl (RW.done (NW.next ?_))
 refine CW.seqJ (fun a w6=>Sat 68 [(1,iv p1),(3,.pointer (some ⟨b1,0,none⟩)),(5,.pointer (some ⟨b2,0,none⟩)),(6,.pointer (some ⟨b3,0,none⟩))] a∧w5.heap.size≤w6.heap.size∧Ow kEntry 66 w6.heap (okL [(w3.heap.size,some w4.heap.size,some 66)]) (okL []) A2 c_2 y1.List_∧Ext w w6∧Box w6.heap b1 26 [iv y1.Dev,iv y1.Size,.slice A2 y1.List_.length c_2]∧Box w6.heap b2 43 [iv p2.Dev,iv p2.At]∧Box w6.heap b3 26 [iv 0,iv 0,.slice none 0 0]∧r7_Add.j0 p1 p2 y1=some r) ?_ ?_
 refine CW.seq (CW.lw 2 rfl (pu 2 rfl (RW.done (NW.next ?_))))
 have j1:=h9.tB x5 h10
 have j2:=((h3.ext x3).ext x4).tB x5
 have j3:=((((x0.tr x1).tr x2).tr x3).tr x4).tB x5
 have j4:=(h4.ext x4).tB x5
 refine CW.i H (fun c1 H=>?_) fun c1 H=>?_
 refine CW.seq (CW.lex [.W,.L,.W,.W,.L,.X,.M] rfl (pu 1 rfl (RW.lb tk [.slice A2 y1.List_.length c_2] h12 2 ?_)))
 refine pu 1 rfl ?_
 obtain ⟨g1,H⟩:=guard_some H
 obtain ⟨ad1,e1,a1⟩:=kEntry_at j1.slL g1.1 g1.2
 refine RW.ix tk g1 e1 ?_
 refine RW.ld tk _ a1 ?_
 refine RW.al tk fun b4 w7 x6 sx6 l4 ltb4 h14=>?_
 refine RW.sf tk h14 fun w8 x7 sx7 h16=>?_
 refine RW.done (NW.next ?_)
 refine CW.seqJ (fun a w9=>∃(vb:Bool),Sat 68 [(1,iv p1),(3,.pointer (some ⟨b1,0,none⟩)),(5,.pointer (some ⟨b2,0,none⟩)),(6,.pointer (some ⟨b3,0,none⟩)),(7,iv (w64 ((y1.List_.length:Int)-1))),(45,.bool vb)] a∧w8.heap.size≤w9.heap.size∧Ow kEntry 66 w9.heap (okL [(w3.heap.size,some w4.heap.size,some 66)]) (okL []) A2 c_2 y1.List_∧Ext w w9∧Box w9.heap b1 26 [iv y1.Dev,iv y1.Size,.slice A2 y1.List_.length c_2]∧Box w9.heap b2 43 [iv p2.Dev,iv p2.At]∧Box w9.heap b3 26 [iv 0,iv 0,.slice none 0 0]∧r7_Add.j1 p1 p2 y1 vb=some r) ?_ ?_
 refine CW.lex [.W,.L,.W,.L,.W,.W,.W,.W,.W,.L,.W,.L,.W,.W,.W,.W,.L,.W,.L,.W,.W,.L,.W,.W] rfl (pu 1 rfl (RW.lb tk [iv ((rd y1.List_ (w64 ((y1.List_.length:Int)-1))).From)] h16 0 ?_))
 refine pu 1 rfl (RW.lb tk [iv ((rd y1.List_ (w64 ((y1.List_.length:Int)-1))).Len)] h16 1 ?_)
 refine pu 4 rfl ?_
 have j5:=(j2.ext x6).tB x7
 have j6:=(j1.ext x6).turnB x7 h14 ⟨.inr (by omega),trivial⟩ trivial
 have j7:=(j3.tr x6).tB x7
 have j8:=(h12.ext x6).tB x7
 have j9:=(j4.ext x6).tB x7
 refine RW.i 29 H (fun c2 H=>?_) fun c2 H=>?_
 refine pu 1 rfl (RW.lb tk [iv ((rd y1.List_ (w64 ((y1.List_.length:Int)-1))).Dev)] h16 2 ?_)
 refine pu 1 rfl (RW.lb tk [iv p2.Dev] j5 0 ?_)
 refine pu 3 rfl (RW.i 36 H (fun c3 H=>?_) fun c3 H=>?_)
 refine pu 1 rfl (RW.lb tk [iv ((rd y1.List_ (w64 ((y1.List_.length:Int)-1))).To)] h16 3 ?_)
 refine pu 1 rfl (RW.lb tk [iv ((rd y1.List_ (w64 ((y1.List_.length:Int)-1))).Len)] h16 1 ?_)
 refine pu 2 rfl (RW.lb tk [iv p2.At] j5 1 ?_)
 refine pu 2 rfl (RW.done ?_)
 exact NW.J fun a ha=>⟨((w64 (((rd y1.List_ (w64 ((y1.List_.length:Int)-1))).To)+((rd y1.List_ (w64 ((y1.List_.length:Int)-1))).Len)))==p2.At),ha.sb,by omega,j6,j7,j8,j5,j9,H⟩
 refine pu 9 rfl (RW.done ?_)
 exact NW.J fun a ha=>⟨false,ha.sb,by omega,j6,j7,j8,j5,j9,H⟩
 refine pu 16 rfl (RW.done ?_)
 exact NW.J fun a ha=>⟨false,ha.sb,by omega,j6,j7,j8,j5,j9,H⟩
 rintro a w9 ⟨vb,hS,hle,va,vd,vc,vh,ve,H⟩ hp
 unfold r7_Add.j1 at H
 refine CW.go hp hS ?_
 have xt1:Ext w9 w9:=Upd.refl _ _
 refine CW.i H (fun c4 H=>?_) fun c4 H=>?_
 refine CW.seq (CW.lex [.W,.L,.W,.W,.W,.L,.W,.W,.W,.M] rfl (pu 1 rfl (RW.lb tk [.slice A2 y1.List_.length c_2] vc 2 ?_)))
 refine pu 1 rfl ?_
 obtain ⟨g2,H⟩:=guard_some H
 obtain ⟨ad2,e2,a2⟩:=kEntry_at va.slL g2.1 g2.2
 refine RW.ix tk g2 e2 ?_
 refine pu 1 rfl (RW.ld tk [iv ((rd y1.List_ (w64 ((y1.List_.length:Int)-1))).Len)] ((a2.fld 1).take 1 rfl) ?_)
 refine pu 1 rfl ?_
 obtain ⟨g3,H⟩:=guard_some H
 obtain ⟨ad3,e3,a3⟩:=kEntry_at va.slL g3.1 g3.2
 refine RW.ix tk g3 e3 ?_
 refine pu 1 rfl ?_
 refine RW.storeElL (y:=(⟨(rd y1.List_ (w64 ((y1.List_.length:Int)-1))).From,w64 (((rd y1.List_ (w64 ((y1.List_.length:Int)-1))).Len)+1),(rd y1.List_ (w64 ((y1.List_.length:Int)-1))).Dev,(rd y1.List_ (w64 ((y1.List_.length:Int)-1))).To,(rd y1.List_ (w64 ((y1.List_.length:Int)-1))).Stale⟩:Entry)) (lv:=[]) (k:=1) tk va (j:=(w64 ((y1.List_.length:Int)-1)).toNat) (by have:=g3;omega) default [iv (w64 (((rd y1.List_ (w64 ((y1.List_.length:Int)-1))).Len)+1))] (fun cs ok' hr=>by obtain rfl:=kEntry_open hr;exact ⟨by simp,kEntry_mk (⟨(rd y1.List_ (w64 ((y1.List_.length:Int)-1))).From,w64 (((rd y1.List_ (w64 ((y1.List_.length:Int)-1))).Len)+1),(rd y1.List_ (w64 ((y1.List_.length:Int)-1))).Dev,(rd y1.List_ (w64 ((y1.List_.length:Int)-1))).To,(rd y1.List_ (w64 ((y1.List_.length:Int)-1))).Stale⟩:Entry)⟩) trivial ⟨rfl,rfl,rfl⟩ rfl rfl e3 rfl rfl rfl rfl rfl ?_
 intro w10 x8 h31
 have sx8:=x8.size
 have h32:=h31.sub (l':=[(w3.heap.size,some w4.heap.size,some 66)]) (li':=[]) ⟨(.inl ⟨by omega,by omega,rfl⟩),trivial⟩ trivial
 have h33:=vc.tL x8
 have h34:Box w10.heap b1 26 [iv y1.Dev,iv y1.Size,.slice A2 (y1.List_.set (w64 ((y1.List_.length:Int)-1)).toNat (⟨(rd y1.List_ (w64 ((y1.List_.length:Int)-1))).From,w64 (((rd y1.List_ (w64 ((y1.List_.length:Int)-1))).Len)+1),(rd y1.List_ (w64 ((y1.List_.length:Int)-1))).Dev,(rd y1.List_ (w64 ((y1.List_.length:Int)-1))).To,(rd y1.List_ (w64 ((y1.List_.length:Int)-1))).Stale⟩:Entry)).length c_2]:=by simpa only [List.length_set] using h33
 refine RW.done (NW.next (CW.seq (CW.lex [.L,.M] rfl (RW.lw tk h34 ?_))))
 have h35:=ve.tL x8
 refine RW.sf tk h35 fun w11 x9 sx9 h37=>?_
 refine RW.done (NW.next (CW.ret (NW.ret_then ?_)))
 have h38:=h32.tB x9 h35
 obtain rfl:=Option.some.inj H
 have h39:=(Ext.turn vd x8 ⟨by omega,trivial⟩).tB x9
 exact NW.ret1 rfl (resOne_cell tk (h37.at 0) rfl rfl rfl) ⟨A2,c_2,rfl,h39,(h38.sub (l':=[(w.heap.size,none,some 66)]) (li':=[]) ⟨(.inl ⟨by omega,trivial,rfl⟩),trivial⟩ trivial)⟩
 refine CW.skip ?_
 exact NW.J fun a ha=>⟨ha.sb,by omega,va,vd,vc,vh,ve,H⟩
 refine CW.skip ?_
 exact NW.J fun a ha=>⟨ha.sb,by omega,j1,j3,h12,j2,j4,H⟩
 rintro a w6 ⟨hS,hle,vi,vj,vf,vg,vk,H⟩ hp
 unfold r7_Add.j0 at H
 refine CW.go hp hS ?_
 have xt2:Ext w6 w6:=Upd.refl _ _
 refine CW.seq (CW.lex [.W,.L,.W,.W,.L,.W,.L,.W,.X,.M,.W,.M] rfl (pu 1 rfl (RW.lb tk [.slice A2 y1.List_.length c_2] vf 2 ?_)))
 refine pu 2 rfl (RW.lb tk [iv p2.Dev] vg 0 ?_)
 refine pu 1 rfl (RW.lb tk [iv p2.At] vg 1 ?_)
 refine pu 1 rfl (RW.buildSlice (cs:=[iv p1,iv 1,iv p2.Dev,iv p2.At,iv 0]) tk (.inl rfl) ⟨rfl,rfl,rfl,rfl⟩ rfl rfl rfl rfl rfl rfl rfl ?_)
 intro b5 w12 x10 l5 h44
 have sx10:=x10.size
 have ltb5:=h44.lt
 have h45:=vi.ext x10
 obtain ⟨g4,H⟩:=guard_some H
 refine RW.append1L (d:=kEntry) (v:=(⟨p1,1,p2.Dev,p2.At,0⟩:Entry)) (l:=[(w3.heap.size,some w4.heap.size,some 66)]) (li:=[]) (ly:=[]) (xs:=y1.List_) tk h45 h44 (kEntry_mk (⟨p1,1,p2.Dev,p2.At,0⟩:Entry)) trivial (by simp only [maxLen];omega) g4 ⟨rfl,rfl,rfl,rfl⟩ rfl rfl rfl rfl rfl rfl rfl ?_
 intro A3 c_3 w13 x11 h46
 have sx11:=x11.size
 have h47:=h46.close.sub (l':=[(w3.heap.size,some w13.heap.size,some 66)]) (li':=[]) ⟨(.inl ⟨by omega,by omega,rfl⟩),⟨(.inl ⟨by omega,by omega,rfl⟩),trivial⟩⟩ trivial
 refine pu 1 rfl ?_
 have h48:=(vf.ext x10).tL x11
 refine RW.sp tk h48 [iv y1.Dev,iv y1.Size,.slice A3 (y1.List_++[(⟨p1,1,p2.Dev,p2.At,0⟩:Entry)]).length c_3] fun w14 x12 sx12 h50=>?_
 refine RW.done (NW.next (CW.seq (CW.lex [.L,.M] rfl (RW.lw tk h50 ?_))))
 have h51:=((vk.ext x10).tL x11).tB x12
 refine RW.sf tk h51 fun w15 x13 sx13 h53=>?_
 refine RW.done (NW.next (CW.ret ?_))
 have h54:=(h47.tB x12 h48).tB x13 h51
 obtain rfl:=Option.some.inj H
 have h55:=((Ext.turn (vj.tr x10) x11 ⟨by omega,trivial⟩).tB x12).tB x13
 exact NW.ret1 rfl (resOne_cell tk (h53.at 0) rfl rfl rfl) ⟨A3,c_3,rfl,h55,(h54.sub (l':=[(w.heap.size,none,some 66)]) (li':=[]) ⟨(.inl ⟨by omega,trivial,rfl⟩),trivial⟩ trivial)⟩
end Go.Proofs.YtnaajldlloglkaaGreatDoor.W
