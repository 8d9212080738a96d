/- Walks; printed by a program of the claim. -/
import Derived.Test.YtnaajldlloglkaaGreatDoorMoveX
set_option linter.unusedVariables false
set_option linter.unusedSimpArgs false
set_option maxHeartbeats 20000000
set_option maxRecDepth 100000
namespace Go.Proofs.YtnaajldlloglkaaGreatDoor.W
open Go.H Go.Proofs
theorem l0_DevicesWeight.calls {k:Nat} {A1:Option Addr} {c_1:Nat} {p0:List Device} {r:Int} {w:World} (H:l0_DevicesWeight.f k p0=some r) (hs1:Sl kDeviceR w.heap okAll A1 p0) (hl1:p0.length≤c_1):
 Calls Tryz.prog 49 #[.slice A1 p0.length c_1] w fun e w'=>e=.returned (iv r)∧Ext w w':=by
 have h1:Sl kDeviceR w.heap (okL [(0,some w.heap.size,none)]) A1 p0:=hs1.old _ rfl
 have x0:Ext w w:=Upd.refl _ w
 unfold l0_DevicesWeight.f at H
 refine cst Tryz.func49 33 ?_
 refine CW.seq (CW.lw 1 rfl (pu 1 rfl (RW.done (NW.next (CW.seq (CW.lw 3 rfl (pu 3 rfl ?_)))))))
 refine RW.done (NW.next (CW.seq (CW.seq (CW.lw 1 rfl (pu 1 rfl (RW.done (NW.next ?_)))))))
 refine CW.block ?_
 refine CW.loop (fun n1 a w1=>∃(vb:Int) (va:Int),Sat 33 [(0,.slice A1 p0.length c_1),(3,iv vb),(4,iv va)] a∧w.heap.size≤w1.heap.size∧Ext w w1∧l0_DevicesWeight.l0 p0 n1 vb va=some r) k ?_ ?_
 exact fun a ha=>⟨(p0.length:Int),0,ha.sb,by omega,x0,H⟩
 rintro n1 a w1 ⟨vb,va,hS,hle,ve,H⟩ hp
 obtain _|n1:=n1
 cases H
 rw [l0_DevicesWeight.l0] at H
 refine CW.go hp hS (CW.seq ?_)
 refine CW.seqJ (fun a w2=>∃(vc:Bool),Sat 33 [(0,.slice A1 p0.length c_1),(3,iv vb),(4,iv va),(14,.bool vc)] a∧w1.heap.size≤w2.heap.size∧Ext w w2∧l0_DevicesWeight.j0 p0 vb va (l0_DevicesWeight.l0 p0 n1) vc=some r) ?_ ?_
 refine CW.lw 8 rfl (pu 5 rfl (RW.i 11 H (fun c1 H=>?_) fun c1 H=>?_))
 refine pu 3 rfl (RW.done ?_)
 exact NW.J fun a ha=>⟨(decide (vb<1048576)),ha.sb,by omega,ve,H⟩
 refine pu 3 rfl (RW.done ?_)
 exact NW.J fun a ha=>⟨false,ha.sb,by omega,ve,H⟩
 rintro a w2 ⟨vc,hS,hle,vd,H⟩ hp
 unfold l0_DevicesWeight.j0 at H
 refine CW.go hp hS (CW.i H (fun c2 H=>?_) fun c2 H=>?_)
 refine CW.skip (NW.next (CW.seq (CW.block (CW.ord [0,0,0,6,14,30,62,127,0,0,768,1792,3840,7936,16383,32767] (ofL [(0,.W),(1,.W),(2,.W),(3,.W),(4,.W),(8,.W),(9,.W),(10,.W),(11,.W),(5,.L),(6,.W),(7,.W),(12,.L),(13,.W),(14,.W),(15,.W)] .nil) mixed (by kernel_rfl) ?_))))
 intro w3 x1
 have sx1:=x1.size
 refine pu 3 rfl ?_
 obtain ⟨g1,H⟩:=guard_some H
 have h2:=(h1.ext vd).ext x1
 obtain ⟨ad1,A2,c_2,A3,c_3,e1,a1,l1,h3,l2,h4⟩:=kDeviceR_at h2 g1.1 g1.2
 refine RW.ix tk g1 e1 ?_
 refine pu 3 rfl ?_
 obtain ⟨g2,H⟩:=guard_some H
 obtain ⟨ad2,A4,c_4,A5,c_5,e2,a2,l3,h5,l4,h6⟩:=kDeviceR_at h2 g2.1 g2.2
 refine RW.ix tk g2 e2 ?_
 refine pu 1 rfl (RW.ld tk [.slice A2 ((rd p0 va).Free).length c_2] ((a1.fld 2).take 1 rfl) ?_)
 refine pu 2 rfl (RW.ld tk [.slice A5 ((rd p0 va).Late).length c_5] (a2.fld 3) ?_)
 refine pu 3 rfl (RW.done ?_)
 refine NW.norm_block (NW.next ?_)
 refine CW.lw 3 rfl (pu 3 rfl (RW.done ?_))
 have h7:=vd.tr x1
 exact NW.J fun a ha=>⟨n1,Nat.lt_succ_self n1,(w64 ((w64 (vb+(((rd p0 va).Free).length:Int)))+(((rd p0 va).Late).length:Int))),(w64 (va+1)),ha.sb,by omega,h7,H⟩
 refine CW.exit ?_
 refine NW.exit_then (NW.exit_then (NW.exit_hit ?_))
 refine NW.next (CW.seq (CW.lw 2 rfl (pu 2 rfl (RW.done (NW.next (CW.ret ?_))))))
 obtain rfl:=Option.some.inj H
 exact NW.r1 ⟨rfl,vd⟩
theorem l0_PoolWeight.calls {k:Nat} {p0:Pool} {A1:Option Addr} {c_1:Nat} {A2:Option Addr} {c_2:Nat} {A3:Option Addr} {c_3:Nat} {r:Int} {w:World} (H:l0_PoolWeight.f k p0=some r) (hs1:Sl kDeviceR w.heap okAll A1 p0.Devices) (hl1:p0.Devices.length≤c_1) (hs2:Sl kTableR w.heap okAll A2 p0.Tables) (hl2:p0.Tables.length≤c_2) (hs3:Sl kEntry w.heap okAll A3 p0.Job.Table.List_) (hl3:p0.Job.Table.List_.length≤c_3):
 Calls Tryz.prog 19 #[.agg #[.slice A1 p0.Devices.length c_1,.slice A2 p0.Tables.length c_2,iv p0.Job.Dev,iv p0.Job.At,iv p0.Job.Table.Dev,iv p0.Job.Table.Size,.slice A3 p0.Job.Table.List_.length c_3,iv p0.Next]] w fun e w'=>e=.returned (iv r)∧Ext w w':=by
 have h1:Sl kDeviceR w.heap (okL [(0,some w.heap.size,none)]) A1 p0.Devices:=hs1.old _ rfl
 have h2:Sl kTableR w.heap (okL [(0,some w.heap.size,none)]) A2 p0.Tables:=hs2.old _ rfl
 have h3:Sl kEntry w.heap (okL [(0,some w.heap.size,none)]) A3 p0.Job.Table.List_:=hs3.old _ rfl
 have x0:Ext w w:=Upd.refl _ w
 unfold l0_PoolWeight.f at H
 refine cst Tryz.func19 39 ?_
 refine CW.seq (CW.lex [.X,.W] rfl (RW.bx fun b1 w1 x1 sx1 l1 ltb1 h4=>?_))
 refine pu 1 rfl (RW.done (NW.next (CW.seq (CW.ord [0,1,3,0,8,24,63,0,128,384,896,1920,4095,8191] (ofL [(0,.W),(3,.W),(7,.W),(8,.W),(9,.W),(1,.L),(4,.L),(5,.W),(10,.L),(11,.W),(2,.X),(6,.W),(12,.W),(13,.W)] .nil) mixed (by kernel_rfl) ?_))))
 intro w2 x2
 have sx2:=x2.size
 refine pu 5 rfl ?_
 have h5:=h4.ext x2
 refine RW.lb tk [.slice A1 p0.Devices.length c_1] h5 0 ?_
 refine RW.lb tk [.slice A2 p0.Tables.length c_2] h5 1 ?_
 refine pu 1 rfl (RW.lb tk [.slice A3 p0.Job.Table.List_.length c_3] h5 6 ?_)
 refine pu 1 rfl ?_
 have h6:=(h1.ext x1).ext x2
 refine RW.cp H ent49 (fun _ h=>l0_DevicesWeight.calls h h6.all hl1) fun y1 w3 x3 sx3 H=>?_
 refine pu 3 rfl (RW.done (NW.next (CW.seq (CW.seq (CW.lw 1 rfl (pu 1 rfl (RW.done ?_)))))))
 refine NW.next (CW.block ?_)
 refine CW.loop (fun n1 a w4=>∃(vb:Int) (va:Int),Sat 39 [(1,.pointer (some ⟨b1,0,none⟩)),(3,iv vb),(4,iv va)] a∧w3.heap.size≤w4.heap.size∧Ext w w4∧Box w4.heap b1 30 [.slice A1 p0.Devices.length c_1,.slice A2 p0.Tables.length c_2,iv p0.Job.Dev,iv p0.Job.At,iv p0.Job.Table.Dev,iv p0.Job.Table.Size,.slice A3 p0.Job.Table.List_.length c_3,iv p0.Next]∧l0_PoolWeight.l0 p0 n1 vb va=some r) k ?_ ?_
 have h8:=((x0.tr x1).tr x2).tr x3
 have h9:=h5.ext x3
 exact fun a ha=>⟨(w64 ((w64 (y1+(p0.Tables.length:Int)))+(p0.Job.Table.List_.length:Int))),0,ha.sb,by omega,h8,h9,H⟩
 rintro n1 a w4 ⟨vb,va,hS,hle,vf,vc,H⟩ hp
 obtain _|n1:=n1
 cases H
 rw [l0_PoolWeight.l0] at H
 refine CW.go hp hS ?_
 have xt1:Ext w4 w4:=Upd.refl _ _
 refine CW.seq ?_
 refine CW.seqJ (fun a w5=>∃(vd:Bool),Sat 39 [(1,.pointer (some ⟨b1,0,none⟩)),(3,iv vb),(4,iv va),(26,.bool vd)] a∧w4.heap.size≤w5.heap.size∧Ext w w5∧Ext w4 w5∧l0_PoolWeight.j0 p0 vb va (l0_PoolWeight.l0 p0 n1) vd=some r) ?_ ?_
 refine CW.lex [.W,.W,.L,.W,.W,.W,.W,.W,.W] rfl (pu 2 rfl (RW.lb tk [.slice A2 p0.Tables.length c_2] vc 1 ?_))
 refine pu 3 rfl (RW.i 23 H (fun c1 H=>?_) fun c1 H=>?_)
 refine pu 3 rfl (RW.done ?_)
 exact NW.J fun a ha=>⟨(decide (vb<1048576)),ha.sb,by omega,vf,xt1,H⟩
 refine pu 3 rfl (RW.done ?_)
 exact NW.J fun a ha=>⟨false,ha.sb,by omega,vf,xt1,H⟩
 rintro a w5 ⟨vd,hS,hle,ve,vg,H⟩ hp
 unfold l0_PoolWeight.j0 at H
 refine CW.go hp hS (CW.i H (fun c2 H=>?_) fun c2 H=>?_)
 refine CW.skip (NW.next (CW.seq (CW.block (CW.lex [.W,.W,.L,.W,.W,.W,.L,.W,.W,.W] rfl (pu 2 rfl (RW.lb tk [.slice A2 p0.Tables.length c_2] (vc.ext vg) 1 ?_))))))
 refine pu 1 rfl ?_
 obtain ⟨g1,H⟩:=guard_some H
 obtain ⟨ad1,A4,c_4,e1,a1,l2,h10⟩:=kTableR_at (h2.ext ve) g1.1 g1.2
 refine RW.ix tk g1 e1 ?_
 refine pu 1 rfl (RW.ld tk [.slice A4 ((rd p0.Tables va).List_).length c_4] (a1.fld 2) ?_)
 refine pu 3 rfl (RW.done ?_)
 refine NW.norm_block (NW.next ?_)
 refine CW.lw 3 rfl (pu 3 rfl (RW.done ?_))
 exact NW.J fun a ha=>⟨n1,Nat.lt_succ_self n1,(w64 (vb+(((rd p0.Tables va).List_).length:Int))),(w64 (va+1)),ha.sb,by omega,ve,(vc.ext vg),H⟩
 refine CW.exit ?_
 refine NW.exit_then (NW.exit_then (NW.exit_hit ?_))
 refine NW.next (CW.seq (CW.lw 2 rfl (pu 2 rfl (RW.done (NW.next (CW.ret ?_))))))
 obtain rfl:=Option.some.inj H
 exact NW.r1 ⟨rfl,ve⟩
theorem l10_Heavy.calls {k:Nat} {p0:Script} {A1:Option Addr} {c_1:Nat} {A2:Option Addr} {c_2:Nat} {A3:Option Addr} {c_3:Nat} {A4:Option Addr} {c_4:Nat} {r:Bool} {w:World} (H:l10_Heavy.f k p0=some r) (hs1:Sl kDeviceR w.heap okAll A1 p0.P.Devices) (hl1:p0.P.Devices.length≤c_1) (hs2:Sl kTableR w.heap okAll A2 p0.P.Tables) (hl2:p0.P.Tables.length≤c_2) (hs3:Sl kEntry w.heap okAll A3 p0.P.Job.Table.List_) (hl3:p0.P.Job.Table.List_.length≤c_3) (hs4:Sl kActR w.heap okAll A4 p0.A) (hl4:p0.A.length≤c_4):
 Calls Tryz.prog 7 #[.agg #[.slice A1 p0.P.Devices.length c_1,.slice A2 p0.P.Tables.length c_2,iv p0.P.Job.Dev,iv p0.P.Job.At,iv p0.P.Job.Table.Dev,iv p0.P.Job.Table.Size,.slice A3 p0.P.Job.Table.List_.length c_3,iv p0.P.Next,.slice A4 p0.A.length c_4]] w fun e w'=>e=.returned (.bool r)∧Ext w w':=by
 have h1:Sl kDeviceR w.heap (okL [(0,some w.heap.size,none)]) A1 p0.P.Devices:=hs1.old _ rfl
 have h2:Sl kTableR w.heap (okL [(0,some w.heap.size,none)]) A2 p0.P.Tables:=hs2.old _ rfl
 have h3:Sl kEntry w.heap (okL [(0,some w.heap.size,none)]) A3 p0.P.Job.Table.List_:=hs3.old _ rfl
 have h4:Sl kActR w.heap (okL [(0,some w.heap.size,none)]) A4 p0.A:=hs4.old _ rfl
 have x0:Ext w w:=Upd.refl _ w
 unfold l10_Heavy.f at H
 refine cst Tryz.func7 34 ?_
 refine CW.seq (CW.lex [.X,.W] rfl (RW.bx fun b1 w1 x1 sx1 l1 ltb1 h5=>?_))
 refine pu 1 rfl (RW.done (NW.next (CW.seq (CW.ord [0,1,3,0,8,24,63,127] (ofL [(0,.W),(3,.W),(1,.L),(4,.L),(5,.W),(2,.X),(6,.W),(7,.W)] .nil) mixed (by kernel_rfl) ?_))))
 intro w2 x2
 have sx2:=x2.size
 refine pu 2 rfl ?_
 have h6:=h5.ext x2
 refine RW.lb tk [.slice A1 p0.P.Devices.length c_1,.slice A2 p0.P.Tables.length c_2,iv p0.P.Job.Dev,iv p0.P.Job.At,iv p0.P.Job.Table.Dev,iv p0.P.Job.Table.Size,.slice A3 p0.P.Job.Table.List_.length c_3,iv p0.P.Next] h6 0 ?_
 refine RW.lb tk [.slice A4 p0.A.length c_4] h6 8 ?_
 refine pu 1 rfl ?_
 have h7:=(h1.ext x1).ext x2
 have h8:=(h2.ext x1).ext x2
 have h9:=(h3.ext x1).ext x2
 refine RW.cp H ent19 (fun _ h=>l0_PoolWeight.calls h h7.all hl1 h8.all hl2 h9.all hl3) fun y1 w3 x3 sx3 H=>?_
 refine pu 2 rfl (RW.done (NW.next (CW.seq (CW.seq (CW.lw 1 rfl (pu 1 rfl (RW.done ?_)))))))
 refine NW.next (CW.block ?_)
 refine CW.loop (fun n1 a w4=>∃(vb:Int) (va:Int),Sat 34 [(1,.pointer (some ⟨b1,0,none⟩)),(3,iv vb),(4,iv va)] a∧w3.heap.size≤w4.heap.size∧Ext w w4∧Box w4.heap b1 33 [.slice A1 p0.P.Devices.length c_1,.slice A2 p0.P.Tables.length c_2,iv p0.P.Job.Dev,iv p0.P.Job.At,iv p0.P.Job.Table.Dev,iv p0.P.Job.Table.Size,.slice A3 p0.P.Job.Table.List_.length c_3,iv p0.P.Next,.slice A4 p0.A.length c_4]∧l10_Heavy.l0 p0 n1 vb va=some r) k ?_ ?_
 have h11:=((x0.tr x1).tr x2).tr x3
 have h12:=h6.ext x3
 exact fun a ha=>⟨(w64 (y1+(p0.A.length:Int))),0,ha.sb,by omega,h11,h12,H⟩
 rintro n1 a w4 ⟨vb,va,hS,hle,vf,vc,H⟩ hp
 obtain _|n1:=n1
 cases H
 rw [l10_Heavy.l0] at H
 refine CW.go hp hS ?_
 have xt1:Ext w4 w4:=Upd.refl _ _
 refine CW.seq ?_
 refine CW.seqJ (fun a w5=>∃(vd:Bool),Sat 34 [(1,.pointer (some ⟨b1,0,none⟩)),(3,iv vb),(4,iv va),(20,.bool vd)] a∧w4.heap.size≤w5.heap.size∧Ext w w5∧Ext w4 w5∧l10_Heavy.j0 p0 vb va (l10_Heavy.l0 p0 n1) vd=some r) ?_ ?_
 refine CW.lex [.W,.W,.L,.W,.W,.W,.W,.W,.W] rfl (pu 2 rfl (RW.lb tk [.slice A4 p0.A.length c_4] vc 8 ?_))
 refine pu 3 rfl (RW.i 17 H (fun c1 H=>?_) fun c1 H=>?_)
 refine pu 3 rfl (RW.done ?_)
 exact NW.J fun a ha=>⟨(decide (vb<1048576)),ha.sb,by omega,vf,xt1,H⟩
 refine pu 3 rfl (RW.done ?_)
 exact NW.J fun a ha=>⟨false,ha.sb,by omega,vf,xt1,H⟩
 rintro a w5 ⟨vd,hS,hle,ve,vg,H⟩ hp
 unfold l10_Heavy.j0 at H
 refine CW.go hp hS (CW.i H (fun c2 H=>?_) fun c2 H=>?_)
 refine CW.skip (NW.next (CW.seq (CW.block (CW.lex [.W,.W,.L,.W,.W,.W,.L,.W,.W,.W] rfl (pu 2 rfl (RW.lb tk [.slice A4 p0.A.length c_4] (vc.ext vg) 8 ?_))))))
 refine pu 1 rfl ?_
 obtain ⟨g1,H⟩:=guard_some H
 obtain ⟨ad1,A5,c_5,e1,a1,l2,h13⟩:=kActR_at (h4.ext ve) g1.1 g1.2
 refine RW.ix tk g1 e1 ?_
 refine pu 1 rfl (RW.ld tk [.slice A5 ((rd p0.A va).Q).length c_5] (a1.fld 2) ?_)
 refine pu 3 rfl (RW.done ?_)
 refine NW.norm_block (NW.next ?_)
 refine CW.lw 3 rfl (pu 3 rfl (RW.done ?_))
 exact NW.J fun a ha=>⟨n1,Nat.lt_succ_self n1,(w64 (vb+(((rd p0.A va).Q).length:Int))),(w64 (va+1)),ha.sb,by omega,ve,(vc.ext vg),H⟩
 refine CW.exit ?_
 refine NW.exit_then (NW.exit_then (NW.exit_hit ?_))
 refine NW.next (CW.seq (CW.lw 3 rfl (pu 3 rfl (RW.done (NW.next (CW.ret ?_))))))
 obtain rfl:=Option.some.inj H
 exact NW.r1 ⟨rfl,ve⟩
theorem seg_To.calls {p0:Int} {r:Int} {w:World} (H:seg_To.f p0=some r):
 Calls Tryz.prog 39 #[iv p0] w fun e w'=>e=.returned (.int .u64 r)∧Ext w w':=by
 have x0:Ext w w:=Upd.refl _ w
 unfold seg_To.f at H
 refine cst Tryz.func39 8 ?_
 refine CW.seq (CW.lw 1 rfl (pu 1 rfl (RW.done (NW.next (CW.seq (CW.seq (CW.lw 2 rfl ?_)))))))
 refine pu 2 rfl (RW.done (NW.next (CW.i H (fun c1 H=>?_) fun c1 H=>?_)))
 refine CW.seq (CW.lw 1 rfl (pu 1 rfl (RW.done (NW.next (CW.ret (NW.ret_then ?_))))))
 obtain rfl:=Option.some.inj H
 exact NW.r1 ⟨rfl,x0⟩
 refine CW.skip (NW.next (CW.seq (CW.lw 4 rfl (pu 1 rfl ?_))))
 obtain ⟨g1,H⟩:=guard_some H
 refine RW.shift g1 ⟨rfl,rfl,rfl,rfl⟩ rfl rfl rfl rfl (pu 2 rfl (RW.done (NW.next (CW.ret ?_))))
 obtain rfl:=Option.some.inj H
 exact NW.r1 ⟨rfl,x0⟩
theorem seg_Make.calls {k:Nat} {A1:Option Addr} {c_1:Nat} {p0:List Seg} {r:Int} {w:World} (H:seg_Make.f k p0=some r) (hs1:Sl kSeg w.heap okAll A1 p0) (hl1:p0.length≤c_1):
 Calls Tryz.prog 57 #[.slice A1 p0.length c_1] w fun e w'=>e=.returned (.int .u64 r)∧Ext w w':=by
 have h1:Sl kSeg w.heap (okL [(0,some w.heap.size,none)]) A1 p0:=hs1.old _ rfl
 have x0:Ext w w:=Upd.refl _ w
 unfold seg_Make.f at H
 refine cst Tryz.func57 26 ?_
 refine CW.seq (CW.lw 1 rfl (pu 1 rfl (RW.done (NW.next (CW.seq (CW.lw 1 rfl (pu 1 rfl ?_)))))))
 refine RW.done (NW.next (CW.seq (CW.seq (CW.lw 3 rfl (pu 3 rfl (RW.done (NW.next ?_)))))))
 refine CW.block ?_
 refine CW.loop (fun n1 a w1=>∃(vb:Int) (va:Int),Sat 26 [(3,.int .u64 vb),(6,.slice A1 p0.length c_1),(7,iv (p0.length:Int)),(8,iv va)] a∧w.heap.size≤w1.heap.size∧Ext w w1∧seg_Make.l0 p0 n1 vb va=some r) k ?_ ?_
 exact fun a ha=>⟨0,0,ha.sb,by omega,x0,H⟩
 rintro n1 a w1 ⟨vb,va,hS,hle,vc,H⟩ hp
 obtain _|n1:=n1
 cases H
 rw [seg_Make.l0] at H
 refine CW.go hp hS (CW.seq (CW.lw 1 rfl (pu 1 rfl (RW.done (NW.next (CW.seq (CW.i H (fun c1 H=>?_) fun c1 H=>?_)))))))
 refine CW.skip (NW.next (CW.seq (CW.block (CW.seq (CW.lex [.W,.L,.X,.M] rfl ?_)))))
 obtain ⟨g1,H⟩:=guard_some H
 obtain ⟨ad1,e1,a1⟩:=kSeg_at (h1.ext vc) g1.1 g1.2
 refine RW.ix tk g1 e1 ?_
 refine RW.ld tk _ a1 ?_
 refine RW.al tk fun b1 w2 x1 sx1 l1 ltb1 h2=>?_
 refine RW.sf tk h2 fun w3 x2 sx2 h4=>?_
 refine RW.done (NW.next (CW.ord [0,0,2,0,8,30,62,0,128,510,1022,2047,4095] (ofL [(0,.W),(1,.W),(3,.W),(7,.W),(2,.L),(4,.L),(5,.W),(8,.L),(6,.X),(9,.X),(10,.W),(11,.W),(12,.W)] .nil) mixed (by kernel_rfl) ?_))
 intro w4 x3
 have sx3:=x3.size
 refine pu 4 rfl ?_
 have h5:=h4.ext x3
 refine RW.lb tk [iv ((rd p0 va).At)] h5 0 ?_
 refine RW.lb tk [iv ((rd p0 va).Len)] h5 1 ?_
 refine pu 1 rfl (RW.lb tk [iv ((rd p0 va).At)] h5 0 ?_)
 refine RW.cp H ent39 (fun _ h=>seg_To.calls h) fun y1 w5 x4 sx4 H=>?_
 refine RW.cp H ent39 (fun _ h=>seg_To.calls h) fun y2 w6 x5 sx5 H=>?_
 refine pu 3 rfl (RW.done ?_)
 refine NW.norm_block (NW.next ?_)
 refine CW.lw 2 rfl (pu 2 rfl (RW.done ?_))
 have h8:=((((vc.tr x1).tB x2).tr x3).tr x4).tr x5
 exact NW.J fun a ha=>⟨n1,Nat.lt_succ_self n1,(uor vb (uandn y1 y2)),(w64 (va+1)),ha.sb,by omega,h8,H⟩
 refine CW.exit ?_
 refine NW.exit_then (NW.exit_then (NW.exit_hit ?_))
 refine NW.next (CW.seq (CW.lw 2 rfl (pu 2 rfl (RW.done (NW.next (CW.ret ?_))))))
 obtain rfl:=Option.some.inj H
 exact NW.r1 ⟨rfl,vc⟩
theorem seg_May.calls {k:Nat} {A1:Option Addr} {c_1:Nat} {p0:List Seg} {r:Bool} {w:World} (H:seg_May.f k p0=some r) (hs1:Sl kSeg w.heap okAll A1 p0) (hl1:p0.length≤c_1):
 Calls Tryz.prog 155 #[.slice A1 p0.length c_1] w fun e w'=>e=.returned (.bool r)∧Ext w w':=by
 have h1:Sl kSeg w.heap (okL [(0,some w.heap.size,none)]) A1 p0:=hs1.old _ rfl
 have x0:Ext w w:=Upd.refl _ w
 unfold seg_May.f at H
 refine cst Tryz.func155 56 ?_
 refine CW.seq (CW.lw 1 rfl (pu 1 rfl (RW.done (NW.next (CW.seq (CW.seq (CW.lw 3 rfl ?_)))))))
 refine pu 3 rfl (RW.done (NW.next (CW.block ?_)))
 refine CW.loop (fun n1 a w1=>∃(va:Int),Sat 56 [(0,.slice A1 p0.length c_1),(5,.slice A1 p0.length c_1),(6,iv (p0.length:Int)),(7,iv va)] a∧w.heap.size≤w1.heap.size∧Ext w w1∧seg_May.l0 p0 n1 va=some r) k ?_ ?_
 exact fun a ha=>⟨0,ha.sb,by omega,x0,H⟩
 rintro n1 a w1 ⟨va,hS,hle,vb,H⟩ hp
 obtain _|n1:=n1
 cases H
 rw [seg_May.l0] at H
 refine CW.go hp hS (CW.seq (CW.lw 1 rfl (pu 1 rfl (RW.done (NW.next (CW.seq (CW.i H (fun c1 H=>?_) fun c1 H=>?_)))))))
 refine CW.skip (NW.next (CW.seq (CW.block (CW.seq (CW.lex [.W,.W,.L,.X,.W,.M] rfl (pu 1 rfl ?_))))))
 obtain ⟨g1,H⟩:=guard_some H
 obtain ⟨ad1,e1,a1⟩:=kSeg_at (h1.ext vb) g1.1 g1.2
 refine RW.ix tk g1 e1 ?_
 refine RW.ld tk _ a1 ?_
 refine RW.al tk fun b1 w2 x1 sx1 l1 ltb1 h2=>?_
 refine pu 1 rfl (RW.sf tk h2 fun w3 x2 sx2 h4=>?_)
 refine RW.done (NW.next ?_)
 refine CW.seqJ (fun a w4=>∃(vc:Bool),Sat 56 [(0,.slice A1 p0.length c_1),(5,.slice A1 p0.length c_1),(6,iv (p0.length:Int)),(7,iv va),(54,.bool vc)] a∧w3.heap.size≤w4.heap.size∧Ext w w4∧seg_May.j0 va (seg_May.l0 p0 n1) vc=some r) ?_ ?_
 refine CW.ord [0,1,3,7,15,31,63,127,255,511,1023,2047,4095,8191,16383,32767,16383,81919,212991,524287,1048575,2097151,4194303,8388607,16777215,33554431,67108863,33554431,33554431,301989887,973078527,2046820351,4194303999,33554431,33554431,17213423615,60163096575,128882573311,266321526783,549655150591,1099511627775,2199023255551,4398046511103] (ofL [(0,.W),(1,.L),(2,.W),(3,.W),(4,.W),(5,.L),(6,.W),(7,.W),(8,.W),(9,.W),(10,.L),(11,.W),(12,.W),(13,.W),(14,.W),(16,.W),(15,.L),(17,.L),(18,.W),(19,.W),(20,.W),(21,.W),(22,.W),(23,.W),(24,.W),(25,.W),(27,.W),(28,.W),(29,.W),(30,.W),(31,.W),(33,.W),(34,.W),(35,.W),(36,.W),(37,.W),(26,.L),(32,.L),(38,.L),(39,.W),(40,.W),(41,.W),(42,.W)] .nil) mixed (by kernel_rfl) ?_
 intro w5 x3
 have sx3:=x3.size
 refine pu 1 rfl ?_
 have h5:=h4.ext x3
 refine RW.lb tk [iv ((rd p0 va).At)] h5 0 ?_
 refine pu 2 rfl ?_
 have j1:=((vb.tr x1).tB x2).tr x3
 refine RW.i 15 H (fun c2 H=>?_) fun c2 H=>?_
 refine pu 39 rfl (RW.done ?_)
 exact NW.J fun a ha=>⟨true,ha.sb,by omega,j1,H⟩
 refine pu 1 rfl (RW.lb tk [iv ((rd p0 va).Len)] h5 1 ?_)
 refine pu 3 rfl (RW.i 20 H (fun c3 H=>?_) fun c3 H=>?_)
 refine pu 34 rfl (RW.done ?_)
 exact NW.J fun a ha=>⟨true,ha.sb,by omega,j1,H⟩
 refine pu 1 rfl (RW.lb tk [iv ((rd p0 va).At)] h5 0 ?_)
 refine pu 3 rfl (RW.i 25 H (fun c4 H=>?_) fun c4 H=>?_)
 refine pu 29 rfl (RW.done ?_)
 exact NW.J fun a ha=>⟨true,ha.sb,by omega,j1,H⟩
 refine pu 2 rfl (RW.lb tk [iv ((rd p0 va).Len)] h5 1 ?_)
 refine RW.lb tk [iv ((rd p0 va).At)] h5 0 ?_
 refine pu 4 rfl (RW.i 33 H (fun c5 H=>?_) fun c5 H=>?_)
 refine pu 21 rfl (RW.done ?_)
 exact NW.J fun a ha=>⟨true,ha.sb,by omega,j1,H⟩
 refine pu 3 rfl (RW.i 36 H (fun c6 H=>?_) fun c6 H=>?_)
 refine pu 4 rfl ?_
 obtain ⟨g2,H⟩:=guard_some H
 have h10:=(((h1.ext vb).ext x1).turnB x2 h2 ⟨.inr (by omega),trivial⟩).ext x3
 obtain ⟨ad2,e2,a2⟩:=kSeg_at h10 g2.1 g2.2
 refine RW.ix tk g2 e2 ?_
 refine pu 4 rfl ?_
 obtain ⟨g3,H⟩:=guard_some H
 obtain ⟨ad3,e3,a3⟩:=kSeg_at h10 g3.1 g3.2
 refine RW.ix tk g3 e3 ?_
 refine pu 1 rfl (RW.lb tk [iv ((rd p0 va).At)] h5 0 ?_)
 refine RW.ld tk [iv ((rd p0 (w64 (va-1))).At)] ((a2.fld 0).take 1 rfl) ?_
 refine RW.ld tk [iv ((rd p0 (w64 (va-1))).Len)] (a3.fld 1) ?_
 refine pu 4 rfl (RW.done ?_)
 exact NW.J fun a ha=>⟨(decide (((rd p0 va).At)≤(w64 (((rd p0 (w64 (va-1))).At)+((rd p0 (w64 (va-1))).Len))))),ha.sb,by omega,j1,H⟩
 refine pu 18 rfl (RW.done ?_)
 exact NW.J fun a ha=>⟨false,ha.sb,by omega,j1,H⟩
 rintro a w4 ⟨vc,hS,hle,vd,H⟩ hp
 unfold seg_May.j0 at H
 refine CW.go hp hS (CW.i H (fun c7 H=>?_) fun c7 H=>?_)
 refine CW.seq (CW.lw 1 rfl (pu 1 rfl (RW.done (NW.next (CW.ret ?_)))))
 refine NW.ret_block (NW.ret_then (NW.ret_then (NW.ret_block (NW.ret_then ?_))))
 obtain rfl:=Option.some.inj H
 exact NW.r1 ⟨rfl,vd⟩
 refine CW.skip ?_
 refine NW.norm_block (NW.next ?_)
 refine CW.lw 2 rfl (pu 2 rfl (RW.done ?_))
 exact NW.J fun a ha=>⟨n1,Nat.lt_succ_self n1,(w64 (va+1)),ha.sb,by omega,vd,H⟩
 refine CW.exit ?_
 refine NW.exit_then (NW.exit_then (NW.exit_hit ?_))
 refine NW.next (CW.seq (CW.lw 1 rfl (pu 1 rfl (RW.done (NW.next (CW.ret ?_))))))
 obtain rfl:=Option.some.inj H
 exact NW.r1 ⟨rfl,vb⟩
theorem room_ok.calls {k:Nat} {A1:Option Addr} {c_1:Nat} {p0:List Seg} {p1:Int} {r:Bool} {w:World} (H:room_ok.f k p0 p1=some r) (hs1:Sl kSeg w.heap okAll A1 p0) (hl1:p0.length≤c_1):
 Calls Tryz.prog 141 #[.slice A1 p0.length c_1,iv p1] w fun e w'=>e=.returned (.bool r)∧Ext w w':=by
 have h1:Sl kSeg w.heap (okL [(0,some w.heap.size,none)]) A1 p0:=hs1.old _ rfl
 have x0:Ext w w:=Upd.refl _ w
 unfold room_ok.f at H
 refine cst Tryz.func141 15 ?_
 refine CW.seq (CW.lw 1 rfl (pu 1 rfl (RW.done (NW.next (CW.seq (CW.lex [.W,.X,.W,.W,.X,.W,.X,.W,.W,.W,.W] rfl (pu 1 rfl ?_)))))))
 refine RW.cp H ent155 (fun _ h=>seg_May.calls h h1.all hl1) fun y1 w1 x1 sx1 H=>?_
 refine pu 1 rfl ?_
 have j1:=x0.tr x1
 refine RW.i 7 H (fun c1 H=>?_) fun c1 H=>?_
 refine pu 1 rfl ?_
 have h3:=h1.ext x1
 refine RW.cp H ent57 (fun _ h=>seg_Make.calls h h3.all hl1) fun y2 w2 x2 sx2 H=>?_
 refine pu 1 rfl (RW.cp H ent39 (fun _ h=>seg_To.calls h) fun y3 w3 x3 sx3 H=>?_)
 refine pu 4 rfl (RW.done (NW.next (CW.ret ?_)))
 obtain rfl:=Option.some.inj H
 have h6:=(j1.tr x2).tr x3
 exact NW.r1 ⟨rfl,h6⟩
 refine pu 8 rfl (RW.done (NW.next (CW.ret ?_)))
 obtain rfl:=Option.some.inj H
 exact NW.r1 ⟨rfl,j1⟩
theorem room_Device.calls {k:Nat} {p0:Device} {A1:Option Addr} {c_1:Nat} {A2:Option Addr} {c_2:Nat} {r:Bool} {w:World} (H:room_Device.f k p0=some r) (hs1:Sl kSeg w.heap okAll A1 p0.Free) (hl1:p0.Free.length≤c_1) (hs2:Sl kSeg w.heap okAll A2 p0.Late) (hl2:p0.Late.length≤c_2):
 Calls Tryz.prog 112 #[.agg #[iv p0.ID,iv p0.Size,.slice A1 p0.Free.length c_1,.slice A2 p0.Late.length c_2]] w fun e w'=>e=.returned (.bool r)∧Ext w w':=by
 have h1:Sl kSeg w.heap (okL [(0,some w.heap.size,none)]) A1 p0.Free:=hs1.old _ rfl
 have h2:Sl kSeg w.heap (okL [(0,some w.heap.size,none)]) A2 p0.Late:=hs2.old _ rfl
 have x0:Ext w w:=Upd.refl _ w
 unfold room_Device.f at H
 refine cst Tryz.func112 45 ?_
 refine CW.seq (CW.lex [.X,.W] rfl (RW.bx fun b1 w1 x1 sx1 l1 ltb1 h3=>?_))
 refine pu 1 rfl (RW.done (NW.next (CW.seq (CW.ord [0,1,3,7,15,31,63,127,255,511,1023,2047,4095,8191,16383,32767,65535,131071,262143,524287,1048575,524287,2621439,8388607,16777215,33554431,67108863,134217727,67108863,335544319,1073741823,2147483647,4294967295,8589934591,17179869183,34359738367,8589934591,77309411327,274877906943,549755813887,1099511627775,2199023255551,4398046511103] (ofL [(0,.W),(1,.L),(2,.W),(3,.W),(4,.W),(5,.L),(6,.W),(7,.W),(8,.W),(9,.W),(10,.L),(11,.W),(12,.W),(13,.W),(14,.W),(15,.L),(16,.W),(17,.W),(18,.W),(19,.W),(21,.W),(20,.L),(22,.L),(23,.X),(24,.W),(25,.W),(26,.W),(28,.W),(27,.L),(29,.L),(30,.X),(31,.W),(32,.W),(33,.W),(36,.W),(34,.L),(37,.L),(35,.X),(38,.X),(39,.W),(40,.W),(41,.W),(42,.W)] .nil) mixed (by kernel_rfl) ?_))))
 intro w2 x2
 have sx2:=x2.size
 refine pu 1 rfl ?_
 have h4:=h3.ext x2
 refine RW.lb tk [iv p0.ID] h4 0 ?_
 refine pu 2 rfl ?_
 have j1:=(x0.tr x1).tr x2
 refine RW.i 6 H (fun c1 H=>?_) fun c1 H=>?_
 refine pu 1 rfl (RW.lb tk [iv p0.ID] h4 0 ?_)
 refine pu 3 rfl (RW.i 11 H (fun c2 H=>?_) fun c2 H=>?_)
 refine pu 1 rfl (RW.lb tk [iv p0.Size] h4 1 ?_)
 refine pu 3 rfl (RW.i 16 H (fun c3 H=>?_) fun c3 H=>?_)
 refine pu 1 rfl (RW.lb tk [iv p0.Size] h4 1 ?_)
 refine pu 3 rfl (RW.i 21 H (fun c4 H=>?_) fun c4 H=>?_)
 refine pu 2 rfl (RW.lb tk [.slice A1 p0.Free.length c_1] h4 2 ?_)
 refine RW.lb tk [iv p0.Size] h4 1 ?_
 have h5:=(h1.ext x1).ext x2
 refine RW.cp H ent141 (fun _ h=>room_ok.calls h h5.all hl1) fun y1 w3 x3 sx3 H=>?_
 refine pu 2 rfl ?_
 have j2:=j1.tr x3
 refine RW.i 28 H (fun c5 H=>?_) fun c5 H=>?_
 refine pu 2 rfl ?_
 have h7:=h4.ext x3
 refine RW.lb tk [.slice A2 p0.Late.length c_2] h7 3 ?_
 refine RW.lb tk [iv p0.Size] h7 1 ?_
 have h8:=((h2.ext x1).ext x2).ext x3
 refine RW.cp H ent141 (fun _ h=>room_ok.calls h h8.all hl2) fun y2 w4 x4 sx4 H=>?_
 refine pu 2 rfl ?_
 have j3:=j2.tr x4
 refine RW.i 35 H (fun c6 H=>?_) fun c6 H=>?_
 refine pu 2 rfl ?_
 have h10:=h7.ext x4
 refine RW.lb tk [.slice A1 p0.Free.length c_1] h10 2 ?_
 refine RW.lb tk [.slice A2 p0.Late.length c_2] h10 3 ?_
 have h11:=(h5.ext x3).ext x4
 refine RW.cp H ent57 (fun _ h=>seg_Make.calls h h11.all hl1) fun y3 w5 x5 sx5 H=>?_
 have h13:=(h8.ext x4).ext x5
 refine RW.cp H ent57 (fun _ h=>seg_Make.calls h h13.all hl2) fun y4 w6 x6 sx6 H=>?_
 refine pu 4 rfl (RW.done (NW.next (CW.ret ?_)))
 obtain rfl:=Option.some.inj H
 have h15:=(j3.tr x5).tr x6
 exact NW.r1 ⟨rfl,h15⟩
 refine pu 10 rfl (RW.done (NW.next (CW.ret ?_)))
 obtain rfl:=Option.some.inj H
 exact NW.r1 ⟨rfl,j3⟩
 refine pu 17 rfl (RW.done (NW.next (CW.ret ?_)))
 obtain rfl:=Option.some.inj H
 exact NW.r1 ⟨rfl,j2⟩
 refine pu 24 rfl (RW.done (NW.next (CW.ret ?_)))
 obtain rfl:=Option.some.inj H
 exact NW.r1 ⟨rfl,j1⟩
 refine pu 29 rfl (RW.done (NW.next (CW.ret ?_)))
 obtain rfl:=Option.some.inj H
 exact NW.r1 ⟨rfl,j1⟩
 refine pu 34 rfl (RW.done (NW.next (CW.ret ?_)))
 obtain rfl:=Option.some.inj H
 exact NW.r1 ⟨rfl,j1⟩
 refine pu 39 rfl (RW.done (NW.next (CW.ret ?_)))
 obtain rfl:=Option.some.inj H
 exact NW.r1 ⟨rfl,j1⟩
theorem room_May.calls {k:Nat} {A1:Option Addr} {c_1:Nat} {p0:List Device} {r:Bool} {w:World} (H:room_May.f k p0=some r) (hs1:Sl kDeviceR w.heap okAll A1 p0) (hl1:p0.length≤c_1):
 Calls Tryz.prog 78 #[.slice A1 p0.length c_1] w fun e w'=>e=.returned (.bool r)∧Ext w w':=by
 have h1:Sl kDeviceR w.heap (okL [(0,some w.heap.size,none)]) A1 p0:=hs1.old _ rfl
 have x0:Ext w w:=Upd.refl _ w
 unfold room_May.f at H
 refine cst Tryz.func78 34 ?_
 refine CW.seq (CW.lw 1 rfl (pu 1 rfl (RW.done (NW.next (CW.seq (CW.seq (CW.lw 3 rfl ?_)))))))
 refine pu 3 rfl (RW.done (NW.next (CW.i H (fun c1 H=>?_) fun c1 H=>?_)))
 refine CW.seq (CW.lw 1 rfl (pu 1 rfl (RW.done (NW.next (CW.ret (NW.ret_then ?_))))))
 obtain rfl:=Option.some.inj H
 exact NW.r1 ⟨rfl,x0⟩
 refine CW.skip (NW.next (CW.seq (CW.seq (CW.lw 3 rfl (pu 3 rfl (RW.done (NW.next ?_)))))))
 refine CW.block ?_
 refine CW.loop (fun n1 a w1=>∃(va:Int),Sat 34 [(0,.slice A1 p0.length c_1),(8,.slice A1 p0.length c_1),(9,iv (p0.length:Int)),(10,iv va)] a∧w.heap.size≤w1.heap.size∧Ext w w1∧room_May.l0 p0 k n1 va=some r) k ?_ ?_
 exact fun a ha=>⟨0,ha.sb,by omega,x0,H⟩
 rintro n1 a w1 ⟨va,hS,hle,vb,H⟩ hp
 obtain _|n1:=n1
 cases H
 rw [room_May.l0] at H
 refine CW.go hp hS (CW.seq (CW.lw 1 rfl (pu 1 rfl (RW.done (NW.next (CW.seq (CW.i H (fun c2 H=>?_) fun c2 H=>?_)))))))
 refine CW.skip (NW.next (CW.seq (CW.block (CW.seq (CW.lex [.W,.W,.L,.X,.W,.M] rfl (pu 1 rfl ?_))))))
 obtain ⟨g1,H⟩:=guard_some H
 obtain ⟨ad1,A2,c_2,A3,c_3,e1,a1,l1,h2,l2,h3⟩:=kDeviceR_at (h1.ext vb) g1.1 g1.2
 refine RW.ix tk g1 e1 ?_
 refine RW.ld tk _ a1 ?_
 refine RW.al tk fun b1 w2 x1 sx1 l3 ltb1 h4=>?_
 refine pu 1 rfl (RW.sf tk h4 fun w3 x2 sx2 h6=>?_)
 refine RW.done (NW.next ?_)
 refine CW.seqJ (fun a w4=>∃(vc:Bool),Sat 34 [(0,.slice A1 p0.length c_1),(8,.slice A1 p0.length c_1),(9,iv (p0.length:Int)),(10,iv va),(32,.bool vc)] a∧w3.heap.size≤w4.heap.size∧Ext w w4∧room_May.j0 va (room_May.l0 p0 k n1) vc=some r) ?_ ?_
 refine CW.ord [0,1,3,7,15,31,63,127,255,127,127,1151,3711,7807,15999,32767,65535,131071] (ofL [(0,.L),(1,.X),(2,.W),(3,.W),(4,.W),(5,.W),(6,.W),(7,.W),(9,.W),(10,.W),(11,.W),(12,.W),(13,.W),(8,.L),(14,.L),(15,.W),(16,.W),(17,.W)] .nil) mixed (by kernel_rfl) ?_
 intro w5 x3
 have sx3:=x3.size
 have h7:=h6.ext x3
 refine RW.lw tk h7 ?_
 have h8:=((h2.ext x1).turnB x2 h4 ⟨.inr (by omega),trivial⟩).ext x3
 have h9:=((h3.ext x1).turnB x2 h4 ⟨.inr (by omega),trivial⟩).ext x3
 refine RW.cp H ent112 (fun _ h=>room_Device.calls h h8.all l1 h9.all l2) fun y1 w6 x4 sx4 H=>?_
 refine pu 2 rfl ?_
 have j1:=(((vb.tr x1).tB x2).tr x3).tr x4
 refine RW.n 18 H (fun c3 H=>?_) fun c3 H=>?_
 refine pu 3 rfl (RW.i 21 H (fun c4 H=>?_) fun c4 H=>?_)
 refine pu 4 rfl ?_
 obtain ⟨g2,H⟩:=guard_some H
 have h11:=((((h1.ext vb).ext x1).turnB x2 h4 ⟨.inr (by omega),trivial⟩).ext x3).ext x4
 obtain ⟨ad2,A4,c_4,A5,c_5,e2,a2,l4,h12,l5,h13⟩:=kDeviceR_at h11 g2.1 g2.2
 refine RW.ix tk g2 e2 ?_
 refine pu 1 rfl ?_
 have h14:=h7.ext x4
 refine RW.lb tk [iv ((rd p0 va).ID)] h14 0 ?_
 refine RW.ld tk [iv ((rd p0 (w64 (va-1))).ID)] ((a2.fld 0).take 1 rfl) ?_
 refine pu 3 rfl (RW.done ?_)
 exact NW.J fun a ha=>⟨(decide (((rd p0 va).ID)≤((rd p0 (w64 (va-1))).ID))),ha.sb,by omega,j1,H⟩
 refine pu 11 rfl (RW.done ?_)
 exact NW.J fun a ha=>⟨false,ha.sb,by omega,j1,H⟩
 refine pu 14 rfl (RW.done ?_)
 exact NW.J fun a ha=>⟨true,ha.sb,by omega,j1,H⟩
 rintro a w4 ⟨vc,hS,hle,vd,H⟩ hp
 unfold room_May.j0 at H
 refine CW.go hp hS (CW.i H (fun c5 H=>?_) fun c5 H=>?_)
 refine CW.seq (CW.lw 1 rfl (pu 1 rfl (RW.done (NW.next (CW.ret ?_)))))
 refine NW.ret_block (NW.ret_then (NW.ret_then (NW.ret_block (NW.ret_then ?_))))
 obtain rfl:=Option.some.inj H
 exact NW.r1 ⟨rfl,vd⟩
 refine CW.skip ?_
 refine NW.norm_block (NW.next ?_)
 refine CW.lw 2 rfl (pu 2 rfl (RW.done ?_))
 exact NW.J fun a ha=>⟨n1,Nat.lt_succ_self n1,(w64 (va+1)),ha.sb,by omega,vd,H⟩
 refine CW.exit ?_
 refine NW.exit_then (NW.exit_then (NW.exit_hit ?_))
 refine NW.next (CW.seq (CW.lw 1 rfl (pu 1 rfl (RW.done (NW.next (CW.ret ?_))))))
 obtain rfl:=Option.some.inj H
 exact NW.r1 ⟨rfl,vb⟩
theorem room_Find_1.calls {p0:Device} {A1:Option Addr} {c_1:Nat} {A2:Option Addr} {c_2:Nat} {p1:Int} {r:Int} {w:World} (H:room_Find_1.f p0 p1=some r) (hs1:Sl kSeg w.heap okAll A1 p0.Free) (hl1:p0.Free.length≤c_1) (hs2:Sl kSeg w.heap okAll A2 p0.Late) (hl2:p0.Late.length≤c_2):
 Calls Tryz.prog 56 #[.agg #[iv p0.ID,iv p0.Size,.slice A1 p0.Free.length c_1,.slice A2 p0.Late.length c_2],iv p1] w fun e w'=>e=.returned (iv r)∧Ext w w':=by
 have h1:Sl kSeg w.heap (okL [(0,some w.heap.size,none)]) A1 p0.Free:=hs1.old _ rfl
 have h2:Sl kSeg w.heap (okL [(0,some w.heap.size,none)]) A2 p0.Late:=hs2.old _ rfl
 have x0:Ext w w:=Upd.refl _ w
 unfold room_Find_1.f at H
 refine cst Tryz.func56 9 ?_
 refine CW.seq (CW.lex [.X,.W] rfl (RW.bx fun b1 w1 x1 sx1 l1 ltb1 h3=>?_))
 refine pu 1 rfl (RW.done (NW.next (CW.seq (CW.lex [.W,.L,.W,.W,.W] rfl (pu 1 rfl (RW.lb tk [iv p0.ID] h3 0 ?_))))))
 refine pu 3 rfl (RW.done (NW.next (CW.ret ?_)))
 obtain rfl:=Option.some.inj H
 have h4:=x0.tr x1
 exact NW.r1 ⟨rfl,h4⟩
theorem room_Find.calls {k:Nat} {A1:Option Addr} {c_1:Nat} {p0:List Device} {p1:Int} {r:Int×Bool} {w:World} (H:room_Find.f k p0 p1=some r) (hs1:Sl kDeviceR w.heap okAll A1 p0) (hl1:p0.length≤c_1):
 Calls Tryz.prog 31 #[.slice A1 p0.length c_1,iv p1] w fun e w'=>e=.returned (.tuple #[iv r.1,.bool r.2])∧Ext w w':=by
 have h1:Sl kDeviceR w.heap (okL [(0,some w.heap.size,none)]) A1 p0:=hs1.old _ rfl
 have x0:Ext w w:=Upd.refl _ w
 unfold room_Find.f at H
 refine cst Tryz.func31 11 ?_
 refine CW.seq (CW.lw 2 rfl (pu 2 rfl (RW.done (NW.next (CW.seq (CW.lex [.W,.W,.X,.W,.W,.W,.W] rfl (pu 2 rfl ?_)))))))
 have xc1:Ext w w:=Upd.refl _ _
 refine RW.callV (R:=fun e w1=>∃(vd:Int) (ve:Bool),e=.returned (.tuple #[iv vd,.bool ve])∧w.heap.size≤w1.heap.size∧Ext w w1∧Ext w w1∧room_Find.j0 vd ve=some r) (.inl rfl) ent55 ⟨rfl,rfl,rfl,rfl⟩ rfl rfl rfl ?_ ?_
 refine cst Tryz.func55 49 ?_
 refine CW.seq (CW.lw 2 rfl (pu 2 rfl (RW.done (NW.next (CW.seq (CW.lw 3 rfl (pu 3 rfl ?_)))))))
 refine RW.done (NW.next (CW.seq (CW.lw 3 rfl (pu 3 rfl (RW.done (NW.next (CW.seq ?_)))))))
 refine CW.block ?_
 refine CW.loop (fun n1 a w2=>∃(va:Int) (vb:Int),Sat 49 [(0,.slice A1 p0.length c_1),(1,iv p1),(2,.func (.func 56) #[] #[]),(8,iv (p0.length:Int)),(9,iv va),(10,iv vb)] a∧w.heap.size≤w2.heap.size∧Ext w w2∧Ext w w2∧room_Find.l0 p0 p1 n1 va vb=some r) k ?_ ?_
 exact fun a ha=>⟨0,(p0.length:Int),ha.sb,by omega,x0,xc1,H⟩
 rintro n1 a w2 ⟨va,vb,hS,hle,vc,vf,H⟩ hp
 obtain _|n1:=n1
 cases H
 rw [room_Find.l0] at H
 refine CW.go hp hS (CW.seq (CW.seq (CW.lw 3 rfl (pu 3 rfl (RW.done (NW.next (CW.i H (fun c1 H=>?_) fun c1 H=>?_)))))))
 refine CW.skip (NW.next (CW.block (CW.seq (CW.lw 7 rfl (pu 4 rfl (RW.shift (by omega) ⟨rfl,rfl,rfl,rfl⟩ rfl rfl rfl rfl (pu 2 rfl ?_)))))))
 refine RW.done (NW.next (CW.seq (CW.lex [.W,.W,.W,.W,.L,.W,.M,.W] rfl (pu 3 rfl ?_))))
 obtain ⟨g1,H⟩:=guard_some H
 obtain ⟨ad1,A2,c_2,A3,c_3,e1,a1,l1,h2,l2,h3⟩:=kDeviceR_at (h1.ext vc) g1.1 g1.2
 refine RW.ix tk g1 e1 ?_
 refine RW.ld tk _ a1 ?_
 refine pu 1 rfl ?_
 obtain ⟨y1,h4,H⟩:=bind_some H
 refine RW.callV (cap:=[]) (.inr rfl) ent56 ⟨rfl,rfl,rfl,rfl⟩ rfl rfl rfl (room_Find_1.calls h4 h2.all l1 h3.all l2) ?_
 rintro _ w3 ⟨rfl,x1⟩
 refine ⟨_,rfl,x1,?_⟩
 have sx1:=x1.size
 refine pu 1 rfl (RW.done (NW.next ?_))
 have j1:=vc.tr x1
 have j2:=vf.tr x1
 refine CW.i H (fun c2 H=>?_) fun c2 H=>?_
 refine CW.lw 3 rfl (pu 3 rfl (RW.done (NW.norm_block ?_)))
 exact NW.J fun a ha=>⟨n1,Nat.lt_succ_self n1,(w64 ((w64 ((wu64 (w64 (va+vb))).fdiv (2^min (1:Int).toNat 64)))+1)),vb,ha.sb,by omega,j1,j2,H⟩
 refine CW.lw 2 rfl (pu 2 rfl (RW.done (NW.norm_block ?_)))
 exact NW.J fun a ha=>⟨n1,Nat.lt_succ_self n1,va,(w64 ((wu64 (w64 (va+vb))).fdiv (2^min (1:Int).toNat 64))),ha.sb,by omega,j1,j2,H⟩
 refine CW.exit ?_
 refine NW.exit_then (NW.exit_then (NW.exit_hit ?_))
 refine NW.next (CW.seq (CW.lex [.W,.W,.W,.W,.W,.W,.W,.W,.W,.L,.W,.M,.W,.W,.W,.W] rfl (pu 5 rfl (RW.i 39 H (fun c3 H=>?_) fun c3 H=>?_))))
 refine pu 3 rfl ?_
 obtain ⟨g2,H⟩:=guard_some H
 obtain ⟨ad2,A4,c_4,A5,c_5,e2,a2,l3,h9,l4,h10⟩:=kDeviceR_at (h1.ext vc) g2.1 g2.2
 refine RW.ix tk g2 e2 ?_
 refine RW.ld tk _ a2 ?_
 refine pu 1 rfl ?_
 obtain ⟨y2,h11,H⟩:=bind_some H
 refine RW.callV (cap:=[]) (.inr rfl) ent56 ⟨rfl,rfl,rfl,rfl⟩ rfl rfl rfl (room_Find_1.calls h11 h9.all l3 h10.all l4) ?_
 rintro _ w4 ⟨rfl,x2⟩
 refine ⟨_,rfl,x2,?_⟩
 have sx2:=x2.size
 refine pu 4 rfl (RW.done (NW.next (CW.ret ?_)))
 have h12:=vc.tr x2
 have h13:=vf.tr x2
 exact NW.ret2 rfl (by rfl) (by rfl) ⟨va,(y2==0),rfl,by omega,h12,h13,H⟩
 refine pu 11 rfl (RW.done (NW.next (CW.ret ?_)))
 exact NW.ret2 rfl (by rfl) (by rfl) ⟨va,false,rfl,by omega,vc,vf,H⟩
 rintro _ w1 ⟨vd,ve,rfl,hle,vg,vh,H⟩
 refine ⟨_,rfl,vh,?_⟩
 unfold room_Find.j0 at H
 refine pu 4 rfl (RW.done (NW.next (CW.ret ?_)))
 obtain rfl:=Option.some.inj H
 exact NW.ret2 rfl (by rfl) (by rfl) ⟨rfl,vg⟩
theorem chain_device.calls {k:Nat} {p0:Pool} {A1:Option Addr} {c_1:Nat} {A2:Option Addr} {c_2:Nat} {A3:Option Addr} {c_3:Nat} {p1:Int} {r:Bool} {w:World} (H:chain_device.f k p0 p1=some r) (hs1:Sl kDeviceR w.heap okAll A1 p0.Devices) (hl1:p0.Devices.length≤c_1) (hs2:Sl kTableR w.heap okAll A2 p0.Tables) (hl2:p0.Tables.length≤c_2) (hs3:Sl kEntry w.heap okAll A3 p0.Job.Table.List_) (hl3:p0.Job.Table.List_.length≤c_3):
 Calls Tryz.prog 59 #[.agg #[.slice A1 p0.Devices.length c_1,.slice A2 p0.Tables.length c_2,iv p0.Job.Dev,iv p0.Job.At,iv p0.Job.Table.Dev,iv p0.Job.Table.Size,.slice A3 p0.Job.Table.List_.length c_3,iv p0.Next],iv p1] w fun e w'=>e=.returned (.bool r)∧Ext w w':=by
 have h1:Sl kDeviceR w.heap (okL [(0,some w.heap.size,none)]) A1 p0.Devices:=hs1.old _ rfl
 have h2:Sl kTableR w.heap (okL [(0,some w.heap.size,none)]) A2 p0.Tables:=hs2.old _ rfl
 have h3:Sl kEntry w.heap (okL [(0,some w.heap.size,none)]) A3 p0.Job.Table.List_:=hs3.old _ rfl
 have x0:Ext w w:=Upd.refl _ w
 unfold chain_device.f at H
 refine cst Tryz.func59 15 ?_
 refine CW.seq (CW.lex [.X,.W] rfl (RW.bx fun b1 w1 x1 sx1 l1 ltb1 h4=>?_))
 refine pu 1 rfl (RW.done (NW.next (CW.seq (CW.lex [.W,.L,.W,.X,.W,.W,.W,.W,.W] rfl (pu 1 rfl (RW.lb tk [.slice A1 p0.Devices.length c_1] h4 0 ?_))))))
 refine pu 1 rfl ?_
 have h5:=h1.ext x1
 refine RW.cp H ent31 (fun _ h=>room_Find.calls h h5.all hl1) fun y1 w2 x2 sx2 H=>?_
 refine pu 5 rfl (RW.done (NW.next (CW.seq (CW.lw 2 rfl (pu 2 rfl (RW.done (NW.next ?_)))))))
 refine CW.ret ?_
 obtain rfl:=Option.some.inj H
 have h7:=(x0.tr x1).tr x2
 exact NW.r1 ⟨rfl,h7⟩
theorem table_end.calls {p0:Entry} {r:Int} {w:World} (H:table_end.f p0=some r):
 Calls Tryz.prog 97 #[.agg #[iv p0.From,iv p0.Len,iv p0.Dev,iv p0.To,iv p0.Stale]] w fun e w'=>e=.returned (iv r)∧Ext w w':=by
 have x0:Ext w w:=Upd.refl _ w
 unfold table_end.f at H
 refine cst Tryz.func97 8 ?_
 refine CW.seq (CW.lex [.X,.W] rfl (RW.bx fun b1 w1 x1 sx1 l1 ltb1 h1=>?_))
 refine pu 1 rfl (RW.done (NW.next (CW.seq (CW.lex [.W,.L,.W,.L,.W,.W] rfl (pu 1 rfl (RW.lb tk [iv p0.From] h1 0 ?_))))))
 refine pu 1 rfl (RW.lb tk [iv p0.Len] h1 1 ?_)
 refine pu 2 rfl (RW.done (NW.next (CW.ret ?_)))
 obtain rfl:=Option.some.inj H
 have h2:=x0.tr x1
 exact NW.r1 ⟨rfl,h2⟩
theorem table_id.calls {p0:Int} {r:Bool} {w:World} (H:table_id.f p0=some r):
 Calls Tryz.prog 142 #[iv p0] w fun e w'=>e=.returned (.bool r)∧Ext w w':=by
 have x0:Ext w w:=Upd.refl _ w
 unfold table_id.f at H
 refine cst Tryz.func142 9 ?_
 refine CW.seq (CW.lw 1 rfl (pu 1 rfl (RW.done (NW.next (CW.seq (CW.lw 7 rfl (pu 3 rfl ?_)))))))
 refine RW.i 5 H (fun c1 H=>?_) fun c1 H=>?_
 refine pu 4 rfl (RW.done (NW.next (CW.ret ?_)))
 obtain rfl:=Option.some.inj H
 exact NW.r1 ⟨rfl,x0⟩
 refine pu 4 rfl (RW.done (NW.next (CW.ret ?_)))
 obtain rfl:=Option.some.inj H
 exact NW.r1 ⟨rfl,x0⟩
theorem table_entry.calls {p0:Table} {A1:Option Addr} {c_1:Nat} {p1:Entry} {r:Bool} {w:World} (H:table_entry.f p0 p1=some r) (hs1:Sl kEntry w.heap okAll A1 p0.List_) (hl1:p0.List_.length≤c_1):
 Calls Tryz.prog 143 #[.agg #[iv p0.Dev,iv p0.Size,.slice A1 p0.List_.length c_1],.agg #[iv p1.From,iv p1.Len,iv p1.Dev,iv p1.To,iv p1.Stale]] w fun e w'=>e=.returned (.bool r)∧Ext w w':=by
 have h1:Sl kEntry w.heap (okL [(0,some w.heap.size,none)]) A1 p0.List_:=hs1.old _ rfl
 have x0:Ext w w:=Upd.refl _ w
 unfold table_entry.f at H
 refine cst Tryz.func143 72 ?_
 refine CW.seq (CW.lex [.X,.X,.W] rfl (RW.bx fun b1 w1 x1 sx1 l1 ltb1 h2=>?_))
 refine RW.bx fun b2 w2 x2 sx2 l2 ltb2 h3=>?_
 refine pu 1 rfl (RW.done (NW.next (CW.seq (CW.lex [.W,.L,.W,.W,.W,.L,.W,.L,.W,.W,.W,.W,.L,.W,.W,.W,.W,.L,.W,.L,.W,.L,.W,.W,.W,.W,.W,.L,.X,.W,.W,.W,.L,.W,.L,.W,.W,.W,.W,.L,.W,.W,.W,.W,.L,.W,.W,.W,.W,.L,.W,.L,.W,.W,.W,.W,.W,.L,.W,.W,.W,.W,.L,.W,.L,.W,.W,.W] rfl (pu 1 rfl (RW.lb tk [iv p1.From] h3 0 ?_))))))
 refine pu 2 rfl ?_
 have j1:=(x0.tr x1).tr x2
 refine RW.i 8 H (fun c1 H=>?_) fun c1 H=>?_
 refine pu 1 rfl (RW.lb tk [iv p1.From] h3 0 ?_)
 refine pu 1 rfl ?_
 have h4:=h2.ext x2
 refine RW.lb tk [iv p0.Size] h4 1 ?_
 refine pu 3 rfl (RW.i 15 H (fun c2 H=>?_) fun c2 H=>?_)
 refine pu 1 rfl (RW.lb tk [iv p1.Len] h3 1 ?_)
 refine pu 3 rfl (RW.i 20 H (fun c3 H=>?_) fun c3 H=>?_)
 refine pu 1 rfl (RW.lb tk [iv p1.Len] h3 1 ?_)
 refine pu 1 rfl (RW.lb tk [iv p0.Size] h4 1 ?_)
 refine pu 1 rfl (RW.lb tk [iv p1.From] h3 0 ?_)
 refine pu 4 rfl (RW.i 30 H (fun c4 H=>?_) fun c4 H=>?_)
 refine pu 1 rfl (RW.lb tk [iv p1.Dev] h3 2 ?_)
 refine RW.cp H ent142 (fun _ h=>table_id.calls h) fun y1 w3 x3 sx3 H=>?_
 refine pu 2 rfl ?_
 have j2:=j1.tr x3
 refine RW.i 35 H (fun c5 H=>?_) fun c5 H=>?_
 refine pu 1 rfl ?_
 have h6:=h3.ext x3
 refine RW.lb tk [iv p1.Dev] h6 2 ?_
 refine pu 1 rfl ?_
 have h7:=h4.ext x3
 refine RW.lb tk [iv p0.Dev] h7 0 ?_
 refine pu 3 rfl (RW.n 42 H (fun c6 H=>?_) fun c6 H=>?_)
 refine pu 30 rfl (RW.done (NW.next (CW.ret ?_)))
 obtain rfl:=Option.some.inj H
 exact NW.r1 ⟨rfl,j2⟩
 refine pu 1 rfl (RW.lb tk [iv p1.To] h6 3 ?_)
 refine pu 3 rfl (RW.i 47 H (fun c7 H=>?_) fun c7 H=>?_)
 refine pu 1 rfl (RW.lb tk [iv p1.To] h6 3 ?_)
 refine pu 3 rfl (RW.i 52 H (fun c8 H=>?_) fun c8 H=>?_)
 refine pu 1 rfl (RW.lb tk [iv p1.Len] h6 1 ?_)
 refine pu 1 rfl (RW.lb tk [iv p1.To] h6 3 ?_)
 refine pu 4 rfl (RW.i 60 H (fun c9 H=>?_) fun c9 H=>?_)
 refine pu 1 rfl (RW.lb tk [iv p1.Stale] h6 4 ?_)
 refine pu 3 rfl (RW.i 65 H (fun c10 H=>?_) fun c10 H=>?_)
 refine pu 1 rfl (RW.lb tk [iv p1.Stale] h6 4 ?_)
 refine pu 1 rfl (RW.lb tk [iv p1.Len] h6 1 ?_)
 refine pu 3 rfl (RW.done (NW.next (CW.ret ?_)))
 obtain rfl:=Option.some.inj H
 exact NW.r1 ⟨rfl,j2⟩
 refine pu 7 rfl (RW.done (NW.next (CW.ret ?_)))
 obtain rfl:=Option.some.inj H
 exact NW.r1 ⟨rfl,j2⟩
 refine pu 12 rfl (RW.done (NW.next (CW.ret ?_)))
 obtain rfl:=Option.some.inj H
 exact NW.r1 ⟨rfl,j2⟩
 refine pu 20 rfl (RW.done (NW.next (CW.ret ?_)))
 obtain rfl:=Option.some.inj H
 exact NW.r1 ⟨rfl,j2⟩
 refine pu 25 rfl (RW.done (NW.next (CW.ret ?_)))
 obtain rfl:=Option.some.inj H
 exact NW.r1 ⟨rfl,j2⟩
 refine pu 37 rfl (RW.done (NW.next (CW.ret ?_)))
 obtain rfl:=Option.some.inj H
 exact NW.r1 ⟨rfl,j2⟩
 refine pu 42 rfl (RW.done (NW.next (CW.ret ?_)))
 obtain rfl:=Option.some.inj H
 exact NW.r1 ⟨rfl,j1⟩
 refine pu 52 rfl (RW.done (NW.next (CW.ret ?_)))
 obtain rfl:=Option.some.inj H
 exact NW.r1 ⟨rfl,j1⟩
 refine pu 57 rfl (RW.done (NW.next (CW.ret ?_)))
 obtain rfl:=Option.some.inj H
 exact NW.r1 ⟨rfl,j1⟩
 refine pu 64 rfl (RW.done (NW.next (CW.ret ?_)))
 obtain rfl:=Option.some.inj H
 exact NW.r1 ⟨rfl,j1⟩
theorem table_May.calls {k:Nat} {p0:Table} {A1:Option Addr} {c_1:Nat} {r:Bool} {w:World} (H:table_May.f k p0=some r) (hs1:Sl kEntry w.heap okAll A1 p0.List_) (hl1:p0.List_.length≤c_1):
 Calls Tryz.prog 113 #[.agg #[iv p0.Dev,iv p0.Size,.slice A1 p0.List_.length c_1]] w fun e w'=>e=.returned (.bool r)∧Ext w w':=by
 have h1:Sl kEntry w.heap (okL [(0,some w.heap.size,none)]) A1 p0.List_:=hs1.old _ rfl
 have x0:Ext w w:=Upd.refl _ w
 unfold table_May.f at H
 refine cst Tryz.func113 48 ?_
 refine CW.seq (CW.lex [.X,.W] rfl (RW.bx fun b1 w1 x1 sx1 l1 ltb1 h2=>?_))
 refine pu 1 rfl (RW.done (NW.next (CW.seq ?_)))
 refine CW.seqJ (fun a w2=>∃(vc:Bool),Sat 48 [(1,.pointer (some ⟨b1,0,none⟩)),(18,.bool vc)] a∧w1.heap.size≤w2.heap.size∧Ext w w2∧Box w2.heap b1 26 [iv p0.Dev,iv p0.Size,.slice A1 p0.List_.length c_1]∧table_May.j0 p0 k vc=some r) ?_ ?_
 refine CW.lex [.W,.L,.X,.W,.W,.W,.L,.W,.W,.W,.W,.L,.W,.W] rfl (pu 1 rfl (RW.lb tk [iv p0.Dev] h2 0 ?_))
 refine RW.cp H ent142 (fun _ h=>table_id.calls h) fun y1 w3 x2 sx2 H=>?_
 refine pu 2 rfl ?_
 have j1:=h2.ext x2
 have j2:=(x0.tr x1).tr x2
 refine RW.n 9 H (fun c1 H=>?_) fun c1 H=>?_
 refine pu 1 rfl (RW.lb tk [iv p0.Size] j1 1 ?_)
 refine pu 3 rfl (RW.i 14 H (fun c2 H=>?_) fun c2 H=>?_)
 refine pu 4 rfl (RW.done ?_)
 exact NW.J fun a ha=>⟨true,ha.sb,by omega,j2,j1,H⟩
 refine pu 1 rfl (RW.lb tk [iv p0.Size] j1 1 ?_)
 refine pu 2 rfl (RW.done ?_)
 exact NW.J fun a ha=>⟨(decide (64<p0.Size)),ha.sb,by omega,j2,j1,H⟩
 refine pu 9 rfl (RW.done ?_)
 exact NW.J fun a ha=>⟨true,ha.sb,by omega,j2,j1,H⟩
 rintro a w2 ⟨vc,hS,hle,ve,vf,H⟩ hp
 unfold table_May.j0 at H
 refine CW.go hp hS ?_
 have xt1:Ext w2 w2:=Upd.refl _ _
 refine CW.i H (fun c3 H=>?_) fun c3 H=>?_
 refine CW.seq (CW.lw 1 rfl (pu 1 rfl (RW.done (NW.next (CW.ret (NW.ret_then ?_))))))
 obtain rfl:=Option.some.inj H
 exact NW.r1 ⟨rfl,ve⟩
 refine CW.skip (NW.next (CW.seq (CW.seq (CW.lex [.W,.L,.W,.W] rfl (pu 1 rfl (RW.lb tk [.slice A1 p0.List_.length c_1] vf 2 ?_))))))
 refine pu 2 rfl (RW.done (NW.next (CW.block ?_)))
 refine CW.loop (fun n1 a w4=>∃(va:Int),Sat 48 [(1,.pointer (some ⟨b1,0,none⟩)),(20,.slice A1 p0.List_.length c_1),(21,iv (p0.List_.length:Int)),(22,iv va)] a∧w2.heap.size≤w4.heap.size∧Ext w w4∧Ext w2 w4∧table_May.l0 p0 n1 va=some r) k ?_ ?_
 exact fun a ha=>⟨0,ha.sb,by omega,ve,xt1,H⟩
 rintro n1 a w4 ⟨va,hS,hle,vb,vg,H⟩ hp
 obtain _|n1:=n1
 cases H
 rw [table_May.l0] at H
 refine CW.go hp hS (CW.seq (CW.lw 1 rfl (pu 1 rfl (RW.done (NW.next (CW.seq (CW.i H (fun c4 H=>?_) fun c4 H=>?_)))))))
 refine CW.skip (NW.next (CW.seq (CW.block (CW.seq (CW.lex [.W,.W,.L,.X,.W,.M] rfl (pu 1 rfl ?_))))))
 obtain ⟨g1,H⟩:=guard_some H
 obtain ⟨ad1,e1,a1⟩:=kEntry_at (h1.ext vb) g1.1 g1.2
 refine RW.ix tk g1 e1 ?_
 refine RW.ld tk _ a1 ?_
 refine RW.al tk fun b2 w5 x3 sx3 l2 ltb2 h9=>?_
 refine pu 1 rfl (RW.sf tk h9 fun w6 x4 sx4 h11=>?_)
 refine RW.done (NW.next ?_)
 refine CW.seqJ (fun a w7=>∃(vd:Bool),Sat 48 [(1,.pointer (some ⟨b1,0,none⟩)),(20,.slice A1 p0.List_.length c_1),(21,iv (p0.List_.length:Int)),(22,iv va),(46,.bool vd)] a∧w6.heap.size≤w7.heap.size∧Ext w w7∧Ext w2 w7∧table_May.j1 va (table_May.l0 p0 n1) vd=some r) ?_ ?_
 refine CW.ord [0,0,3,7,15,31,63,127,255,511,255,1279,255,4351,15615,31999,64767,131071,262143,524287] (ofL [(0,.L),(1,.L),(2,.X),(3,.W),(4,.W),(5,.W),(6,.W),(7,.W),(8,.W),(10,.W),(12,.W),(13,.W),(9,.L),(11,.L),(14,.W),(15,.L),(16,.X),(17,.W),(18,.W),(19,.W)] .nil) mixed (by kernel_rfl) ?_
 intro w8 x5
 have sx5:=x5.size
 have h12:=(((vf.ext vg).ext x3).tB x4).ext x5
 refine RW.lw tk h12 ?_
 have h13:=h11.ext x5
 refine RW.lw tk h13 ?_
 have h14:=(((h1.ext vb).ext x3).turnB x4 h9 ⟨.inr (by omega),trivial⟩).ext x5
 refine RW.cp H ent143 (fun _ h=>table_entry.calls h h14.all hl1) fun y2 w9 x6 sx6 H=>?_
 refine pu 2 rfl ?_
 have j3:=(((vb.tr x3).tB x4).tr x5).tr x6
 have j4:=(((vg.tr x3).tB x4).tr x5).tr x6
 refine RW.n 31 H (fun c5 H=>?_) fun c5 H=>?_
 refine pu 3 rfl (RW.i 34 H (fun c6 H=>?_) fun c6 H=>?_)
 refine pu 4 rfl ?_
 have h16:=h13.ext x6
 refine RW.lb tk [iv ((rd p0.List_ va).From)] h16 0 ?_
 have h17:=h12.ext x6
 refine RW.lb tk [.slice A1 p0.List_.length c_1] h17 2 ?_
 obtain ⟨g2,H⟩:=guard_some H
 have h18:=h14.ext x6
 obtain ⟨ad2,e2,a2⟩:=kEntry_at h18 g2.1 g2.2
 refine RW.ix tk g2 e2 ?_
 refine RW.ld tk _ a2 ?_
 refine RW.cp H ent97 (fun _ h=>table_end.calls h) fun y3 w10 x7 sx7 H=>?_
 refine pu 3 rfl (RW.done ?_)
 have h20:=j3.tr x7
 have h21:=j4.tr x7
 exact NW.J fun a ha=>⟨(decide (((rd p0.List_ va).From)<y3)),ha.sb,by omega,h20,h21,H⟩
 refine pu 12 rfl (RW.done ?_)
 exact NW.J fun a ha=>⟨false,ha.sb,by omega,j3,j4,H⟩
 refine pu 15 rfl (RW.done ?_)
 exact NW.J fun a ha=>⟨true,ha.sb,by omega,j3,j4,H⟩
 rintro a w7 ⟨vd,hS,hle,vh,vi,H⟩ hp
 unfold table_May.j1 at H
 refine CW.go hp hS (CW.i H (fun c7 H=>?_) fun c7 H=>?_)
 refine CW.seq (CW.lw 1 rfl (pu 1 rfl (RW.done (NW.next (CW.ret ?_)))))
 refine NW.ret_block (NW.ret_then (NW.ret_then (NW.ret_block (NW.ret_then ?_))))
 obtain rfl:=Option.some.inj H
 exact NW.r1 ⟨rfl,vh⟩
 refine CW.skip ?_
 refine NW.norm_block (NW.next ?_)
 refine CW.lw 2 rfl (pu 2 rfl (RW.done ?_))
 exact NW.J fun a ha=>⟨n1,Nat.lt_succ_self n1,(w64 (va+1)),ha.sb,by omega,vh,vi,H⟩
 refine CW.exit ?_
 refine NW.exit_then (NW.exit_then (NW.exit_hit ?_))
 refine NW.next (CW.seq (CW.lw 1 rfl (pu 1 rfl (RW.done (NW.next (CW.ret ?_))))))
 obtain rfl:=Option.some.inj H
 exact NW.r1 ⟨rfl,vb⟩
theorem chain_ids.calls {k:Nat} {p0:Pool} {A1:Option Addr} {c_1:Nat} {A2:Option Addr} {c_2:Nat} {A3:Option Addr} {c_3:Nat} {r:Bool} {w:World} (H:chain_ids.f k p0=some r) (hs1:Sl kDeviceR w.heap okAll A1 p0.Devices) (hl1:p0.Devices.length≤c_1) (hs2:Sl kTableR w.heap okAll A2 p0.Tables) (hl2:p0.Tables.length≤c_2) (hs3:Sl kEntry w.heap okAll A3 p0.Job.Table.List_) (hl3:p0.Job.Table.List_.length≤c_3):
 Calls Tryz.prog 79 #[.agg #[.slice A1 p0.Devices.length c_1,.slice A2 p0.Tables.length c_2,iv p0.Job.Dev,iv p0.Job.At,iv p0.Job.Table.Dev,iv p0.Job.Table.Size,.slice A3 p0.Job.Table.List_.length c_3,iv p0.Next]] w fun e w'=>e=.returned (.bool r)∧Ext w w':=by
 have h1:Sl kDeviceR w.heap (okL [(0,some w.heap.size,none)]) A1 p0.Devices:=hs1.old _ rfl
 have h2:Sl kTableR w.heap (okL [(0,some w.heap.size,none)]) A2 p0.Tables:=hs2.old _ rfl
 have h3:Sl kEntry w.heap (okL [(0,some w.heap.size,none)]) A3 p0.Job.Table.List_:=hs3.old _ rfl
 have x0:Ext w w:=Upd.refl _ w
 unfold chain_ids.f at H
 refine cst Tryz.func79 54 ?_
 refine CW.seq (CW.lex [.X,.W] rfl (RW.bx fun b1 w1 x1 sx1 l1 ltb1 h4=>?_))
 refine pu 1 rfl (RW.done (NW.next (CW.seq (CW.seq (CW.lex [.W,.L,.W] rfl (pu 1 rfl (RW.lb tk [iv p0.Next] h4 7 ?_)))))))
 refine pu 1 rfl (RW.done (NW.next ?_))
 have j1:=x0.tr x1
 refine CW.i H (fun c1 H=>?_) fun c1 H=>?_
 refine CW.seq (CW.lw 1 rfl (pu 1 rfl (RW.done (NW.next (CW.ret (NW.ret_then ?_))))))
 obtain rfl:=Option.some.inj H
 exact NW.r1 ⟨rfl,j1⟩
 refine CW.skip (NW.next (CW.seq (CW.seq (CW.lex [.W,.L,.W,.W] rfl (pu 1 rfl (RW.lb tk [.slice A2 p0.Tables.length c_2] h4 1 ?_))))))
 refine pu 2 rfl (RW.done (NW.next (CW.block ?_)))
 refine CW.loop (fun n1 a w2=>∃(va:Int),Sat 54 [(1,.pointer (some ⟨b1,0,none⟩)),(9,.slice A2 p0.Tables.length c_2),(10,iv (p0.Tables.length:Int)),(11,iv va)] a∧w1.heap.size≤w2.heap.size∧Ext w w2∧Box w2.heap b1 30 [.slice A1 p0.Devices.length c_1,.slice A2 p0.Tables.length c_2,iv p0.Job.Dev,iv p0.Job.At,iv p0.Job.Table.Dev,iv p0.Job.Table.Size,.slice A3 p0.Job.Table.List_.length c_3,iv p0.Next]∧chain_ids.l0 p0 k n1 va=some r) k ?_ ?_
 exact fun a ha=>⟨0,ha.sb,by omega,j1,h4,H⟩
 rintro n1 a w2 ⟨va,hS,hle,vb,vd,H⟩ hp
 obtain _|n1:=n1
 cases H
 rw [chain_ids.l0] at H
 refine CW.go hp hS ?_
 have xt1:Ext w2 w2:=Upd.refl _ _
 refine CW.seq (CW.lw 1 rfl (pu 1 rfl (RW.done (NW.next (CW.seq (CW.i H (fun c2 H=>?_) fun c2 H=>?_))))))
 refine CW.skip (NW.next (CW.seq (CW.block (CW.seq (CW.lex [.W,.W,.L,.X,.W,.M] rfl (pu 1 rfl ?_))))))
 obtain ⟨g1,H⟩:=guard_some H
 obtain ⟨ad1,A4,c_4,e1,a1,l2,h7⟩:=kTableR_at (h2.ext vb) g1.1 g1.2
 refine RW.ix tk g1 e1 ?_
 refine RW.ld tk _ a1 ?_
 refine RW.al tk fun b2 w3 x2 sx2 l3 ltb2 h8=>?_
 refine pu 1 rfl (RW.sf tk h8 fun w4 x3 sx3 h10=>?_)
 refine RW.done (NW.next ?_)
 refine CW.seqJ (fun a w5=>∃(ve:Bool),Sat 54 [(1,.pointer (some ⟨b1,0,none⟩)),(9,.slice A2 p0.Tables.length c_2),(10,iv (p0.Tables.length:Int)),(11,iv va),(47,.bool ve)] a∧w4.heap.size≤w5.heap.size∧Ext w w5∧Ext w2 w5∧chain_ids.j0 va (chain_ids.l0 p0 k n1) ve=some r) ?_ ?_
 refine CW.ord [0,1,3,7,15,15,47,127,255,511,1023,2047,1023,5119,16383,32767,65535,131071,262143,524287,1048575,2097151,1048575,5242879,1048575,17825791,63963135,131071999,265289727,536870911,1073741823,2147483647] (ofL [(0,.L),(1,.X),(2,.W),(3,.W),(5,.W),(4,.L),(6,.L),(7,.X),(8,.W),(9,.W),(10,.W),(12,.W),(11,.L),(13,.L),(14,.W),(15,.W),(16,.W),(17,.W),(18,.W),(19,.W),(20,.W),(22,.W),(24,.W),(25,.W),(21,.L),(23,.L),(26,.W),(27,.W),(28,.L),(29,.W),(30,.W),(31,.W)] .nil) mixed (by kernel_rfl) ?_
 intro w6 x4
 have sx4:=x4.size
 have h11:=h10.ext x4
 refine RW.lw tk h11 ?_
 have h12:=((h7.ext x2).turnB x3 h8 ⟨.inr (by omega),trivial⟩).ext x4
 refine RW.cp H ent113 (fun _ h=>table_May.calls h h12.all l2) fun y1 w7 x5 sx5 H=>?_
 refine pu 2 rfl ?_
 have j2:=(((vb.tr x2).tB x3).tr x4).tr x5
 have j3:=(((xt1.tr x2).tB x3).tr x4).tr x5
 refine RW.n 19 H (fun c3 H=>?_) fun c3 H=>?_
 refine pu 1 rfl ?_
 have h14:=(((vd.ext x2).tB x3).ext x4).ext x5
 refine RW.lw tk h14 ?_
 have h15:=h11.ext x5
 refine RW.lb tk [iv ((rd p0.Tables va).Dev)] h15 0 ?_
 have h16:=((((h1.ext vb).ext x2).turnB x3 h8 ⟨.inr (by omega),trivial⟩).ext x4).ext x5
 have h17:=((((h2.ext vb).ext x2).turnB x3 h8 ⟨.inr (by omega),trivial⟩).ext x4).ext x5
 have h18:=((((h3.ext vb).ext x2).turnB x3 h8 ⟨.inr (by omega),trivial⟩).ext x4).ext x5
 refine RW.cp H ent59 (fun _ h=>chain_device.calls h h16.all hl1 h17.all hl2 h18.all hl3) fun y2 w8 x6 sx6 H=>?_
 refine pu 2 rfl ?_
 have j4:=j2.tr x6
 have j5:=j3.tr x6
 refine RW.i 25 H (fun c4 H=>?_) fun c4 H=>?_
 refine pu 22 rfl (RW.done ?_)
 exact NW.J fun a ha=>⟨true,ha.sb,by omega,j4,j5,H⟩
 refine pu 2 rfl ?_
 have h22:=h15.ext x6
 refine RW.lb tk [iv ((rd p0.Tables va).Dev)] h22 0 ?_
 have h23:=h14.ext x6
 refine RW.lb tk [iv p0.Next] h23 7 ?_
 refine pu 3 rfl (RW.i 32 H (fun c5 H=>?_) fun c5 H=>?_)
 refine pu 15 rfl (RW.done ?_)
 exact NW.J fun a ha=>⟨true,ha.sb,by omega,j4,j5,H⟩
 refine pu 3 rfl (RW.i 35 H (fun c6 H=>?_) fun c6 H=>?_)
 refine pu 4 rfl (RW.lb tk [iv ((rd p0.Tables va).Dev)] h22 0 ?_)
 refine RW.lb tk [.slice A2 p0.Tables.length c_2] h23 1 ?_
 obtain ⟨g2,H⟩:=guard_some H
 have h26:=h17.ext x6
 obtain ⟨ad2,A5,c_5,e2,a2,l4,h27⟩:=kTableR_at h26 g2.1 g2.2
 refine RW.ix tk g2 e2 ?_
 refine pu 1 rfl (RW.ld tk [iv ((rd p0.Tables (w64 (va-1))).Dev)] ((a2.fld 0).take 1 rfl) ?_)
 refine pu 3 rfl (RW.done ?_)
 exact NW.J fun a ha=>⟨(decide (((rd p0.Tables va).Dev)≤((rd p0.Tables (w64 (va-1))).Dev))),ha.sb,by omega,j4,j5,H⟩
 refine pu 12 rfl (RW.done ?_)
 exact NW.J fun a ha=>⟨false,ha.sb,by omega,j4,j5,H⟩
 refine pu 28 rfl (RW.done ?_)
 exact NW.J fun a ha=>⟨true,ha.sb,by omega,j2,j3,H⟩
 rintro a w5 ⟨ve,hS,hle,vh,vl,H⟩ hp
 unfold chain_ids.j0 at H
 refine CW.go hp hS (CW.i H (fun c7 H=>?_) fun c7 H=>?_)
 refine CW.seq (CW.lw 1 rfl (pu 1 rfl (RW.done (NW.next (CW.ret ?_)))))
 refine NW.ret_block (NW.ret_then (NW.ret_then (NW.ret_block (NW.ret_then ?_))))
 obtain rfl:=Option.some.inj H
 exact NW.r1 ⟨rfl,vh⟩
 refine CW.skip ?_
 refine NW.norm_block (NW.next ?_)
 refine CW.lw 2 rfl (pu 2 rfl (RW.done ?_))
 exact NW.J fun a ha=>⟨n1,Nat.lt_succ_self n1,(w64 (va+1)),ha.sb,by omega,vh,(vd.ext vl),H⟩
 refine CW.exit ?_
 refine NW.exit_then (NW.exit_then (NW.exit_hit ?_))
 refine NW.next (CW.seq (CW.lex [.W,.L,.W,.X,.W,.W] rfl (pu 1 rfl (RW.lb tk [.slice A1 p0.Devices.length c_1] vd 0 ?_))))
 refine pu 1 rfl ?_
 have xc1:Ext w2 w2:=Upd.refl _ _
 refine RW.callK (.inl rfl) ent82 ⟨rfl,rfl,rfl,rfl⟩ rfl rfl rfl ?_
 refine cst Tryz.func82 9 ?_
 refine CW.seq (CW.lw 1 rfl (pu 1 rfl (RW.done (NW.next (CW.seq (CW.lex [.W,.W,.X,.W,.W] rfl (pu 2 rfl ?_)))))))
 have xc2:Ext w2 w2:=Upd.refl _ _
 refine RW.callV (R:=fun e w9=>∃(vf:Int),e=.returned (iv vf)∧w2.heap.size≤w9.heap.size∧Ext w w9∧Ext w2 w9∧Ext w2 w9∧chain_ids.j1 vf=some r) (.inl rfl) ent121 ⟨rfl,rfl,rfl,rfl⟩ rfl rfl rfl ?_ ?_
 refine cst Tryz.func121 19 ?_
 refine CW.seq (CW.lw 1 rfl (pu 1 rfl (RW.done (NW.next (CW.seq (CW.seq (CW.lw 3 rfl ?_)))))))
 refine pu 3 rfl (RW.done (NW.next (CW.block ?_)))
 refine CW.loop (fun n2 a w10=>∃(vc:Int),Sat 19 [(0,.slice A1 p0.Devices.length c_1),(1,.func (.func 114) #[] #[.pointer (some ⟨b1,0,none⟩)]),(7,iv (p0.Devices.length:Int)),(8,iv vc)] a∧w2.heap.size≤w10.heap.size∧Ext w w10∧Ext w2 w10∧Ext w2 w10∧Ext w2 w10∧chain_ids.l1 p0 n2 vc=some r) k ?_ ?_
 exact fun a ha=>⟨0,ha.sb,by omega,vb,xt1,xc1,xc2,H⟩
 rintro n2 a w10 ⟨vc,hS,hle,vg,vi,vj,vk,H⟩ hp
 obtain _|n2:=n2
 cases H
 rw [chain_ids.l1] at H
 refine CW.go hp hS (CW.seq (CW.lw 1 rfl (pu 1 rfl (RW.done (NW.next (CW.seq (CW.i H (fun c8 H=>?_) fun c8 H=>?_)))))))
 refine CW.skip (NW.next (CW.seq (CW.block (CW.seq (CW.lw 2 rfl (pu 2 rfl (RW.done ?_)))))))
 refine NW.next (CW.seq (CW.lex [.W,.W,.W,.W,.L,.M] rfl (pu 3 rfl ?_)))
 obtain ⟨g3,H⟩:=guard_some H
 obtain ⟨ad3,A6,c_6,A7,c_7,e3,a3,l5,h34,l6,h35⟩:=kDeviceR_at (h1.ext vg) g3.1 g3.2
 refine RW.ix tk g3 e3 ?_
 refine RW.ld tk _ a3 ?_
 refine RW.callKM ent114 ⟨rfl,rfl,rfl,rfl⟩ rfl rfl rfl ?_
 refine cst Tryz.func114 9 ?_
 refine CW.seq (CW.lex [.X,.W] rfl (RW.bx fun b3 w11 x7 sx7 l7 ltb3 h36=>?_))
 refine pu 1 rfl (RW.done (NW.next (CW.seq (CW.lex [.W,.L,.W,.L,.W,.W] rfl (pu 1 rfl (RW.lb tk [iv ((rd p0.Devices vc).ID)] h36 0 ?_))))))
 refine pu 1 rfl ?_
 have h37:=(vd.ext vi).ext x7
 refine RW.lb tk [iv p0.Next] h37 7 ?_
 refine pu 2 rfl (RW.done (NW.next (CW.ret ?_)))
 refine NW.ret1 rfl (by rfl) ⟨_,rfl,?_⟩
 refine RW.done (NW.next ?_)
 have j6:=vg.tr x7
 have j7:=vj.tr x7
 have j8:=vk.tr x7
 refine CW.i H (fun c9 H=>?_) fun c9 H=>?_
 refine CW.seq (CW.lw 2 rfl (pu 2 rfl (RW.done (NW.next (CW.ret ?_)))))
 refine NW.ret_block (NW.ret_then (NW.ret_then (NW.ret_block (NW.ret_then ?_))))
 exact NW.r1 ⟨vc,rfl,by omega,j6,j7,j8,H⟩
 refine CW.skip ?_
 refine NW.norm_block (NW.next ?_)
 refine CW.lw 2 rfl (pu 2 rfl (RW.done ?_))
 have h42:=vi.tr x7
 exact NW.J fun a ha=>⟨n2,Nat.lt_succ_self n2,(w64 (vc+1)),ha.sb,by omega,j6,h42,j7,j8,H⟩
 refine CW.exit ?_
 refine NW.exit_then (NW.exit_then (NW.exit_hit ?_))
 refine NW.next (CW.seq (CW.lw 1 rfl (pu 1 rfl (RW.done (NW.next (CW.ret ?_))))))
 exact NW.r1 ⟨(-1),rfl,by omega,vg,vj,vk,H⟩
 rintro _ w9 ⟨vf,rfl,hle,vm,vn,vo,H⟩
 refine ⟨_,rfl,vo,?_⟩
 unfold chain_ids.j1 at H
 refine pu 2 rfl (RW.done (NW.next (CW.ret ?_)))
 refine NW.ret1 rfl (by rfl) ⟨_,rfl,vn,?_⟩
 refine pu 2 rfl (RW.done (NW.next (CW.ret ?_)))
 obtain rfl:=Option.some.inj H
 exact NW.r1 ⟨rfl,vm⟩
theorem chain_tables.calls {k:Nat} {p0:Pool} {A1:Option Addr} {c_1:Nat} {A2:Option Addr} {c_2:Nat} {A3:Option Addr} {c_3:Nat} {r:Bool} {w:World} (H:chain_tables.f k p0=some r) (hs1:Sl kDeviceR w.heap okAll A1 p0.Devices) (hl1:p0.Devices.length≤c_1) (hs2:Sl kTableR w.heap okAll A2 p0.Tables) (hl2:p0.Tables.length≤c_2) (hs3:Sl kEntry w.heap okAll A3 p0.Job.Table.List_) (hl3:p0.Job.Table.List_.length≤c_3):
 Calls Tryz.prog 80 #[.agg #[.slice A1 p0.Devices.length c_1,.slice A2 p0.Tables.length c_2,iv p0.Job.Dev,iv p0.Job.At,iv p0.Job.Table.Dev,iv p0.Job.Table.Size,.slice A3 p0.Job.Table.List_.length c_3,iv p0.Next]] w fun e w'=>e=.returned (.bool r)∧Ext w w':=by
 have h1:Sl kDeviceR w.heap (okL [(0,some w.heap.size,none)]) A1 p0.Devices:=hs1.old _ rfl
 have h2:Sl kTableR w.heap (okL [(0,some w.heap.size,none)]) A2 p0.Tables:=hs2.old _ rfl
 have h3:Sl kEntry w.heap (okL [(0,some w.heap.size,none)]) A3 p0.Job.Table.List_:=hs3.old _ rfl
 have x0:Ext w w:=Upd.refl _ w
 unfold chain_tables.f at H
 refine cst Tryz.func80 42 ?_
 refine CW.seq (CW.lex [.X,.W] rfl (RW.bx fun b1 w1 x1 sx1 l1 ltb1 h4=>?_))
 refine pu 1 rfl (RW.done (NW.next (CW.seq (CW.lex [.X,.X,.M] rfl (RW.makeMap Value.bool (.inl rfl) ⟨rfl,rfl,rfl,rfl⟩ rfl ?_)))))
 intro b2 w2 x2 l2 h5
 have sx2:=x2.size
 have ltb2:=h5.lt
 refine RW.al tk fun b3 w3 x3 sx3 l3 ltb3 h6=>?_
 refine RW.sf tk h6 fun w4 x4 sx4 h8=>?_
 refine RW.done (NW.next (CW.seq (CW.seq (CW.lex [.W,.L,.W,.W] rfl (pu 1 rfl ?_)))))
 have h9:=((h4.ext x2).ext x3).tB x4
 refine RW.lb tk [.slice A2 p0.Tables.length c_2] h9 1 ?_
 refine pu 2 rfl (RW.done (NW.next (CW.block ?_)))
 refine CW.loop (fun n1 a w5=>∃(vc:Int) (ve:List (Int×Bool)),Sat 42 [(1,.pointer (some ⟨b1,0,none⟩)),(3,.pointer (some ⟨b3,0,none⟩)),(10,iv (p0.Tables.length:Int)),(11,iv vc)] a∧w4.heap.size≤w5.heap.size∧Ext w w5∧Box w5.heap b1 30 [.slice A1 p0.Devices.length c_1,.slice A2 p0.Tables.length c_2,iv p0.Job.Dev,iv p0.Job.At,iv p0.Job.Table.Dev,iv p0.Job.Table.Size,.slice A3 p0.Job.Table.List_.length c_3,iv p0.Next]∧Box w5.heap b3 155 [.map (some b2)]∧MapB w5.heap b2 Value.bool ve∧chain_tables.l0 p0 k n1 vc ve=some r) k ?_ ?_
 have h10:=(((x0.tr x1).tr x2).tr x3).tB x4
 have h11:=(h5.ext x3).tB x4
 exact fun a ha=>⟨0,([]:List (Int×Bool)),ha.sb,by omega,h10,h9,h8,h11,H⟩
 rintro n1 a w5 ⟨vc,ve,hS,hle,vr,vm,vs,vt,H⟩ hp
 obtain _|n1:=n1
 cases H
 rw [chain_tables.l0] at H
 refine CW.go hp hS ?_
 have xt1:Ext w5 w5:=Upd.refl _ _
 refine CW.seq (CW.lw 1 rfl (pu 1 rfl (RW.done (NW.next (CW.seq (CW.i H (fun c1 H=>?_) fun c1 H=>?_))))))
 refine CW.skip (NW.next (CW.seq (CW.block (CW.seq (CW.lex [.W,.L,.W,.W] rfl (pu 1 rfl (RW.lb tk [.slice A2 p0.Tables.length c_2] vm 1 ?_)))))))
 refine pu 2 rfl (RW.done (NW.next (CW.block ?_)))
 refine CW.loop (fun n2 a w6=>∃(va:Int) (vb:List (Int×Bool)),Sat 42 [(1,.pointer (some ⟨b1,0,none⟩)),(3,.pointer (some ⟨b3,0,none⟩)),(10,iv (p0.Tables.length:Int)),(11,iv vc),(14,.slice A2 p0.Tables.length c_2),(15,iv (p0.Tables.length:Int)),(16,iv va)] a∧w5.heap.size≤w6.heap.size∧Ext w w6∧Box w6.heap b1 30 [.slice A1 p0.Devices.length c_1,.slice A2 p0.Tables.length c_2,iv p0.Job.Dev,iv p0.Job.At,iv p0.Job.Table.Dev,iv p0.Job.Table.Size,.slice A3 p0.Job.Table.List_.length c_3,iv p0.Next]∧Box w6.heap b3 155 [.map (some b2)]∧MapB w6.heap b2 Value.bool vb∧chain_tables.l1 p0 k vc (chain_tables.l0 p0 k n1) n2 va vb=some r) k ?_ ?_
 exact fun a ha=>⟨0,ve,ha.sb,by omega,vr,vm,vs,vt,H⟩
 rintro n2 a w6 ⟨va,vb,hS,hle,vn,vi,vj,vu,H⟩ hp
 obtain _|n2:=n2
 cases H
 rw [chain_tables.l1] at H
 refine CW.go hp hS ?_
 have xt2:Ext w6 w6:=Upd.refl _ _
 refine CW.seq (CW.lw 1 rfl (pu 1 rfl (RW.done (NW.next (CW.seq (CW.i H (fun c2 H=>?_) fun c2 H=>?_))))))
 refine CW.skip (NW.next ?_)
 refine CW.seqJ (fun a w7=>∃(vk:List (Int×Bool)),Sat 42 [(1,.pointer (some ⟨b1,0,none⟩)),(3,.pointer (some ⟨b3,0,none⟩)),(10,iv (p0.Tables.length:Int)),(11,iv vc),(14,.slice A2 p0.Tables.length c_2),(15,iv (p0.Tables.length:Int)),(16,iv va)] a∧w6.heap.size≤w7.heap.size∧Ext w w7∧Box w7.heap b1 30 [.slice A1 p0.Devices.length c_1,.slice A2 p0.Tables.length c_2,iv p0.Job.Dev,iv p0.Job.At,iv p0.Job.Table.Dev,iv p0.Job.Table.Size,.slice A3 p0.Job.Table.List_.length c_3,iv p0.Next]∧Box w7.heap b3 155 [.map (some b2)]∧MapB w7.heap b2 Value.bool vk∧chain_tables.j0 va (chain_tables.l1 p0 k vc (chain_tables.l0 p0 k n1) n2) vk=some r) ?_ ?_
 refine CW.block (CW.seq (CW.lex [.W,.L,.X,.M] rfl ?_))
 obtain ⟨g1,H⟩:=guard_some H
 obtain ⟨ad1,A4,c_4,e1,a1,l4,h12⟩:=kTableR_at (h2.ext vn) g1.1 g1.2
 refine RW.ix tk g1 e1 ?_
 refine RW.ld tk _ a1 ?_
 refine RW.al tk fun b4 w8 x5 sx5 l5 ltb4 h13=>?_
 refine RW.sf tk h13 fun w9 x6 sx6 h15=>?_
 refine RW.done (NW.next (CW.seq (CW.lw 2 rfl (pu 2 rfl (RW.done (NW.next (CW.ord [0,0,2,0,0,16,56,120,248,504,248,2040,4088,8184,16383] (ofL [(1,.W),(4,.W),(0,.L),(2,.L),(3,.L),(5,.L),(6,.L),(7,.W),(8,.W),(10,.W),(9,.L),(11,.X),(12,.W),(13,.W),(14,.M)] .nil) mixed (by kernel_rfl) ?_)))))))
 intro w10 x7
 have sx7:=x7.size
 refine pu 2 rfl ?_
 have h16:=((vj.ext x5).tB x6).ext x7
 refine RW.lw tk h16 ?_
 have h17:=h15.ext x7
 refine RW.lb tk [iv ((rd p0.Tables va).Dev)] h17 0 ?_
 refine RW.lw tk h16 ?_
 refine RW.lb tk [iv ((rd p0.Tables va).Dev)] h17 0 ?_
 have h18:=((vu.ext x5).tB x6).ext x7
 refine RW.lookup1 (z0:=false) tk Tryz.underlying155 Tryz.underlying3 rfl rfl h18 ⟨rfl,rfl,rfl,rfl⟩ rfl rfl rfl (pu 1 rfl ?_)
 have j1:=((vn.tr x5).tB x6).tr x7
 refine RW.i 28 H (fun c3 H=>?_) fun c3 H=>?_
 refine pu 6 rfl (RW.mapUpdate (v:=true) Tryz.underlying155 Tryz.underlying3 h18 ⟨rfl,rfl,rfl⟩ rfl rfl rfl rfl ?_)
 intro w11 x8 h19
 have sx8:=x8.size
 refine RW.done (NW.norm_block ?_)
 have h20:=j1.tB x8
 have h21:=(((vi.ext x5).tB x6).ext x7).tB x8
 have h22:=h16.tB x8
 exact NW.J fun a ha=>⟨(mset vb ((rd p0.Tables va).Dev) true),ha.sb,by omega,h20,h21,h22,h19,H⟩
 refine pu 2 rfl (RW.lb tk [.slice A4 ((rd p0.Tables va).List_).length c_4] h17 2 ?_)
 have xc1:Ext w10 w10:=Upd.refl _ _
 refine RW.callK (.inl rfl) ent116 ⟨rfl,rfl,rfl,rfl⟩ rfl rfl rfl ?_
 refine cst Tryz.func116 9 ?_
 refine CW.seq (CW.lw 1 rfl (pu 1 rfl (RW.done (NW.next (CW.seq (CW.lex [.W,.W,.X,.W,.W] rfl (pu 2 rfl ?_)))))))
 have xc2:Ext w10 w10:=Upd.refl _ _
 refine RW.callV (R:=fun e w12=>∃(vg:Int),e=.returned (iv vg)∧w10.heap.size≤w12.heap.size∧Ext w w12∧Ext w6 w12∧Ext w10 w12∧Ext w10 w12∧MapB w12.heap b2 Value.bool vb∧chain_tables.j1 p0 va vb (chain_tables.l1 p0 k vc (chain_tables.l0 p0 k n1) n2) vg=some r) (.inl rfl) ent144 ⟨rfl,rfl,rfl,rfl⟩ rfl rfl rfl ?_ ?_
 refine cst Tryz.func144 19 ?_
 refine CW.seq (CW.lw 1 rfl (pu 1 rfl (RW.done (NW.next (CW.seq (CW.seq (CW.lw 3 rfl ?_)))))))
 refine pu 3 rfl (RW.done (NW.next (CW.block ?_)))
 refine CW.loop (fun n3 a w13=>∃(vd:Int),Sat 19 [(0,.slice A4 ((rd p0.Tables va).List_).length c_4),(1,.func (.func 115) #[] #[.pointer (some ⟨b3,0,none⟩),.pointer (some ⟨b1,0,none⟩)]),(7,iv (((rd p0.Tables va).List_).length:Int)),(8,iv vd)] a∧w10.heap.size≤w13.heap.size∧Sl kEntry w13.heap (okL [(0,some w.heap.size,none)]) A4 ((rd p0.Tables va).List_)∧Ext w w13∧Ext w6 w13∧Ext w10 w13∧Ext w10 w13∧MapB w13.heap b2 Value.bool vb∧chain_tables.l2 p0 k va vb (chain_tables.l1 p0 k vc (chain_tables.l0 p0 k n1) n2) n3 vd=some r) k ?_ ?_
 have h23:=((h12.ext x5).turnB x6 h13 ⟨.inr (by omega),trivial⟩).ext x7
 have h25:=((xt2.tr x5).tB x6).tr x7
 exact fun a ha=>⟨0,ha.sb,by omega,h23,j1,h25,xc1,xc2,h18,H⟩
 rintro n3 a w13 ⟨vd,hS,hle,vv,vh,vl,vw,vx,vy,H⟩ hp
 obtain _|n3:=n3
 cases H
 rw [chain_tables.l2] at H
 refine CW.go hp hS ?_
 have xt3:Ext w13 w13:=Upd.refl _ _
 refine CW.seq (CW.lw 1 rfl (pu 1 rfl (RW.done (NW.next (CW.seq (CW.i H (fun c4 H=>?_) fun c4 H=>?_))))))
 refine CW.skip (NW.next (CW.seq (CW.block (CW.seq (CW.lw 2 rfl (pu 2 rfl (RW.done ?_)))))))
 refine NW.next (CW.seq (CW.lex [.W,.W,.W,.W,.L,.M] rfl (pu 3 rfl ?_)))
 obtain ⟨g2,H⟩:=guard_some H
 obtain ⟨ad2,e2,a2⟩:=kEntry_at vv g2.1 g2.2
 refine RW.ix tk g2 e2 ?_
 refine RW.ld tk _ a2 ?_
 refine RW.callFM (R:=fun e w14=>∃(vo:Bool),e=.returned (.bool vo)∧w13.heap.size≤w14.heap.size∧Ext w w14∧Ext w6 w14∧Ext w10 w14∧Ext w10 w14∧Ext w13 w14∧MapB w14.heap b2 Value.bool vb∧chain_tables.j2 p0 va vb vd (chain_tables.l1 p0 k vc (chain_tables.l0 p0 k n1) n2) (chain_tables.l2 p0 k va vb (chain_tables.l1 p0 k vc (chain_tables.l0 p0 k n1) n2) n3) vo=some r) ent115 ⟨rfl,rfl,rfl,rfl⟩ rfl rfl rfl ?_ ?_
 refine cst Tryz.func115 17 ?_
 refine CW.seq (CW.lex [.X,.W] rfl (RW.bx fun b5 w15 x9 sx9 l6 ltb5 h26=>?_))
 refine pu 1 rfl (RW.done (NW.next (CW.seq (CW.lex [.L,.W,.L,.L,.W,.W,.L,.W,.L,.X,.W,.W,.W] rfl ?_))))
 have h27:=(vj.ext vl).ext x9
 refine RW.lw tk h27 ?_
 refine pu 1 rfl (RW.lb tk [iv ((rd ((rd p0.Tables va).List_) vd).Dev)] h26 2 ?_)
 have h28:=vy.ext x9
 refine RW.lookup1 (z0:=false) tk Tryz.underlying155 Tryz.underlying3 rfl rfl h28 ⟨rfl,rfl,rfl,rfl⟩ rfl rfl rfl (pu 2 rfl ?_)
 have j2:=vh.tr x9
 have j3:=vl.tr x9
 have j4:=vw.tr x9
 have j5:=vx.tr x9
 have j6:=xt3.tr x9
 refine RW.n 10 H (fun c5 H=>?_) fun c5 H=>?_
 refine pu 7 rfl (RW.done (NW.next (CW.ret ?_)))
 exact NW.r1 ⟨false,rfl,by omega,j2,j3,j4,j5,j6,h28,H⟩
 have h34:=(vi.ext vl).ext x9
 refine RW.lw tk h34 ?_
 refine pu 1 rfl (RW.lb tk [iv ((rd ((rd p0.Tables va).List_) vd).Dev)] h26 2 ?_)
 have h35:=(h1.ext vh).ext x9
 have h36:=(h2.ext vh).ext x9
 have h37:=(h3.ext vh).ext x9
 refine RW.cp H ent59 (fun _ h=>chain_device.calls h h35.all hl1 h36.all hl2 h37.all hl3) fun y1 w16 x10 sx10 H=>?_
 refine pu 3 rfl (RW.done (NW.next (CW.ret ?_)))
 have h39:=j2.tr x10
 have h40:=j3.tr x10
 have h41:=j4.tr x10
 have h42:=j5.tr x10
 have h43:=j6.tr x10
 have h44:=h28.ext x10
 exact NW.r1 ⟨(!y1),rfl,by omega,h39,h40,h41,h42,h43,h44,H⟩
 rintro _ w14 ⟨vo,rfl,hle,vz,vA,vB,vC,vI,vD,H⟩
 refine ⟨_,rfl,?_⟩
 unfold chain_tables.j2 at H
 refine RW.done (NW.next (CW.i H (fun c6 H=>?_) fun c6 H=>?_))
 refine CW.seq (CW.lw 2 rfl (pu 2 rfl (RW.done (NW.next (CW.ret ?_)))))
 refine NW.ret_block (NW.ret_then (NW.ret_then (NW.ret_block (NW.ret_then ?_))))
 exact NW.r1 ⟨vd,rfl,by omega,vz,vA,vB,vC,vD,H⟩
 refine CW.skip ?_
 refine NW.norm_block (NW.next ?_)
 refine CW.lw 2 rfl (pu 2 rfl (RW.done ?_))
 exact NW.J fun a ha=>⟨n3,Nat.lt_succ_self n3,(w64 (vd+1)),ha.sb,by omega,(vv.ext vI),vz,vA,vB,vC,vD,H⟩
 refine CW.exit ?_
 refine NW.exit_then (NW.exit_then (NW.exit_hit ?_))
 refine NW.next (CW.seq (CW.lw 1 rfl (pu 1 rfl (RW.done (NW.next (CW.ret ?_))))))
 exact NW.r1 ⟨(-1),rfl,by omega,vh,vl,vw,vx,vy,H⟩
 rintro _ w12 ⟨vg,rfl,hle,vJ,vE,vK,vL,vM,H⟩
 refine ⟨_,rfl,vL,?_⟩
 unfold chain_tables.j1 at H
 refine pu 2 rfl (RW.done (NW.next (CW.ret ?_)))
 refine NW.ret1 rfl (by rfl) ⟨_,rfl,vK,?_⟩
 refine pu 2 rfl (RW.mapUpdate (v:=(!(decide (0≤vg)))) Tryz.underlying155 Tryz.underlying3 vM ⟨rfl,rfl,rfl⟩ rfl rfl rfl rfl ?_)
 intro w17 x11 h45
 have sx11:=x11.size
 refine RW.done (NW.norm_block ?_)
 have h46:=vJ.tB x11
 have h47:=(vi.ext vE).tB x11
 have h48:=(vj.ext vE).tB x11
 exact NW.J fun a ha=>⟨(mset vb ((rd p0.Tables va).Dev) (!(decide (0≤vg)))),ha.sb,by omega,h46,h47,h48,h45,H⟩
 rintro a w7 ⟨vk,hS,hle,vN,vO,vP,vQ,H⟩ hp
 unfold chain_tables.j0 at H
 refine CW.go hp hS ?_
 have xt4:Ext w7 w7:=Upd.refl _ _
 refine CW.lw 2 rfl (pu 2 rfl (RW.done ?_))
 exact NW.J fun a ha=>⟨n2,Nat.lt_succ_self n2,(w64 (va+1)),vk,ha.sb,by omega,vN,vO,vP,vQ,H⟩
 refine CW.exit ?_
 refine NW.exit_then (NW.exit_then (NW.exit_hit ?_))
 refine NW.norm_block (NW.next ?_)
 refine CW.lw 2 rfl (pu 2 rfl (RW.done ?_))
 exact NW.J fun a ha=>⟨n1,Nat.lt_succ_self n1,(w64 (vc+1)),vb,ha.sb,by omega,vn,vi,vj,vu,H⟩
 refine CW.exit ?_
 refine NW.exit_then (NW.exit_then (NW.exit_hit ?_))
 refine NW.next (CW.seq (CW.lex [.W,.L,.W,.X,.W,.W] rfl (pu 1 rfl (RW.lb tk [.slice A2 p0.Tables.length c_2] vm 1 ?_))))
 refine pu 1 rfl ?_
 have xc3:Ext w5 w5:=Upd.refl _ _
 refine RW.callK (.inl rfl) ent117 ⟨rfl,rfl,rfl,rfl⟩ rfl rfl rfl ?_
 refine cst Tryz.func117 9 ?_
 refine CW.seq (CW.lw 1 rfl (pu 1 rfl (RW.done (NW.next (CW.seq (CW.lex [.W,.W,.X,.W,.W] rfl (pu 2 rfl ?_)))))))
 have xc4:Ext w5 w5:=Upd.refl _ _
 refine RW.callV (R:=fun e w18=>∃(vp:Int),e=.returned (iv vp)∧w5.heap.size≤w18.heap.size∧Ext w w18∧Ext w5 w18∧Ext w5 w18∧chain_tables.j3 vp=some r) (.inl rfl) ent145 ⟨rfl,rfl,rfl,rfl⟩ rfl rfl rfl ?_ ?_
 refine cst Tryz.func145 19 ?_
 refine CW.seq (CW.lw 1 rfl (pu 1 rfl (RW.done (NW.next (CW.seq (CW.seq (CW.lw 3 rfl ?_)))))))
 refine pu 3 rfl (RW.done (NW.next (CW.block ?_)))
 refine CW.loop (fun n4 a w19=>∃(vf:Int),Sat 19 [(0,.slice A2 p0.Tables.length c_2),(1,.func (.func 118) #[] #[.pointer (some ⟨b3,0,none⟩)]),(7,iv (p0.Tables.length:Int)),(8,iv vf)] a∧w5.heap.size≤w19.heap.size∧Ext w w19∧Ext w5 w19∧Ext w5 w19∧Ext w5 w19∧MapB w19.heap b2 Value.bool ve∧chain_tables.l3 p0 ve n4 vf=some r) k ?_ ?_
 exact fun a ha=>⟨0,ha.sb,by omega,vr,xt1,xc3,xc4,vt,H⟩
 rintro n4 a w19 ⟨vf,hS,hle,vq,vF,vG,vH,vR,H⟩ hp
 obtain _|n4:=n4
 cases H
 rw [chain_tables.l3] at H
 refine CW.go hp hS (CW.seq (CW.lw 1 rfl (pu 1 rfl (RW.done (NW.next (CW.seq (CW.i H (fun c7 H=>?_) fun c7 H=>?_)))))))
 refine CW.skip (NW.next (CW.seq (CW.block (CW.seq (CW.lw 2 rfl (pu 2 rfl (RW.done ?_)))))))
 refine NW.next (CW.seq (CW.lex [.W,.W,.W,.W,.L,.M] rfl (pu 3 rfl ?_)))
 obtain ⟨g3,H⟩:=guard_some H
 obtain ⟨ad3,A5,c_5,e3,a3,l7,h49⟩:=kTableR_at (h2.ext vq) g3.1 g3.2
 refine RW.ix tk g3 e3 ?_
 refine RW.ld tk _ a3 ?_
 refine RW.callKM ent118 ⟨rfl,rfl,rfl,rfl⟩ rfl rfl rfl ?_
 refine cst Tryz.func118 9 ?_
 refine CW.seq (CW.lex [.X,.W] rfl (RW.bx fun b6 w20 x12 sx12 l8 ltb6 h50=>?_))
 refine pu 1 rfl (RW.done (NW.next (CW.seq (CW.lex [.L,.W,.L,.L,.W,.W] rfl ?_))))
 have h51:=(vs.ext vF).ext x12
 refine RW.lw tk h51 ?_
 refine pu 1 rfl (RW.lb tk [iv ((rd p0.Tables vf).Dev)] h50 0 ?_)
 have h52:=vR.ext x12
 refine RW.lookup1 (z0:=false) tk Tryz.underlying155 Tryz.underlying3 rfl rfl h52 ⟨rfl,rfl,rfl,rfl⟩ rfl rfl rfl (pu 2 rfl (RW.done (NW.next (CW.ret ?_))))
 refine NW.ret1 rfl (by rfl) ⟨_,rfl,?_⟩
 refine RW.done (NW.next ?_)
 have j7:=vq.tr x12
 have j8:=vG.tr x12
 have j9:=vH.tr x12
 refine CW.n H (fun c8 H=>?_) fun c8 H=>?_
 refine CW.skip ?_
 refine NW.norm_block (NW.next ?_)
 refine CW.lw 2 rfl (pu 2 rfl (RW.done ?_))
 have h54:=vF.tr x12
 exact NW.J fun a ha=>⟨n4,Nat.lt_succ_self n4,(w64 (vf+1)),ha.sb,by omega,j7,h54,j8,j9,h52,H⟩
 refine CW.seq (CW.lw 2 rfl (pu 2 rfl (RW.done (NW.next (CW.ret ?_)))))
 refine NW.ret_block (NW.ret_then (NW.ret_then (NW.ret_block (NW.ret_then ?_))))
 exact NW.r1 ⟨vf,rfl,by omega,j7,j8,j9,H⟩
 refine CW.exit ?_
 refine NW.exit_then (NW.exit_then (NW.exit_hit ?_))
 refine NW.next (CW.seq (CW.lw 1 rfl (pu 1 rfl (RW.done (NW.next (CW.ret ?_))))))
 exact NW.r1 ⟨(-1),rfl,by omega,vq,vG,vH,H⟩
 rintro _ w18 ⟨vp,rfl,hle,vS,vT,vU,H⟩
 refine ⟨_,rfl,vU,?_⟩
 unfold chain_tables.j3 at H
 refine pu 2 rfl (RW.done (NW.next (CW.ret ?_)))
 refine NW.ret1 rfl (by rfl) ⟨_,rfl,vT,?_⟩
 refine pu 2 rfl (RW.done (NW.next (CW.ret ?_)))
 obtain rfl:=Option.some.inj H
 exact NW.r1 ⟨rfl,vS⟩
theorem chain_none.calls {p0:Job} {A1:Option Addr} {c_1:Nat} {r:Bool} {w:World} (H:chain_none.f p0=some r) (hs1:Sl kEntry w.heap okAll A1 p0.Table.List_) (hl1:p0.Table.List_.length≤c_1):
 Calls Tryz.prog 119 #[.agg #[iv p0.Dev,iv p0.At,iv p0.Table.Dev,iv p0.Table.Size,.slice A1 p0.Table.List_.length c_1]] w fun e w'=>e=.returned (.bool r)∧Ext w w':=by
 have h1:Sl kEntry w.heap (okL [(0,some w.heap.size,none)]) A1 p0.Table.List_:=hs1.old _ rfl
 have x0:Ext w w:=Upd.refl _ w
 unfold chain_none.f at H
 refine cst Tryz.func119 30 ?_
 refine CW.seq (CW.lex [.X,.W] rfl (RW.bx fun b1 w1 x1 sx1 l1 ltb1 h2=>?_))
 refine pu 1 rfl (RW.done (NW.next (CW.seq (CW.lex [.W,.L,.W,.W,.W,.L,.W,.W,.W,.W,.W,.L,.W,.W,.W,.W,.W,.L,.W,.W,.W,.W,.W,.L,.W,.W,.W,.W] rfl (pu 1 rfl (RW.lb tk [iv p0.Dev] h2 0 ?_))))))
 refine pu 2 rfl ?_
 have j1:=x0.tr x1
 refine RW.i 6 H (fun c1 H=>?_) fun c1 H=>?_
 refine pu 1 rfl (RW.lb tk [iv p0.At] h2 1 ?_)
 refine pu 3 rfl (RW.i 11 H (fun c2 H=>?_) fun c2 H=>?_)
 refine pu 2 rfl (RW.lb tk [iv p0.Table.Dev] h2 2 ?_)
 refine pu 3 rfl (RW.i 17 H (fun c3 H=>?_) fun c3 H=>?_)
 refine pu 2 rfl (RW.lb tk [iv p0.Table.Size] h2 3 ?_)
 refine pu 3 rfl (RW.i 23 H (fun c4 H=>?_) fun c4 H=>?_)
 refine pu 2 rfl (RW.lb tk [.slice A1 p0.Table.List_.length c_1] h2 4 ?_)
 refine pu 4 rfl (RW.done (NW.next (CW.ret ?_)))
 obtain rfl:=Option.some.inj H
 exact NW.r1 ⟨rfl,j1⟩
 refine pu 7 rfl (RW.done (NW.next (CW.ret ?_)))
 obtain rfl:=Option.some.inj H
 exact NW.r1 ⟨rfl,j1⟩
 refine pu 13 rfl (RW.done (NW.next (CW.ret ?_)))
 obtain rfl:=Option.some.inj H
 exact NW.r1 ⟨rfl,j1⟩
 refine pu 19 rfl (RW.done (NW.next (CW.ret ?_)))
 obtain rfl:=Option.some.inj H
 exact NW.r1 ⟨rfl,j1⟩
 refine pu 24 rfl (RW.done (NW.next (CW.ret ?_)))
 obtain rfl:=Option.some.inj H
 exact NW.r1 ⟨rfl,j1⟩
theorem chain_job.calls {k:Nat} {p0:Pool} {A1:Option Addr} {c_1:Nat} {A2:Option Addr} {c_2:Nat} {A3:Option Addr} {c_3:Nat} {r:Bool} {w:World} (H:chain_job.f k p0=some r) (hs1:Sl kDeviceR w.heap okAll A1 p0.Devices) (hl1:p0.Devices.length≤c_1) (hs2:Sl kTableR w.heap okAll A2 p0.Tables) (hl2:p0.Tables.length≤c_2) (hs3:Sl kEntry w.heap okAll A3 p0.Job.Table.List_) (hl3:p0.Job.Table.List_.length≤c_3):
 Calls Tryz.prog 81 #[.agg #[.slice A1 p0.Devices.length c_1,.slice A2 p0.Tables.length c_2,iv p0.Job.Dev,iv p0.Job.At,iv p0.Job.Table.Dev,iv p0.Job.Table.Size,.slice A3 p0.Job.Table.List_.length c_3,iv p0.Next]] w fun e w'=>e=.returned (.bool r)∧Ext w w':=by
 have h1:Sl kDeviceR w.heap (okL [(0,some w.heap.size,none)]) A1 p0.Devices:=hs1.old _ rfl
 have h2:Sl kTableR w.heap (okL [(0,some w.heap.size,none)]) A2 p0.Tables:=hs2.old _ rfl
 have h3:Sl kEntry w.heap (okL [(0,some w.heap.size,none)]) A3 p0.Job.Table.List_:=hs3.old _ rfl
 have x0:Ext w w:=Upd.refl _ w
 unfold chain_job.f at H
 refine cst Tryz.func81 68 ?_
 refine CW.seq (CW.lex [.X,.W] rfl (RW.bx fun b1 w1 x1 sx1 l1 ltb1 h4=>?_))
 refine pu 1 rfl (RW.done (NW.next (CW.seq (CW.lex [.W,.L,.X,.M] rfl (pu 1 rfl (RW.lb tk [iv p0.Job.Dev,iv p0.Job.At,iv p0.Job.Table.Dev,iv p0.Job.Table.Size,.slice A3 p0.Job.Table.List_.length c_3] h4 2 ?_))))))
 refine RW.al tk fun b2 w2 x2 sx2 l2 ltb2 h5=>?_
 refine RW.sf tk h5 fun w3 x3 sx3 h7=>?_
 refine RW.done (NW.next (CW.seq (CW.seq (CW.lex [.L,.X] rfl (RW.lw tk h7 ?_)))))
 have h8:=((h3.ext x1).ext x2).turnB x3 h5 ⟨.inr (by omega),trivial⟩
 refine RW.cp H ent119 (fun _ h=>chain_none.calls h h8.all hl3) fun y1 w4 x4 sx4 H=>?_
 refine RW.done (NW.next ?_)
 have j1:=(((x0.tr x1).tr x2).tB x3).tr x4
 refine CW.i H (fun c1 H=>?_) fun c1 H=>?_
 refine CW.seq (CW.lw 1 rfl (pu 1 rfl (RW.done (NW.next (CW.ret (NW.ret_then ?_))))))
 obtain rfl:=Option.some.inj H
 exact NW.r1 ⟨rfl,j1⟩
 refine CW.skip (NW.next (CW.seq (CW.lex [.W,.L,.W,.L,.X,.W,.W,.W,.W,.W] rfl (pu 1 rfl ?_))))
 have h11:=((h4.ext x2).tB x3).ext x4
 refine RW.lb tk [.slice A1 p0.Devices.length c_1] h11 0 ?_
 refine pu 1 rfl ?_
 have h12:=h7.ext x4
 refine RW.lb tk [iv p0.Job.Dev] h12 0 ?_
 have h13:=(((h1.ext x1).ext x2).turnB x3 h5 ⟨.inr (by omega),trivial⟩).ext x4
 refine RW.cp H ent31 (fun _ h=>room_Find.calls h h13.all hl1) fun y2 w5 x5 sx5 H=>?_
 refine pu 5 rfl (RW.done (NW.next (CW.seq ?_)))
 refine CW.seqJ (fun a w6=>∃(vc:Bool),Sat 68 [(1,.pointer (some ⟨b1,0,none⟩)),(3,.pointer (some ⟨b2,0,none⟩)),(61,.bool vc)] a∧w5.heap.size≤w6.heap.size∧Ext w w6∧Box w6.heap b1 30 [.slice A1 p0.Devices.length c_1,.slice A2 p0.Tables.length c_2,iv p0.Job.Dev,iv p0.Job.At,iv p0.Job.Table.Dev,iv p0.Job.Table.Size,.slice A3 p0.Job.Table.List_.length c_3,iv p0.Next]∧Box w6.heap b2 28 [iv p0.Job.Dev,iv p0.Job.At,iv p0.Job.Table.Dev,iv p0.Job.Table.Size,.slice A3 p0.Job.Table.List_.length c_3]∧chain_job.j0 p0 k vc=some r) ?_ ?_
 refine CW.ord [0,1,3,7,15,31,63,127,255,511,255,1279,255,7423,15615,31999,65535,131071,262143,524287,1048575,2097151,524287,4718591,16777215,33554431,67108863,134217727,268435455,536870911,134217727,1207959551,134217727,7650410495,16240345087,33420214271,68719476735,137438953471,274877906943,549755813887,1099511627775,2199023255551,4398046511103,8796093022207] (ofL [(0,.W),(1,.W),(2,.W),(3,.W),(4,.L),(5,.W),(6,.W),(7,.W),(8,.W),(10,.W),(12,.W),(9,.L),(11,.L),(13,.W),(14,.W),(15,.L),(16,.W),(17,.W),(18,.W),(19,.W),(20,.W),(22,.W),(21,.L),(23,.L),(24,.W),(25,.W),(26,.W),(27,.W),(28,.W),(30,.W),(32,.W),(29,.L),(31,.L),(33,.W),(34,.W),(35,.L),(36,.W),(37,.W),(38,.W),(39,.W),(40,.L),(41,.X),(42,.W),(43,.W)] .nil) mixed (by kernel_rfl) ?_
 intro w7 x6
 have sx6:=x6.size
 refine pu 3 rfl ?_
 have j2:=(h12.ext x5).ext x6
 have j3:=(j1.tr x5).tr x6
 have j4:=(h11.ext x5).ext x6
 refine RW.n 20 H (fun c2 H=>?_) fun c2 H=>?_
 refine pu 1 rfl (RW.lb tk [iv p0.Job.At] j2 1 ?_)
 refine pu 3 rfl (RW.i 25 H (fun c3 H=>?_) fun c3 H=>?_)
 refine pu 36 rfl (RW.done ?_)
 exact NW.J fun a ha=>⟨true,ha.sb,by omega,j3,j4,j2,H⟩
 refine pu 3 rfl (RW.lb tk [iv p0.Job.At] j2 1 ?_)
 refine RW.lb tk [.slice A1 p0.Devices.length c_1] j4 0 ?_
 obtain ⟨g1,H⟩:=guard_some H
 have h19:=(h13.ext x5).ext x6
 obtain ⟨ad1,A4,c_4,A5,c_5,e1,a1,l3,h20,l4,h21⟩:=kDeviceR_at h19 g1.1 g1.2
 refine RW.ix tk g1 e1 ?_
 refine pu 1 rfl (RW.ld tk [iv ((rd p0.Devices y2.1).Size)] ((a1.fld 1).take 1 rfl) ?_)
 refine pu 3 rfl (RW.i 36 H (fun c4 H=>?_) fun c4 H=>?_)
 refine pu 25 rfl (RW.done ?_)
 exact NW.J fun a ha=>⟨true,ha.sb,by omega,j3,j4,j2,H⟩
 refine pu 3 rfl (RW.lb tk [iv p0.Job.Table.Dev] j2 2 ?_)
 refine RW.lb tk [iv p0.Job.Dev] j2 0 ?_
 refine pu 3 rfl (RW.n 44 H (fun c5 H=>?_) fun c5 H=>?_)
 refine pu 4 rfl (RW.lb tk [iv p0.Job.Table.Size] j2 3 ?_)
 refine RW.lb tk [.slice A1 p0.Devices.length c_1] j4 0 ?_
 obtain ⟨g2,H⟩:=guard_some H
 obtain ⟨ad2,A6,c_6,A7,c_7,e2,a2,l5,h23,l6,h24⟩:=kDeviceR_at h19 g2.1 g2.2
 refine RW.ix tk g2 e2 ?_
 refine pu 1 rfl (RW.ld tk [iv ((rd p0.Devices y2.1).Size)] ((a2.fld 1).take 1 rfl) ?_)
 refine pu 3 rfl (RW.n 56 H (fun c6 H=>?_) fun c6 H=>?_)
 refine pu 1 rfl (RW.lb tk [iv p0.Job.Table.Dev,iv p0.Job.Table.Size,.slice A3 p0.Job.Table.List_.length c_3] j2 2 ?_)
 have h25:=((h8.ext x4).ext x5).ext x6
 refine RW.cp H ent113 (fun _ h=>table_May.calls h h25.all hl3) fun y3 w8 x7 sx7 H=>?_
 refine pu 2 rfl (RW.done ?_)
 have h27:=j3.tr x7
 have h28:=j4.ext x7
 have h29:=j2.ext x7
 exact NW.J fun a ha=>⟨(!y3),ha.sb,by omega,h27,h28,h29,H⟩
 refine pu 5 rfl (RW.done ?_)
 exact NW.J fun a ha=>⟨true,ha.sb,by omega,j3,j4,j2,H⟩
 refine pu 17 rfl (RW.done ?_)
 exact NW.J fun a ha=>⟨true,ha.sb,by omega,j3,j4,j2,H⟩
 refine pu 41 rfl (RW.done ?_)
 exact NW.J fun a ha=>⟨true,ha.sb,by omega,j3,j4,j2,H⟩
 rintro a w6 ⟨vc,hS,hle,vg,vn,vh,H⟩ hp
 unfold chain_job.j0 at H
 refine CW.go hp hS ?_
 have xt1:Ext w6 w6:=Upd.refl _ _
 refine CW.i H (fun c7 H=>?_) fun c7 H=>?_
 refine CW.seq (CW.lw 1 rfl (pu 1 rfl (RW.done (NW.next (CW.ret (NW.ret_then ?_))))))
 obtain rfl:=Option.some.inj H
 exact NW.r1 ⟨rfl,vg⟩
 refine CW.skip (NW.next (CW.seq (CW.lex [.W,.W,.L,.W,.X,.W,.W] rfl (pu 2 rfl (RW.lb tk [.slice A3 p0.Job.Table.List_.length c_3] vh 4 ?_)))))
 refine pu 1 rfl ?_
 have xc1:Ext w6 w6:=Upd.refl _ _
 refine RW.callK (.inl rfl) ent116 ⟨rfl,rfl,rfl,rfl⟩ rfl rfl rfl ?_
 refine cst Tryz.func116 9 ?_
 refine CW.seq (CW.lw 1 rfl (pu 1 rfl (RW.done (NW.next (CW.seq (CW.lex [.W,.W,.X,.W,.W] rfl (pu 2 rfl ?_)))))))
 have xc2:Ext w6 w6:=Upd.refl _ _
 refine RW.callV (R:=fun e w9=>∃(vd:Int),e=.returned (iv vd)∧w6.heap.size≤w9.heap.size∧Ext w w9∧Ext w6 w9∧Ext w6 w9∧chain_job.j1 vd=some r) (.inl rfl) ent144 ⟨rfl,rfl,rfl,rfl⟩ rfl rfl rfl ?_ ?_
 refine cst Tryz.func144 19 ?_
 refine CW.seq (CW.lw 1 rfl (pu 1 rfl (RW.done (NW.next (CW.seq (CW.seq (CW.lw 3 rfl ?_)))))))
 refine pu 3 rfl (RW.done (NW.next (CW.block ?_)))
 refine CW.loop (fun n1 a w10=>∃(va:Int),Sat 19 [(0,.slice A3 p0.Job.Table.List_.length c_3),(1,.func (.func 120) #[] #[.pointer (some ⟨b2,0,none⟩),.pointer (some ⟨b1,0,none⟩)]),(7,iv (p0.Job.Table.List_.length:Int)),(8,iv va)] a∧w6.heap.size≤w10.heap.size∧Ext w w10∧Ext w6 w10∧Ext w6 w10∧Ext w6 w10∧chain_job.l0 p0 k n1 va=some r) k ?_ ?_
 exact fun a ha=>⟨0,ha.sb,by omega,vg,xt1,xc1,xc2,H⟩
 rintro n1 a w10 ⟨va,hS,hle,vb,ve,vi,vj,H⟩ hp
 obtain _|n1:=n1
 cases H
 rw [chain_job.l0] at H
 refine CW.go hp hS (CW.seq (CW.lw 1 rfl (pu 1 rfl (RW.done (NW.next (CW.seq (CW.i H (fun c8 H=>?_) fun c8 H=>?_)))))))
 refine CW.skip (NW.next (CW.seq (CW.block (CW.seq (CW.lw 2 rfl (pu 2 rfl (RW.done ?_)))))))
 refine NW.next (CW.seq (CW.lex [.W,.W,.W,.W,.L,.M] rfl (pu 3 rfl ?_)))
 obtain ⟨g3,H⟩:=guard_some H
 obtain ⟨ad3,e3,a3⟩:=kEntry_at (h3.ext vb) g3.1 g3.2
 refine RW.ix tk g3 e3 ?_
 refine RW.ld tk _ a3 ?_
 refine RW.callFM (R:=fun e w11=>∃(vf:Bool),e=.returned (.bool vf)∧w10.heap.size≤w11.heap.size∧Ext w w11∧Ext w6 w11∧Ext w6 w11∧Ext w6 w11∧chain_job.j2 va (chain_job.l0 p0 k n1) vf=some r) ent120 ⟨rfl,rfl,rfl,rfl⟩ rfl rfl rfl ?_ ?_
 refine cst Tryz.func120 20 ?_
 refine CW.seq (CW.lex [.X,.W] rfl (RW.bx fun b3 w12 x8 sx8 l7 ltb3 h35=>?_))
 refine pu 1 rfl (RW.done (NW.next (CW.seq (CW.lex [.W,.L,.W,.L,.W,.W,.L,.W,.W,.L,.W,.L,.X,.W,.W,.W] rfl (pu 1 rfl (RW.lb tk [iv ((rd p0.Job.Table.List_ va).From)] h35 0 ?_))))))
 refine pu 1 rfl (RW.lb tk [iv ((rd p0.Job.Table.List_ va).Len)] h35 1 ?_)
 refine pu 2 rfl ?_
 have h36:=(vh.ext ve).ext x8
 refine RW.lb tk [iv p0.Job.At] h36 1 ?_
 refine pu 2 rfl ?_
 have j5:=vb.tr x8
 have j6:=ve.tr x8
 have j7:=vi.tr x8
 have j8:=vj.tr x8
 refine RW.i 13 H (fun c9 H=>?_) fun c9 H=>?_
 refine pu 7 rfl (RW.done (NW.next (CW.ret ?_)))
 exact NW.r1 ⟨true,rfl,by omega,j5,j6,j7,j8,H⟩
 have h41:=(vn.ext ve).ext x8
 refine RW.lw tk h41 ?_
 refine pu 1 rfl (RW.lb tk [iv ((rd p0.Job.Table.List_ va).Dev)] h35 2 ?_)
 have h42:=(h1.ext vb).ext x8
 have h43:=(h2.ext vb).ext x8
 have h44:=(h3.ext vb).ext x8
 refine RW.cp H ent59 (fun _ h=>chain_device.calls h h42.all hl1 h43.all hl2 h44.all hl3) fun y4 w13 x9 sx9 H=>?_
 refine pu 3 rfl (RW.done (NW.next (CW.ret ?_)))
 have h46:=j5.tr x9
 have h47:=j6.tr x9
 have h48:=j7.tr x9
 have h49:=j8.tr x9
 exact NW.r1 ⟨(!y4),rfl,by omega,h46,h47,h48,h49,H⟩
 rintro _ w11 ⟨vf,rfl,hle,vk,vo,vl,vm,H⟩
 refine ⟨_,rfl,?_⟩
 unfold chain_job.j2 at H
 refine RW.done (NW.next (CW.i H (fun c10 H=>?_) fun c10 H=>?_))
 refine CW.seq (CW.lw 2 rfl (pu 2 rfl (RW.done (NW.next (CW.ret ?_)))))
 refine NW.ret_block (NW.ret_then (NW.ret_then (NW.ret_block (NW.ret_then ?_))))
 exact NW.r1 ⟨va,rfl,by omega,vk,vl,vm,H⟩
 refine CW.skip ?_
 refine NW.norm_block (NW.next ?_)
 refine CW.lw 2 rfl (pu 2 rfl (RW.done ?_))
 exact NW.J fun a ha=>⟨n1,Nat.lt_succ_self n1,(w64 (va+1)),ha.sb,by omega,vk,vo,vl,vm,H⟩
 refine CW.exit ?_
 refine NW.exit_then (NW.exit_then (NW.exit_hit ?_))
 refine NW.next (CW.seq (CW.lw 1 rfl (pu 1 rfl (RW.done (NW.next (CW.ret ?_))))))
 exact NW.r1 ⟨(-1),rfl,by omega,vb,vi,vj,H⟩
 rintro _ w9 ⟨vd,rfl,hle,vp,vq,vr,H⟩
 refine ⟨_,rfl,vr,?_⟩
 unfold chain_job.j1 at H
 refine pu 2 rfl (RW.done (NW.next (CW.ret ?_)))
 refine NW.ret1 rfl (by rfl) ⟨_,rfl,vq,?_⟩
 refine pu 2 rfl (RW.done (NW.next (CW.ret ?_)))
 obtain rfl:=Option.some.inj H
 exact NW.r1 ⟨rfl,vp⟩
theorem chain_May.calls {k:Nat} {p0:Pool} {A1:Option Addr} {c_1:Nat} {A2:Option Addr} {c_2:Nat} {A3:Option Addr} {c_3:Nat} {r:Bool} {w:World} (H:chain_May.f k p0=some r) (hs1:Sl kDeviceR w.heap okAll A1 p0.Devices) (hl1:p0.Devices.length≤c_1) (hs2:Sl kTableR w.heap okAll A2 p0.Tables) (hl2:p0.Tables.length≤c_2) (hs3:Sl kEntry w.heap okAll A3 p0.Job.Table.List_) (hl3:p0.Job.Table.List_.length≤c_3):
 Calls Tryz.prog 53 #[.agg #[.slice A1 p0.Devices.length c_1,.slice A2 p0.Tables.length c_2,iv p0.Job.Dev,iv p0.Job.At,iv p0.Job.Table.Dev,iv p0.Job.Table.Size,.slice A3 p0.Job.Table.List_.length c_3,iv p0.Next]] w fun e w'=>e=.returned (.bool r)∧Ext w w':=by
 have h1:Sl kDeviceR w.heap (okL [(0,some w.heap.size,none)]) A1 p0.Devices:=hs1.old _ rfl
 have h2:Sl kTableR w.heap (okL [(0,some w.heap.size,none)]) A2 p0.Tables:=hs2.old _ rfl
 have h3:Sl kEntry w.heap (okL [(0,some w.heap.size,none)]) A3 p0.Job.Table.List_:=hs3.old _ rfl
 have x0:Ext w w:=Upd.refl _ w
 unfold chain_May.f at H
 refine cst Tryz.func53 44 ?_
 refine CW.seq (CW.lex [.X,.W] rfl (RW.bx fun b1 w1 x1 sx1 l1 ltb1 h4=>?_))
 refine pu 1 rfl (RW.done (NW.next (CW.seq ?_)))
 refine CW.seqJ (fun a w2=>∃(vb:Bool),Sat 44 [(1,.pointer (some ⟨b1,0,none⟩)),(39,.bool vb)] a∧w1.heap.size≤w2.heap.size∧Ext w w2∧Box w2.heap b1 30 [.slice A1 p0.Devices.length c_1,.slice A2 p0.Tables.length c_2,iv p0.Job.Dev,iv p0.Job.At,iv p0.Job.Table.Dev,iv p0.Job.Table.Size,.slice A3 p0.Job.Table.List_.length c_3,iv p0.Next]∧chain_May.j0 p0 k vb=some r) ?_ ?_
 refine CW.lex [.W,.L,.X,.W,.W,.W,.L,.W,.W,.W,.W,.W,.W,.L,.W,.W,.W,.L,.W,.W,.W,.W,.W,.L,.X,.W,.W,.W,.L,.X,.W,.W,.W,.L,.X,.W,.W] rfl (pu 1 rfl (RW.lb tk [.slice A1 p0.Devices.length c_1] h4 0 ?_))
 have h5:=h1.ext x1
 refine RW.cp H ent78 (fun _ h=>room_May.calls h h5.all hl1) fun y1 w3 x2 sx2 H=>?_
 refine pu 2 rfl ?_
 have j1:=h4.ext x2
 have j2:=(x0.tr x1).tr x2
 refine RW.n 7 H (fun c1 H=>?_) fun c1 H=>?_
 refine pu 1 rfl (RW.lb tk [.slice A2 p0.Tables.length c_2] j1 1 ?_)
 refine pu 4 rfl (RW.i 13 H (fun c2 H=>?_) fun c2 H=>?_)
 refine pu 26 rfl (RW.done ?_)
 exact NW.J fun a ha=>⟨true,ha.sb,by omega,j2,j1,H⟩
 refine pu 2 rfl (RW.lb tk [iv p0.Job.Dev] j1 2 ?_)
 refine pu 2 rfl ?_
 have j3:=h5.ext x2
 have j4:=(h2.ext x1).ext x2
 have j5:=(h3.ext x1).ext x2
 refine RW.n 18 H (fun c3 H=>?_) fun c3 H=>?_
 refine pu 7 rfl (RW.lw tk j1 ?_)
 refine RW.cp H ent79 (fun _ h=>chain_ids.calls h j3.all hl1 j4.all hl2 j5.all hl3) fun y2 w4 x3 sx3 H=>?_
 refine pu 3 rfl ?_
 have j8:=j1.ext x3
 have j9:=j2.tr x3
 refine RW.n 30 H (fun c4 H=>?_) fun c4 H=>?_
 refine RW.lw tk j8 ?_
 have h14:=j3.ext x3
 have h15:=j4.ext x3
 have h16:=j5.ext x3
 refine RW.cp H ent80 (fun _ h=>chain_tables.calls h h14.all hl1 h15.all hl2 h16.all hl3) fun y3 w5 x4 sx4 H=>?_
 refine pu 3 rfl ?_
 have j10:=j8.ext x4
 have j11:=j9.tr x4
 refine RW.n 35 H (fun c5 H=>?_) fun c5 H=>?_
 refine RW.lw tk j10 ?_
 have h19:=h14.ext x4
 have h20:=h15.ext x4
 have h21:=h16.ext x4
 refine RW.cp H ent81 (fun _ h=>chain_job.calls h h19.all hl1 h20.all hl2 h21.all hl3) fun y4 w6 x5 sx5 H=>?_
 refine pu 2 rfl (RW.done ?_)
 have h23:=j11.tr x5
 have h24:=j10.ext x5
 exact NW.J fun a ha=>⟨(!y4),ha.sb,by omega,h23,h24,H⟩
 refine pu 4 rfl (RW.done ?_)
 exact NW.J fun a ha=>⟨true,ha.sb,by omega,j11,j10,H⟩
 refine pu 9 rfl (RW.done ?_)
 exact NW.J fun a ha=>⟨true,ha.sb,by omega,j9,j8,H⟩
 refine pu 1 rfl (RW.lb tk [.slice A2 p0.Tables.length c_2] j1 1 ?_)
 refine pu 5 rfl (RW.i 25 H (fun c6 H=>?_) fun c6 H=>?_)
 refine pu 14 rfl (RW.done ?_)
 exact NW.J fun a ha=>⟨true,ha.sb,by omega,j2,j1,H⟩
 refine RW.lw tk j1 ?_
 refine RW.cp H ent79 (fun _ h=>chain_ids.calls h j3.all hl1 j4.all hl2 j5.all hl3) fun y5 w7 x6 sx6 H=>?_
 refine pu 3 rfl ?_
 have j6:=j1.ext x6
 have j7:=j2.tr x6
 refine RW.n 30 H (fun c7 H=>?_) fun c7 H=>?_
 refine RW.lw tk j6 ?_
 have h35:=j3.ext x6
 have h36:=j4.ext x6
 have h37:=j5.ext x6
 refine RW.cp H ent80 (fun _ h=>chain_tables.calls h h35.all hl1 h36.all hl2 h37.all hl3) fun y6 w8 x7 sx7 H=>?_
 refine pu 3 rfl ?_
 have j12:=j6.ext x7
 have j13:=j7.tr x7
 refine RW.n 35 H (fun c8 H=>?_) fun c8 H=>?_
 refine RW.lw tk j12 ?_
 have h40:=h35.ext x7
 have h41:=h36.ext x7
 have h42:=h37.ext x7
 refine RW.cp H ent81 (fun _ h=>chain_job.calls h h40.all hl1 h41.all hl2 h42.all hl3) fun y7 w9 x8 sx8 H=>?_
 refine pu 2 rfl (RW.done ?_)
 have h44:=j13.tr x8
 have h45:=j12.ext x8
 exact NW.J fun a ha=>⟨(!y7),ha.sb,by omega,h44,h45,H⟩
 refine pu 4 rfl (RW.done ?_)
 exact NW.J fun a ha=>⟨true,ha.sb,by omega,j13,j12,H⟩
 refine pu 9 rfl (RW.done ?_)
 exact NW.J fun a ha=>⟨true,ha.sb,by omega,j7,j6,H⟩
 refine pu 32 rfl (RW.done ?_)
 exact NW.J fun a ha=>⟨true,ha.sb,by omega,j2,j1,H⟩
 rintro a w2 ⟨vb,hS,hle,ve,vf,H⟩ hp
 unfold chain_May.j0 at H
 refine CW.go hp hS ?_
 have xt1:Ext w2 w2:=Upd.refl _ _
 refine CW.i H (fun c9 H=>?_) fun c9 H=>?_
 refine CW.seq (CW.lw 1 rfl (pu 1 rfl (RW.done (NW.next (CW.ret (NW.ret_then ?_))))))
 obtain rfl:=Option.some.inj H
 exact NW.r1 ⟨rfl,ve⟩
 refine CW.skip (NW.next (CW.seq (CW.lex [.W,.L,.W,.X,.W] rfl (pu 1 rfl (RW.lb tk [.slice A1 p0.Devices.length c_1] vf 0 ?_)))))
 refine pu 1 rfl ?_
 have xc1:Ext w2 w2:=Upd.refl _ _
 refine RW.callK (.inl rfl) ent82 ⟨rfl,rfl,rfl,rfl⟩ rfl rfl rfl ?_
 refine cst Tryz.func82 9 ?_
 refine CW.seq (CW.lw 1 rfl (pu 1 rfl (RW.done (NW.next (CW.seq (CW.lex [.W,.W,.X,.W,.W] rfl (pu 2 rfl ?_)))))))
 have xc2:Ext w2 w2:=Upd.refl _ _
 refine RW.callV (R:=fun e w10=>∃(vc:Int),e=.returned (iv vc)∧w2.heap.size≤w10.heap.size∧Ext w w10∧Ext w2 w10∧Ext w2 w10∧chain_May.j1 vc=some r) (.inl rfl) ent121 ⟨rfl,rfl,rfl,rfl⟩ rfl rfl rfl ?_ ?_
 refine cst Tryz.func121 19 ?_
 refine CW.seq (CW.lw 1 rfl (pu 1 rfl (RW.done (NW.next (CW.seq (CW.seq (CW.lw 3 rfl ?_)))))))
 refine pu 3 rfl (RW.done (NW.next (CW.block ?_)))
 refine CW.loop (fun n1 a w11=>∃(va:Int),Sat 19 [(0,.slice A1 p0.Devices.length c_1),(1,.func (.func 83) #[] #[.pointer (some ⟨b1,0,none⟩)]),(7,iv (p0.Devices.length:Int)),(8,iv va)] a∧w2.heap.size≤w11.heap.size∧Ext w w11∧Ext w2 w11∧Ext w2 w11∧Ext w2 w11∧chain_May.l0 p0 n1 va=some r) k ?_ ?_
 exact fun a ha=>⟨0,ha.sb,by omega,ve,xt1,xc1,xc2,H⟩
 rintro n1 a w11 ⟨va,hS,hle,vd,vg,vh,vi,H⟩ hp
 obtain _|n1:=n1
 cases H
 rw [chain_May.l0] at H
 refine CW.go hp hS (CW.seq (CW.lw 1 rfl (pu 1 rfl (RW.done (NW.next (CW.seq (CW.i H (fun c10 H=>?_) fun c10 H=>?_)))))))
 refine CW.skip (NW.next (CW.seq (CW.block (CW.seq (CW.lw 2 rfl (pu 2 rfl (RW.done ?_)))))))
 refine NW.next (CW.seq (CW.lex [.W,.W,.W,.W,.L,.M] rfl (pu 3 rfl ?_)))
 obtain ⟨g1,H⟩:=guard_some H
 obtain ⟨ad1,A4,c_4,A5,c_5,e1,a1,l2,h52,l3,h53⟩:=kDeviceR_at (h1.ext vd) g1.1 g1.2
 refine RW.ix tk g1 e1 ?_
 refine RW.ld tk _ a1 ?_
 refine RW.callKM ent83 ⟨rfl,rfl,rfl,rfl⟩ rfl rfl rfl ?_
 refine cst Tryz.func83 10 ?_
 refine CW.seq (CW.lex [.X,.W] rfl (RW.bx fun b2 w12 x9 sx9 l4 ltb2 h54=>?_))
 refine pu 1 rfl (RW.done (NW.next (CW.seq (CW.lex [.W,.L,.W,.W,.L,.W,.W] rfl (pu 1 rfl (RW.lb tk [iv ((rd p0.Devices va).ID)] h54 0 ?_))))))
 refine pu 2 rfl ?_
 have h55:=(vf.ext vg).ext x9
 refine RW.lb tk [iv p0.Job.Dev] h55 2 ?_
 refine pu 2 rfl (RW.done (NW.next (CW.ret ?_)))
 refine NW.ret1 rfl (by rfl) ⟨_,rfl,?_⟩
 refine RW.done (NW.next ?_)
 have j14:=vd.tr x9
 have j15:=vh.tr x9
 have j16:=vi.tr x9
 refine CW.n H (fun c11 H=>?_) fun c11 H=>?_
 refine CW.skip ?_
 refine NW.norm_block (NW.next ?_)
 refine CW.lw 2 rfl (pu 2 rfl (RW.done ?_))
 have h57:=vg.tr x9
 exact NW.J fun a ha=>⟨n1,Nat.lt_succ_self n1,(w64 (va+1)),ha.sb,by omega,j14,h57,j15,j16,H⟩
 refine CW.seq (CW.lw 2 rfl (pu 2 rfl (RW.done (NW.next (CW.ret ?_)))))
 refine NW.ret_block (NW.ret_then (NW.ret_then (NW.ret_block (NW.ret_then ?_))))
 exact NW.r1 ⟨va,rfl,by omega,j14,j15,j16,H⟩
 refine CW.exit ?_
 refine NW.exit_then (NW.exit_then (NW.exit_hit ?_))
 refine NW.next (CW.seq (CW.lw 1 rfl (pu 1 rfl (RW.done (NW.next (CW.ret ?_))))))
 exact NW.r1 ⟨(-1),rfl,by omega,vd,vh,vi,H⟩
 rintro _ w10 ⟨vc,rfl,hle,vj,vk,vl,H⟩
 refine ⟨_,rfl,vl,?_⟩
 unfold chain_May.j1 at H
 refine pu 2 rfl (RW.done (NW.next (CW.ret ?_)))
 refine NW.ret1 rfl (by rfl) ⟨_,rfl,vk,?_⟩
 refine pu 1 rfl (RW.done (NW.next (CW.ret ?_)))
 obtain rfl:=Option.some.inj H
 exact NW.r1 ⟨rfl,vj⟩
theorem slices_Clone_Device.calls {A1:Option Addr} {c_1:Nat} {p0:List Device} {r:(List Device)} {w:World} (H:slices_Clone_Device.f p0=some r) (hs1:Sl kDeviceR w.heap okAll A1 p0) (hl1:p0.length≤c_1):
 Calls Tryz.prog 122 #[.slice A1 p0.length c_1] w fun e w'=>∃(B1:Option Addr) (d1:Nat),e=.returned (.slice B1 r.length d1)∧Ext w w'∧Ow kDeviceR 40 w'.heap (okL [(w.heap.size,none,some 40)]) (okL [(0,some w.heap.size,none),(w.heap.size,none,some 105)]) B1 d1 r:=by
 have h1:Sl kDeviceR w.heap (okL [(0,some w.heap.size,none)]) A1 p0:=hs1.old _ rfl
 have x0:Ext w w:=Upd.refl _ w
 unfold slices_Clone_Device.f at H
 refine cst Tryz.func122 8 ?_
 refine CW.seq (CW.lw 1 rfl (pu 1 rfl (RW.done (NW.next (CW.seq (CW.seq (CW.lw 2 rfl ?_)))))))
 refine pu 1 rfl (RW.eqNil tk ⟨rfl,rfl,rfl,rfl⟩ rfl rfl rfl rfl rfl (RW.done (NW.next ?_)))
 by_cases c1:A1.isNone=true
 obtain rfl:p0=[]:=sl_none h1 c1
 replace H:(some ([]:List Device))=some r:=by first|exact H|simpa using H
 refine CW.cond_t rfl (c1) (CW.seq (CW.lw 1 rfl (pu 1 rfl (RW.done (NW.next (CW.ret (NW.ret_then ?_)))))))
 obtain rfl:=Option.some.inj H
 exact NW.r1 ⟨none,0,rfl,x0,Ow.nil⟩
 refine CW.cond_f rfl (bool_f c1) (CW.skip (NW.next (CW.seq (CW.lex [.X,.W,.M,.W] rfl (RW.buildSlice (cs:=[]) tk (.inl rfl) ⟨rfl,rfl,rfl,rfl⟩ rfl rfl rfl rfl rfl rfl rfl ?_)))))
 intro b1 w1 x1 l1 h2
 have sx1:=x1.size
 have ltb1:=h2.lt
 refine pu 1 rfl ?_
 have h3:=h1.ext x1
 obtain ⟨y1,h4,h5⟩:=Sl.ch h3
 obtain ⟨g1,H⟩:=guard_some H
 refine RW.appendL (d:=kDeviceR) (l:=[]) (li:=[]) (ly:=[(0,some w.heap.size,none)]) (xs:=([]:List Device)) (ys:=p0) tk Ow.nil h4 h5 ⟨trivial,trivial⟩ (by simp only [maxLen];omega) g1 ⟨rfl,rfl,rfl,rfl⟩ rfl rfl rfl rfl rfl rfl rfl rfl ?_
 intro A2 c_2 w2 x2 h6
 have sx2:=x2.size
 have h7:=h6.close.sub (l':=[(w1.heap.size,some w2.heap.size,some 40)]) (li':=[(0,some w.heap.size,none)]) ⟨(.inl ⟨by omega,by omega,rfl⟩),trivial⟩ ⟨(.inl ⟨by omega,by omega,trivial⟩),trivial⟩
 refine pu 1 rfl (RW.done (NW.next (CW.ret ?_)))
 obtain rfl:=Option.some.inj H
 have h8:=Ext.turn (x0.tr x1) x2 trivial
 exact NW.r1 ⟨A2,c_2,rfl,h8,(h7.sub (l':=[(w.heap.size,none,some 40)]) (li':=[(0,some w.heap.size,none),(w.heap.size,none,some 105)]) ⟨(.inl ⟨by omega,trivial,rfl⟩),trivial⟩ ⟨(.inl ⟨by omega,by omega,trivial⟩),trivial⟩)⟩
theorem slices_Clone_Seg.calls {A1:Option Addr} {c_1:Nat} {p0:List Seg} {r:(List Seg)} {w:World} (H:slices_Clone_Seg.f p0=some r) (hs1:Sl kSeg w.heap okAll A1 p0) (hl1:p0.length≤c_1):
 Calls Tryz.prog 123 #[.slice A1 p0.length c_1] w fun e w'=>∃(B1:Option Addr) (d1:Nat),e=.returned (.slice B1 r.length d1)∧Ext w w'∧Ow kSeg 105 w'.heap (okL [(w.heap.size,none,some 105)]) (okL []) B1 d1 r:=by
 have h1:Sl kSeg w.heap (okL [(0,some w.heap.size,none)]) A1 p0:=hs1.old _ rfl
 have x0:Ext w w:=Upd.refl _ w
 unfold slices_Clone_Seg.f at H
 refine cst Tryz.func123 8 ?_
 refine CW.seq (CW.lw 1 rfl (pu 1 rfl (RW.done (NW.next (CW.seq (CW.seq (CW.lw 2 rfl ?_)))))))
 refine pu 1 rfl (RW.eqNil tk ⟨rfl,rfl,rfl,rfl⟩ rfl rfl rfl rfl rfl (RW.done (NW.next ?_)))
 by_cases c1:A1.isNone=true
 obtain rfl:p0=[]:=sl_none h1 c1
 replace H:(some ([]:List Seg))=some r:=by first|exact H|simpa using H
 refine CW.cond_t rfl (c1) (CW.seq (CW.lw 1 rfl (pu 1 rfl (RW.done (NW.next (CW.ret (NW.ret_then ?_)))))))
 obtain rfl:=Option.some.inj H
 exact NW.r1 ⟨none,0,rfl,x0,Ow.nil⟩
 refine CW.cond_f rfl (bool_f c1) (CW.skip (NW.next (CW.seq (CW.lex [.X,.W,.M,.W] rfl (RW.buildSlice (cs:=[]) tk (.inl rfl) ⟨rfl,rfl,rfl,rfl⟩ rfl rfl rfl rfl rfl rfl rfl ?_)))))
 intro b1 w1 x1 l1 h2
 have sx1:=x1.size
 have ltb1:=h2.lt
 refine pu 1 rfl ?_
 have h3:=h1.ext x1
 obtain ⟨y1,h4,h5⟩:=Sl.ch h3
 have h6:=h4.flat (h':=w1.heap) (ok':=okL []) fun e=>e
 obtain ⟨g1,H⟩:=guard_some H
 refine RW.appendL (d:=kSeg) (l:=[]) (li:=[]) (ly:=[]) (xs:=([]:List Seg)) (ys:=p0) tk Ow.nil h6 h5 trivial (by simp only [maxLen];omega) g1 ⟨rfl,rfl,rfl,rfl⟩ rfl rfl rfl rfl rfl rfl rfl rfl ?_
 intro A2 c_2 w2 x2 h7
 have sx2:=x2.size
 have h8:=h7.close.sub (l':=[(w1.heap.size,some w2.heap.size,some 105)]) (li':=[]) ⟨(.inl ⟨by omega,by omega,rfl⟩),trivial⟩ trivial
 refine pu 1 rfl (RW.done (NW.next (CW.ret ?_)))
 obtain rfl:=Option.some.inj H
 have h9:=Ext.turn (x0.tr x1) x2 trivial
 exact NW.r1 ⟨A2,c_2,rfl,h9,(h8.sub (l':=[(w.heap.size,none,some 105)]) (li':=[]) ⟨(.inl ⟨by omega,trivial,rfl⟩),trivial⟩ trivial)⟩
theorem room_Own.calls {k:Nat} {A1:Option Addr} {c_1:Nat} {p0:List Device} {r:(List Device)} {w:World} (H:room_Own.f k p0=some r) (hs1:Sl kDeviceR w.heap okAll A1 p0) (hl1:p0.length≤c_1):
 Calls Tryz.prog 84 #[.slice A1 p0.length c_1] w fun e w'=>∃(B1:Option Addr) (d1:Nat),e=.returned (.slice B1 r.length d1)∧Ext w w'∧Ow kDeviceO 40 w'.heap (okL [(w.heap.size,none,some 40)]) (okL [(w.heap.size,none,some 105)]) B1 d1 r:=by
 have h1:Sl kDeviceR w.heap (okL [(0,some w.heap.size,none)]) A1 p0:=hs1.old _ rfl
 have x0:Ext w w:=Upd.refl _ w
 unfold room_Own.f at H
 refine cst Tryz.func84 33 ?_
 refine CW.seq (CW.lw 1 rfl (pu 1 rfl (RW.done (NW.next (CW.seq (CW.lex [.W,.X,.W] rfl (pu 1 rfl ?_)))))))
 obtain ⟨y1,h2,H⟩:=bind_some H
 refine RW.cl ent122 (slices_Clone_Device.calls h2 h1.all hl1) ?_
 rintro _ w1 ⟨A2,c_2,rfl,x1,h3⟩
 refine ⟨_,rfl,x1,?_⟩
 have sx1:=x1.size
 have h4:Ow kDeviceR 40 w1.heap (okL [(w.heap.size,some w1.heap.size,some 40)]) (okL [(0,some w.heap.size,none),(w.heap.size,some w1.heap.size,some 105)]) A2 c_2 y1:=h3.close
 refine pu 1 rfl (RW.done (NW.next (CW.seq (CW.seq (CW.lw 3 rfl (pu 3 rfl (RW.done ?_)))))))
 refine NW.next (CW.block ?_)
 refine CW.loop (fun n1 a w2=>∃(vb:List Device) (va:Int),Sat 33 [(0,.slice A2 vb.length c_2),(7,iv (y1.length:Int)),(8,iv va)] a∧w1.heap.size≤w2.heap.size∧Ow kDeviceR 40 w2.heap (okL [(w.heap.size,none,some 40)]) (okL [(0,some w.heap.size,none),(w.heap.size,none,some 105)]) A2 c_2 vb∧Ext w w2∧vb.length=y1.length∧vb.length=y1.length∧0≤va∧OwPart kDeviceO w2.heap (okL [(w.heap.size,none,some 105)]) A2 vb default va.toNat∧room_Own.l0 y1 n1 vb va=some r) k ?_ ?_
 have h5:=x0.tr x1
 exact fun a ha=>⟨y1,0,ha.sb,by omega,(h4.sub ⟨(.inl ⟨by omega,trivial,rfl⟩),trivial⟩ ⟨(.inl ⟨by omega,by omega,trivial⟩),⟨(.inr (.inl ⟨by omega,trivial,rfl⟩)),trivial⟩⟩),h5,(by (try simp only [List.length_set]) <;>omega),rfl,Int.le_refl 0,OwPart.zero,H⟩
 rintro n1 a w2 ⟨vb,va,hS,hle,vd,vc,ve,hln,hi0,hpt,H⟩ hp
 obtain _|n1:=n1
 cases H
 rw [room_Own.l0] at H
 refine CW.go hp hS ?_
 have h6:Ow kDeviceR 40 w2.heap (okL [(w.heap.size,some w2.heap.size,some 40)]) (okL [(0,some w.heap.size,none),(w.heap.size,some w2.heap.size,some 105)]) A2 c_2 vb:=vd.close
 have xt1:Ext w2 w2:=Upd.refl _ _
 refine CW.seq (CW.lw 1 rfl (pu 1 rfl (RW.done (NW.next (CW.seq (CW.i H (fun c1 H=>?_) fun c1 H=>?_))))))
 refine CW.skip (NW.next (CW.seq (CW.block (CW.seq (CW.lw 2 rfl (pu 2 rfl (RW.done ?_)))))))
 refine NW.next (CW.ord [0,0,0,0,0,0,48,112,240,496,0,0,3072,7168,15360,32752,65523,131059,262131,524287,1048575,2097151] (ofL [(0,.W),(1,.W),(2,.W),(3,.W),(4,.W),(5,.W),(6,.W),(7,.W),(10,.W),(11,.W),(12,.W),(13,.W),(8,.L),(14,.L),(9,.X),(15,.X),(16,.W),(17,.W),(18,.M),(19,.W),(20,.W),(21,.M)] .nil) mixed (by kernel_rfl) ?_)
 intro w3 x2
 have sx2:=x2.size
 refine pu 6 rfl ?_
 obtain ⟨g1,H⟩:=guard_some H
 have h7:=h6.ext x2
 obtain ⟨ad1,A3,c_3,A4,c_4,e1,a1,l1,h8,l2,h9⟩:=kDeviceR_ato h7 g1.1 g1.2
 refine RW.ix tk g1 e1 ?_
 refine pu 3 rfl ?_
 obtain ⟨g2,H⟩:=guard_some H
 obtain ⟨ad2,A5,c_5,A6,c_6,e2,a2,l3,h10,l4,h11⟩:=kDeviceR_ato h7 g2.1 g2.2
 refine RW.ix tk g2 e2 ?_
 refine pu 1 rfl (RW.ld tk [.slice A3 ((rd vb va).Free).length c_3] ((a1.fld 2).take 1 rfl) ?_)
 refine RW.ld tk [.slice A6 ((rd vb va).Late).length c_6] (a2.fld 3) ?_
 obtain ⟨y2,h12,H⟩:=bind_some H
 refine RW.cl ent123 (slices_Clone_Seg.calls h12 h8.all l1) ?_
 rintro _ w4 ⟨A7,c_7,rfl,x3,h13⟩
 refine ⟨_,rfl,x3,?_⟩
 have sx3:=x3.size
 have h14:Ow kSeg 105 w4.heap (okL [(w3.heap.size,some w4.heap.size,some 105)]) (okL []) A7 c_7 y2:=h13.close
 have h15:=h11.ext x3
 obtain ⟨y3,h16,H⟩:=bind_some H
 refine RW.cl ent123 (slices_Clone_Seg.calls h16 h15.all l4) ?_
 rintro _ w5 ⟨A8,c_8,rfl,x4,h17⟩
 refine ⟨_,rfl,x4,?_⟩
 have sx4:=x4.size
 have h18:Ow kSeg 105 w5.heap (okL [(w4.heap.size,some w5.heap.size,some 105)]) (okL []) A8 c_8 y3:=h17.close
 obtain ⟨g3,H⟩:=guard_some H
 have h19:=(h7.ext x3).ext x4
 obtain ⟨ad3,A9,c_9,A10,c_10,e3,a3,l5,h20,l6,h21⟩:=kDeviceR_ato h19 g3.1 g3.2
 refine RW.ix tk g3 e3 ?_
 refine pu 1 rfl ?_
 have h22:=h14.ext x4
 refine RW.storeElX (y:=(⟨(rd vb va).ID,(rd vb va).Size,y2,(rd vb va).Late⟩:Device)) (lv:=[(w3.heap.size,some w4.heap.size,some 105)]) (k:=2) tk h19 (j:=va.toNat) (by have:=g3;omega) default [.slice A7 y2.length c_7] (fun cs ok' hr=>by obtain ⟨qa1,qc1,qa2,qc2,rfl,ql1,q1,ql2,q2⟩:=kDeviceR_open hr;exact ⟨by simp,kDeviceR_mk (⟨(rd vb va).ID,(rd vb va).Size,y2,(rd vb va).Late⟩:Device) h22.len (Sl.mono h22.slL fun _ _ ho=>Or.inr (okL_sub (l:=[(w3.heap.size,some w4.heap.size,some 105)]) (l':=[(w3.heap.size,some w4.heap.size,some 105)]) ⟨(.inl ⟨by omega,by omega,rfl⟩),trivial⟩ ho)) ql2 (q2.mono fun _ _ ho=>Or.inl ho)⟩) ⟨⟨.inl (nq rfl),trivial⟩,trivial⟩ ⟨rfl,rfl,rfl⟩ rfl rfl e3 rfl rfl rfl rfl rfl ?_
 intro w6 x5 Xx5 h23
 have sx5:=x5.size
 have h24:=h23.close.sub (l':=[(w.heap.size,some w2.heap.size,some 40)]) (li':=[(0,some w.heap.size,none),(w.heap.size,some w4.heap.size,some 105)]) ⟨(.inl ⟨by omega,by omega,rfl⟩),trivial⟩ ⟨(.inl ⟨by omega,by omega,trivial⟩),⟨(.inr (.inl ⟨by omega,by omega,rfl⟩)),⟨(.inr (.inl ⟨by omega,by omega,rfl⟩)),trivial⟩⟩⟩
 refine RW.tell 0 (v':=.slice A2 (vb.set va.toNat (⟨(rd vb va).ID,(rd vb va).Size,y2,(rd vb va).Late⟩:Device)).length c_2) (by simp only [List.length_set]) rfl (RW.tell 13 (v':=.slice A2 (vb.set va.toNat (⟨(rd vb va).ID,(rd vb va).Size,y2,(rd vb va).Late⟩:Device)).length c_2) (by simp only [List.length_set]) rfl ?_)
 obtain ⟨g4,H⟩:=guard_some H
 obtain ⟨ad4,A11,c_11,A12,c_12,e4,a4,l7,h25,l8,h26⟩:=kDeviceR_ato h24 g4.1 g4.2
 refine RW.ix tk g4 e4 ?_
 refine pu 1 rfl ?_
 have h27:=h18.tL x5
 refine RW.storeElX (y:=(⟨(rd (vb.set va.toNat (⟨(rd vb va).ID,(rd vb va).Size,y2,(rd vb va).Late⟩:Device)) va).ID,(rd (vb.set va.toNat (⟨(rd vb va).ID,(rd vb va).Size,y2,(rd vb va).Late⟩:Device)) va).Size,(rd (vb.set va.toNat (⟨(rd vb va).ID,(rd vb va).Size,y2,(rd vb va).Late⟩:Device)) va).Free,y3⟩:Device)) (lv:=[(w4.heap.size,some w5.heap.size,some 105)]) (k:=3) tk h24 (j:=va.toNat) (by have:=g4;omega) default [.slice A8 y3.length c_8] (fun cs ok' hr=>by obtain ⟨qa1,qc1,qa2,qc2,rfl,ql1,q1,ql2,q2⟩:=kDeviceR_open hr;exact ⟨by simp,kDeviceR_mk (⟨(rd (vb.set va.toNat (⟨(rd vb va).ID,(rd vb va).Size,y2,(rd vb va).Late⟩:Device)) va).ID,(rd (vb.set va.toNat (⟨(rd vb va).ID,(rd vb va).Size,y2,(rd vb va).Late⟩:Device)) va).Size,(rd (vb.set va.toNat (⟨(rd vb va).ID,(rd vb va).Size,y2,(rd vb va).Late⟩:Device)) va).Free,y3⟩:Device) ql1 (q1.mono fun _ _ ho=>Or.inl ho) h27.len (Sl.mono h27.slL fun _ _ ho=>Or.inr (okL_sub (l:=[(w4.heap.size,some w5.heap.size,some 105)]) (l':=[(w4.heap.size,some w5.heap.size,some 105)]) ⟨(.inl ⟨by omega,by omega,rfl⟩),trivial⟩ ho))⟩) ⟨⟨.inl (nq rfl),trivial⟩,trivial⟩ ⟨rfl,rfl,rfl⟩ rfl rfl e4 rfl rfl rfl rfl rfl ?_
 intro w7 x6 Xx6 h28
 have sx6:=x6.size
 have h29:=h28.close.sub (l':=[(w.heap.size,some w2.heap.size,some 40)]) (li':=[(0,some w.heap.size,none),(w.heap.size,some w5.heap.size,some 105)]) ⟨(.inl ⟨by omega,by omega,rfl⟩),trivial⟩ ⟨(.inl ⟨by omega,by omega,trivial⟩),⟨(.inr (.inl ⟨by omega,by omega,rfl⟩)),⟨(.inr (.inl ⟨by omega,by omega,rfl⟩)),trivial⟩⟩⟩
 refine RW.tell 0 (v':=.slice A2 ((vb.set va.toNat (⟨(rd vb va).ID,(rd vb va).Size,y2,(rd vb va).Late⟩:Device)).set va.toNat (⟨(rd (vb.set va.toNat (⟨(rd vb va).ID,(rd vb va).Size,y2,(rd vb va).Late⟩:Device)) va).ID,(rd (vb.set va.toNat (⟨(rd vb va).ID,(rd vb va).Size,y2,(rd vb va).Late⟩:Device)) va).Size,(rd (vb.set va.toNat (⟨(rd vb va).ID,(rd vb va).Size,y2,(rd vb va).Late⟩:Device)) va).Free,y3⟩:Device)).length c_2) (by simp only [List.length_set]) rfl (RW.done ?_)
 refine NW.norm_block (NW.next ?_)
 refine CW.lw 2 rfl (pu 2 rfl (RW.done ?_))
 have h30:=Ext.turn (Ext.turn (((vc.tr x2).tr x3).tr x4) x5 ⟨by omega,trivial⟩) x6 ⟨by omega,trivial⟩
 have hno:∀b,okL [(w.heap.size,none,some 105)] b (some 40)→False:=fun b h=>by rcases h with ⟨_,_,h⟩|h;exact absurd h (show ¬((some 40:Option TypeId)=some 105) by decide);exact h.elim
 have Xx5':Laid kDeviceO _ _ _ _ _ 2 _:=Xx5
 have Xx6':Laid kDeviceO _ _ _ _ _ 3 _:=Xx6
 have pt:=((((hpt.ext x2).ext x3).ext x4).store (y:=(⟨(rd vb va).ID,(rd vb va).Size,y2,(rd vb va).Late⟩:Device)) x5 Xx5' (Nat.le_refl _) hno).store (y:=(⟨(rd (vb.set va.toNat (⟨(rd vb va).ID,(rd vb va).Size,y2,(rd vb va).Late⟩:Device)) va).ID,(rd (vb.set va.toNat (⟨(rd vb va).ID,(rd vb va).Size,y2,(rd vb va).Late⟩:Device)) va).Size,(rd (vb.set va.toNat (⟨(rd vb va).ID,(rd vb va).Size,y2,(rd vb va).Late⟩:Device)) va).Free,y3⟩:Device)) x6 Xx6' (Nat.le_refl _) hno
 have at1:=((((a1.ext x3).ext x4).here Xx5 (d:=kDeviceR) e1 (Nat.le_of_ble_eq_true rfl)).here Xx6 (d:=kDeviceR) e1 (Nat.le_of_ble_eq_true rfl))
 have q1:=((h14.ext x4).tL x5).tL x6
 have q2:=(h18.tL x5).tL x6
 have lj:va.toNat<vb.length:=by have:=g1;omega
 have er:rd (vb.set va.toNat (⟨(rd vb va).ID,(rd vb va).Size,y2,(rd vb va).Late⟩:Device)) va=(⟨(rd vb va).ID,(rd vb va).Size,y2,(rd vb va).Late⟩:Device):=by unfold rd;rw [List.getD_eq_getElem?_getD,List.getElem?_set_self lj];rfl
 have eg:((vb.set va.toNat (⟨(rd vb va).ID,(rd vb va).Size,y2,(rd vb va).Late⟩:Device)).set va.toNat (⟨(rd (vb.set va.toNat (⟨(rd vb va).ID,(rd vb va).Size,y2,(rd vb va).Late⟩:Device)) va).ID,(rd (vb.set va.toNat (⟨(rd vb va).ID,(rd vb va).Size,y2,(rd vb va).Late⟩:Device)) va).Size,(rd (vb.set va.toNat (⟨(rd vb va).ID,(rd vb va).Size,y2,(rd vb va).Late⟩:Device)) va).Free,y3⟩:Device)).getD va.toNat default=(⟨(rd vb va).ID,(rd vb va).Size,y2,y3⟩:Device):=by rw [List.getD_eq_getElem?_getD,List.getElem?_set_self (by rw [List.length_set];exact lj),er];rfl
 have rp:kDeviceO.rep w7.heap (okL [(w.heap.size,none,some 105)]) [iv (rd vb va).ID,iv (rd vb va).Size,.slice A7 y2.length c_7,.slice A8 y3.length c_8] (((vb.set va.toNat (⟨(rd vb va).ID,(rd vb va).Size,y2,(rd vb va).Late⟩:Device)).set va.toNat (⟨(rd (vb.set va.toNat (⟨(rd vb va).ID,(rd vb va).Size,y2,(rd vb va).Late⟩:Device)) va).ID,(rd (vb.set va.toNat (⟨(rd vb va).ID,(rd vb va).Size,y2,(rd vb va).Late⟩:Device)) va).Size,(rd (vb.set va.toNat (⟨(rd vb va).ID,(rd vb va).Size,y2,(rd vb va).Late⟩:Device)) va).Free,y3⟩:Device)).getD va.toNat default):=by rw [eg];exact kDeviceO_mk (⟨(rd vb va).ID,(rd vb va).Size,y2,y3⟩:Device) (q1.sub (l':=[(w.heap.size,none,some 105)]) (li':=[(w.heap.size,none,some 105)]) ⟨(.inl ⟨by omega,trivial,rfl⟩),trivial⟩ trivial) (q2.sub (l':=[(w.heap.size,none,some 105)]) (li':=[(w.heap.size,none,some 105)]) ⟨(.inl ⟨by omega,trivial,rfl⟩),trivial⟩ trivial)
 have sh:=h6.short
 have ew:w64 (va+1)=va+1:=w64_id (by omega) (by simp only [maxLen] at sh;omega)
 exact NW.J fun a ha=>⟨n1,Nat.lt_succ_self n1,((vb.set va.toNat (⟨(rd vb va).ID,(rd vb va).Size,y2,(rd vb va).Late⟩:Device)).set va.toNat (⟨(rd (vb.set va.toNat (⟨(rd vb va).ID,(rd vb va).Size,y2,(rd vb va).Late⟩:Device)) va).ID,(rd (vb.set va.toNat (⟨(rd vb va).ID,(rd vb va).Size,y2,(rd vb va).Late⟩:Device)) va).Size,(rd (vb.set va.toNat (⟨(rd vb va).ID,(rd vb va).Size,y2,(rd vb va).Late⟩:Device)) va).Free,y3⟩:Device)),(w64 (va+1)),ha.sb,by omega,(h29.sub ⟨(.inl ⟨by omega,trivial,rfl⟩),trivial⟩ ⟨(.inl ⟨by omega,by omega,trivial⟩),⟨(.inr (.inl ⟨by omega,trivial,rfl⟩)),trivial⟩⟩),h30,(by (try simp only [List.length_set]) <;>omega),by simp only [List.length_set];exact hln,by omega,(by rw [show (w64 (va+1)).toNat=va.toNat+1 by omega];exact pt.snoc e1 rp at1),H⟩
 refine CW.exit ?_
 refine NW.exit_then (NW.exit_then (NW.exit_hit ?_))
 refine NW.next (CW.seq (CW.lw 2 rfl (pu 2 rfl (RW.done (NW.next (CW.ret ?_))))))
 obtain rfl:=Option.some.inj H
 have hno:∀b,okL [(w.heap.size,none,some 105)] b (some 40)→False:=fun b h=>by rcases h with ⟨_,_,h⟩|h;exact absurd h (show ¬((some 40:Option TypeId)=some 105) by decide);exact h.elim
 exact NW.r1 ⟨A2,c_2,rfl,vc,((h6.sub (l':=[(w.heap.size,none,some 40)]) (li':=[(0,some w.heap.size,none),(w.heap.size,none,some 105)]) ⟨(.inl ⟨by omega,trivial,rfl⟩),trivial⟩ ⟨(.inl ⟨by omega,by omega,trivial⟩),⟨(.inr (.inl ⟨by omega,trivial,rfl⟩)),trivial⟩⟩).upgrade (d:=kDeviceO) rfl hpt (by omega) hno)⟩
theorem slices_Clone_Table.calls {A1:Option Addr} {c_1:Nat} {p0:List Table} {r:(List Table)} {w:World} (H:slices_Clone_Table.f p0=some r) {n0:Nat} (hs1:Sl kTableR w.heap (okL [(0,some n0,none)]) A1 p0) (hl1:p0.length≤c_1) (hn0:n0≤w.heap.size):
 Calls Tryz.prog 85 #[.slice A1 p0.length c_1] w fun e w'=>∃(B1:Option Addr) (d1:Nat),e=.returned (.slice B1 r.length d1)∧Ext w w'∧Ow kTableR 26 w'.heap (okL [(w.heap.size,none,some 26)]) (okL [(0,some n0,none),(w.heap.size,none,some 66)]) B1 d1 r:=by
 have x0:Ext w w:=Upd.refl _ w
 unfold slices_Clone_Table.f at H
 refine cst Tryz.func85 8 ?_
 refine CW.seq (CW.lw 1 rfl (pu 1 rfl (RW.done (NW.next (CW.seq (CW.seq (CW.lw 2 rfl ?_)))))))
 refine pu 1 rfl (RW.eqNil tk ⟨rfl,rfl,rfl,rfl⟩ rfl rfl rfl rfl rfl (RW.done (NW.next ?_)))
 by_cases c1:A1.isNone=true
 obtain rfl:p0=[]:=sl_none hs1 c1
 replace H:(some ([]:List Table))=some r:=by first|exact H|simpa using H
 refine CW.cond_t rfl (c1) (CW.seq (CW.lw 1 rfl (pu 1 rfl (RW.done (NW.next (CW.ret (NW.ret_then ?_)))))))
 obtain rfl:=Option.some.inj H
 exact NW.r1 ⟨none,0,rfl,x0,Ow.nil⟩
 refine CW.cond_f rfl (bool_f c1) (CW.skip (NW.next (CW.seq (CW.lex [.X,.W,.M,.W] rfl (RW.buildSlice (cs:=[]) tk (.inl rfl) ⟨rfl,rfl,rfl,rfl⟩ rfl rfl rfl rfl rfl rfl rfl ?_)))))
 intro b1 w1 x1 l1 h2
 have sx1:=x1.size
 have ltb1:=h2.lt
 refine pu 1 rfl ?_
 have h3:=hs1.ext x1
 obtain ⟨y1,h4,h5⟩:=Sl.ch h3
 obtain ⟨g1,H⟩:=guard_some H
 refine RW.appendL (d:=kTableR) (l:=[]) (li:=[]) (ly:=[(0,some n0,none)]) (xs:=([]:List Table)) (ys:=p0) tk Ow.nil h4 h5 ⟨trivial,trivial⟩ (by simp only [maxLen];omega) g1 ⟨rfl,rfl,rfl,rfl⟩ rfl rfl rfl rfl rfl rfl rfl rfl ?_
 intro A2 c_2 w2 x2 h6
 have sx2:=x2.size
 have h7:=h6.close.sub (l':=[(w1.heap.size,some w2.heap.size,some 26)]) (li':=[(0,some n0,none)]) ⟨(.inl ⟨by omega,by omega,rfl⟩),trivial⟩ ⟨(.inl ⟨by omega,by omega,trivial⟩),trivial⟩
 refine pu 1 rfl (RW.done (NW.next (CW.ret ?_)))
 obtain rfl:=Option.some.inj H
 have h8:=Ext.turn (x0.tr x1) x2 trivial
 exact NW.r1 ⟨A2,c_2,rfl,h8,(h7.sub (l':=[(w.heap.size,none,some 26)]) (li':=[(0,some n0,none),(w.heap.size,none,some 66)]) ⟨(.inl ⟨by omega,trivial,rfl⟩),trivial⟩ ⟨(.inl ⟨by omega,by omega,trivial⟩),trivial⟩)⟩
theorem slices_Clone_Entry.calls {A1:Option Addr} {c_1:Nat} {p0:List Entry} {r:(List Entry)} {w:World} (H:slices_Clone_Entry.f p0=some r) (hs1:Sl kEntry w.heap okAll A1 p0) (hl1:p0.length≤c_1):
 Calls Tryz.prog 124 #[.slice A1 p0.length c_1] w fun e w'=>∃(B1:Option Addr) (d1:Nat),e=.returned (.slice B1 r.length d1)∧Ext w w'∧Ow kEntry 66 w'.heap (okL [(w.heap.size,none,some 66)]) (okL []) B1 d1 r:=by
 have h1:Sl kEntry w.heap (okL [(0,some w.heap.size,none)]) A1 p0:=hs1.old _ rfl
 have x0:Ext w w:=Upd.refl _ w
 unfold slices_Clone_Entry.f at H
 refine cst Tryz.func124 8 ?_
 refine CW.seq (CW.lw 1 rfl (pu 1 rfl (RW.done (NW.next (CW.seq (CW.seq (CW.lw 2 rfl ?_)))))))
 refine pu 1 rfl (RW.eqNil tk ⟨rfl,rfl,rfl,rfl⟩ rfl rfl rfl rfl rfl (RW.done (NW.next ?_)))
 by_cases c1:A1.isNone=true
 obtain rfl:p0=[]:=sl_none h1 c1
 replace H:(some ([]:List Entry))=some r:=by first|exact H|simpa using H
 refine CW.cond_t rfl (c1) (CW.seq (CW.lw 1 rfl (pu 1 rfl (RW.done (NW.next (CW.ret (NW.ret_then ?_)))))))
 obtain rfl:=Option.some.inj H
 exact NW.r1 ⟨none,0,rfl,x0,Ow.nil⟩
 refine CW.cond_f rfl (bool_f c1) (CW.skip (NW.next (CW.seq (CW.lex [.X,.W,.M,.W] rfl (RW.buildSlice (cs:=[]) tk (.inl rfl) ⟨rfl,rfl,rfl,rfl⟩ rfl rfl rfl rfl rfl rfl rfl ?_)))))
 intro b1 w1 x1 l1 h2
 have sx1:=x1.size
 have ltb1:=h2.lt
 refine pu 1 rfl ?_
 have h3:=h1.ext x1
 obtain ⟨y1,h4,h5⟩:=Sl.ch h3
 have h6:=h4.flat (h':=w1.heap) (ok':=okL []) fun e=>e
 obtain ⟨g1,H⟩:=guard_some H
 refine RW.appendL (d:=kEntry) (l:=[]) (li:=[]) (ly:=[]) (xs:=([]:List Entry)) (ys:=p0) tk Ow.nil h6 h5 trivial (by simp only [maxLen];omega) g1 ⟨rfl,rfl,rfl,rfl⟩ rfl rfl rfl rfl rfl rfl rfl rfl ?_
 intro A2 c_2 w2 x2 h7
 have sx2:=x2.size
 have h8:=h7.close.sub (l':=[(w1.heap.size,some w2.heap.size,some 66)]) (li':=[]) ⟨(.inl ⟨by omega,by omega,rfl⟩),trivial⟩ trivial
 refine pu 1 rfl (RW.done (NW.next (CW.ret ?_)))
 obtain rfl:=Option.some.inj H
 have h9:=Ext.turn (x0.tr x1) x2 trivial
 exact NW.r1 ⟨A2,c_2,rfl,h9,(h8.sub (l':=[(w.heap.size,none,some 66)]) (li':=[]) ⟨(.inl ⟨by omega,trivial,rfl⟩),trivial⟩ trivial)⟩
theorem table_Own.calls {p0:Table} {A1:Option Addr} {c_1:Nat} {r:Table} {w:World} (H:table_Own.f p0=some r) (hs1:Sl kEntry w.heap okAll A1 p0.List_) (hl1:p0.List_.length≤c_1):
 Calls Tryz.prog 86 #[.agg #[iv p0.Dev,iv p0.Size,.slice A1 p0.List_.length c_1]] w fun e w'=>∃(B1:Option Addr) (d1:Nat),e=.returned (.agg #[iv r.Dev,iv r.Size,.slice B1 r.List_.length d1])∧Ext w w'∧Ow kEntry 66 w'.heap (okL [(w.heap.size,none,some 66)]) (okL []) B1 d1 r.List_:=by
 have h1:Sl kEntry w.heap (okL [(0,some w.heap.size,none)]) A1 p0.List_:=hs1.old _ rfl
 have x0:Ext w w:=Upd.refl _ w
 unfold table_Own.f at H
 refine cst Tryz.func86 8 ?_
 refine CW.seq (CW.lex [.X,.X] rfl (RW.bx fun b1 w1 x1 sx1 l1 ltb1 h2=>?_))
 refine RW.al tk fun b2 w2 x2 sx2 l2 ltb2 h3=>?_
 refine RW.done (NW.next (CW.seq (CW.lex [.W,.L,.X,.W,.M] rfl (pu 1 rfl ?_))))
 have h4:=h2.ext x2
 refine RW.lb tk [.slice A1 p0.List_.length c_1] h4 2 ?_
 have h5:=(h1.ext x1).ext x2
 obtain ⟨y1,h6,H⟩:=bind_some H
 refine RW.cl ent124 (slices_Clone_Entry.calls h6 h5.all hl1) ?_
 rintro _ w3 ⟨A2,c_2,rfl,x3,h7⟩
 refine ⟨_,rfl,x3,?_⟩
 have sx3:=x3.size
 have h8:Ow kEntry 66 w3.heap (okL [(w2.heap.size,some w3.heap.size,some 66)]) (okL []) A2 c_2 y1:=h7.close
 refine pu 1 rfl ?_
 have h9:=h4.ext x3
 refine RW.sp tk h9 [iv p0.Dev,iv p0.Size,.slice A2 y1.length c_2] fun w4 x4 sx4 h11=>?_
 refine RW.done (NW.next (CW.seq (CW.lex [.L,.M] rfl (RW.lw tk h11 ?_))))
 have h12:=(h3.ext x3).tB x4
 refine RW.sf tk h12 fun w5 x5 sx5 h14=>?_
 refine RW.done (NW.next (CW.ret ?_))
 have h15:=(h8.tB x4 h9).tB x5 h12
 obtain rfl:=Option.some.inj H
 have h16:=((((x0.tr x1).tr x2).tr x3).tB x4).tB x5
 exact NW.ret1 rfl (resOne_cell tk (h14.at 0) rfl rfl rfl) ⟨A2,c_2,rfl,h16,(h15.sub (l':=[(w.heap.size,none,some 66)]) (li':=[]) ⟨(.inl ⟨by omega,trivial,rfl⟩),trivial⟩ trivial)⟩
theorem chain_Own.calls {k:Nat} {p0:Pool} {A1:Option Addr} {c_1:Nat} {A2:Option Addr} {c_2:Nat} {A3:Option Addr} {c_3:Nat} {r:Pool} {w:World} (H:chain_Own.f k p0=some r) (hs1:Sl kDeviceR w.heap okAll A1 p0.Devices) (hl1:p0.Devices.length≤c_1) (hs2:Sl kTableR w.heap okAll A2 p0.Tables) (hl2:p0.Tables.length≤c_2) (hs3:Sl kEntry w.heap okAll A3 p0.Job.Table.List_) (hl3:p0.Job.Table.List_.length≤c_3):
 Calls Tryz.prog 54 #[.agg #[.slice A1 p0.Devices.length c_1,.slice A2 p0.Tables.length c_2,iv p0.Job.Dev,iv p0.Job.At,iv p0.Job.Table.Dev,iv p0.Job.Table.Size,.slice A3 p0.Job.Table.List_.length c_3,iv p0.Next]] w fun e w'=>∃(m:Nat) (B1:Option Addr) (d1:Nat) (B2:Option Addr) (d2:Nat) (B3:Option Addr) (d3:Nat),e=.returned (.agg #[.slice B1 r.Devices.length d1,.slice B2 r.Tables.length d2,iv r.Job.Dev,iv r.Job.At,iv r.Job.Table.Dev,iv r.Job.Table.Size,.slice B3 r.Job.Table.List_.length d3,iv r.Next])∧Ext w w'∧w.heap.size≤m∧m≤w'.heap.size∧Ow kDeviceO 40 w'.heap (okL [(w.heap.size,none,some 40)]) (okL [(w.heap.size,none,some 105)]) B1 d1 r.Devices∧Ow kTableO 26 w'.heap (okL [(w.heap.size,none,some 26)]) (okL [(m,none,some 66)]) B2 d2 r.Tables∧Ow kEntry 66 w'.heap (okL [(w.heap.size,some m,some 66)]) (okL []) B3 d3 r.Job.Table.List_:=by
 have h1:Sl kDeviceR w.heap (okL [(0,some w.heap.size,none)]) A1 p0.Devices:=hs1.old _ rfl
 have h2:Sl kTableR w.heap (okL [(0,some w.heap.size,none)]) A2 p0.Tables:=hs2.old _ rfl
 have h3:Sl kEntry w.heap (okL [(0,some w.heap.size,none)]) A3 p0.Job.Table.List_:=hs3.old _ rfl
 have x0:Ext w w:=Upd.refl _ w
 unfold chain_Own.f at H
 refine cst Tryz.func54 36 ?_
 refine CW.seq (CW.lex [.X,.X] rfl (RW.bx fun b1 w1 x1 sx1 l1 ltb1 h4=>?_))
 refine RW.al tk fun b2 w2 x2 sx2 l2 ltb2 h5=>?_
 refine RW.done (NW.next (CW.seq (CW.ord [0,1,3,0,8,31,0,64,192,511,479,2047,4095,8191,16383,32767,65535] (ofL [(0,.W),(3,.W),(6,.W),(7,.W),(1,.L),(4,.L),(8,.L),(2,.X),(10,.W),(5,.X),(9,.X),(11,.M),(12,.W),(13,.M),(14,.W),(15,.W),(16,.M)] .nil) mixed (by kernel_rfl) ?_)))
 intro w3 x3
 have sx3:=x3.size
 refine pu 4 rfl ?_
 have h6:=(h4.ext x2).ext x3
 refine RW.lb tk [.slice A1 p0.Devices.length c_1] h6 0 ?_
 refine RW.lb tk [.slice A2 p0.Tables.length c_2] h6 1 ?_
 refine RW.lb tk [iv p0.Job.Table.Dev,iv p0.Job.Table.Size,.slice A3 p0.Job.Table.List_.length c_3] h6 4 ?_
 have h7:=((h1.ext x1).ext x2).ext x3
 obtain ⟨y1,h8,H⟩:=bind_some H
 refine RW.cl ent84 (room_Own.calls h8 h7.all hl1) ?_
 rintro _ w4 ⟨A4,c_4,rfl,x4,h9⟩
 refine ⟨_,rfl,x4,?_⟩
 have sx4:=x4.size
 have h10:Ow kDeviceO 40 w4.heap (okL [(w3.heap.size,some w4.heap.size,some 40)]) (okL [(w3.heap.size,some w4.heap.size,some 105)]) A4 c_4 y1:=h9.close
 refine pu 1 rfl ?_
 have h11:=(((h2.ext x1).ext x2).ext x3).ext x4
 obtain ⟨y2,h12,H⟩:=bind_some H
 refine RW.cl ent85 (slices_Clone_Table.calls h12 h11 hl2 (by omega)) ?_
 rintro _ w5 ⟨A5,c_5,rfl,x5,h13⟩
 refine ⟨_,rfl,x5,?_⟩
 have sx5:=x5.size
 have h14:Ow kTableR 26 w5.heap (okL [(w4.heap.size,some w5.heap.size,some 26)]) (okL [(0,some w.heap.size,none),(w4.heap.size,some w5.heap.size,some 66)]) A5 c_5 y2:=h13.close
 have h15:=((((h3.ext x1).ext x2).ext x3).ext x4).ext x5
 obtain ⟨y3,h16,H⟩:=bind_some H
 refine RW.cl ent86 (table_Own.calls h16 h15.all hl3) ?_
 rintro _ w6 ⟨A6,c_6,rfl,x6,h17⟩
 refine ⟨_,rfl,x6,?_⟩
 have sx6:=x6.size
 have h18:Ow kEntry 66 w6.heap (okL [(w5.heap.size,some w6.heap.size,some 66)]) (okL []) A6 c_6 y3.List_:=h17.close
 have h19:=((h6.ext x4).ext x5).ext x6
 refine RW.sp tk h19 [.slice A4 y1.length c_4,.slice A2 p0.Tables.length c_2,iv p0.Job.Dev,iv p0.Job.At,iv p0.Job.Table.Dev,iv p0.Job.Table.Size,.slice A3 p0.Job.Table.List_.length c_3,iv p0.Next] fun w7 x7 sx7 h21=>?_
 refine pu 1 rfl (RW.sp tk h21 [.slice A4 y1.length c_4,.slice A5 y2.length c_5,iv p0.Job.Dev,iv p0.Job.At,iv p0.Job.Table.Dev,iv p0.Job.Table.Size,.slice A3 p0.Job.Table.List_.length c_3,iv p0.Next] fun w8 x8 sx8 h23=>?_)
 refine pu 2 rfl (RW.sp tk h23 [.slice A4 y1.length c_4,.slice A5 y2.length c_5,iv p0.Job.Dev,iv p0.Job.At,iv y3.Dev,iv y3.Size,.slice A6 y3.List_.length c_6,iv p0.Next] fun w9 x9 sx9 h25=>?_)
 refine RW.done (NW.next (CW.seq (CW.seq (CW.lex [.W,.L,.W,.W] rfl (pu 1 rfl (RW.lb tk [.slice A5 y2.length c_5] h25 1 ?_))))))
 refine pu 2 rfl (RW.done (NW.next (CW.block ?_)))
 refine CW.loop (fun n1 a w10=>∃(va:Int) (vb:List Table) (vc:Option Addr) (vd:Nat),Sat 36 [(1,.pointer (some ⟨b1,0,none⟩)),(2,.pointer (some ⟨b2,0,none⟩)),(20,iv (y2.length:Int)),(21,iv va)] a∧w9.heap.size≤w10.heap.size∧Ow kTableR 26 w10.heap (okL [(w4.heap.size,none,some 26)]) (okL [(0,some w.heap.size,none),(w4.heap.size,none,some 66)]) vc vd vb∧Ow kDeviceO 40 w10.heap (okL [(w3.heap.size,some w4.heap.size,some 40)]) (okL [(w3.heap.size,some w4.heap.size,some 105)]) A4 c_4 y1∧Ow kEntry 66 w10.heap (okL [(w5.heap.size,some w6.heap.size,some 66)]) (okL []) A6 c_6 y3.List_∧Ext w w10∧Box w10.heap b1 30 [.slice A4 y1.length c_4,.slice vc vb.length vd,iv p0.Job.Dev,iv p0.Job.At,iv y3.Dev,iv y3.Size,.slice A6 y3.List_.length c_6,iv p0.Next]∧Box w10.heap b2 30 [.slice none 0 0,.slice none 0 0,iv 0,iv 0,iv 0,iv 0,.slice none 0 0,iv 0]∧vb.length=y2.length∧0≤va∧OwPart kTableO w10.heap (okL [(w9.heap.size,none,some 66)]) vc vb default va.toNat∧chain_Own.l0 p0 y1 y2 y3 n1 va vb=some r) k ?_ ?_
 have h26:=(((h14.ext x6).turnB x7 h19 ⟨.inl (nq rfl),trivial⟩ ⟨.inr (by omega),⟨.inl (nq rfl),trivial⟩⟩).turnB x8 h21 ⟨.inl (nq rfl),trivial⟩ ⟨.inr (by omega),⟨.inl (nq rfl),trivial⟩⟩).turnB x9 h23 ⟨.inl (nq rfl),trivial⟩ ⟨.inr (by omega),⟨.inl (nq rfl),trivial⟩⟩
 have h27:=((((h10.ext x5).ext x6).tB x7 h19).tB x8 h21).tB x9 h23
 have h28:=((h18.tB x7 h19).tB x8 h21).tB x9 h23
 have h29:=((((((((x0.tr x1).tr x2).tr x3).tr x4).tr x5).tr x6).tB x7).tB x8).tB x9
 have h30:=((((((h5.ext x3).ext x4).ext x5).ext x6).tB x7).tB x8).tB x9
 exact fun a ha=>⟨0,y2,A5,c_5,ha.sb,by omega,(h26.sub ⟨(.inl ⟨by omega,trivial,rfl⟩),trivial⟩ ⟨(.inl ⟨by omega,by omega,trivial⟩),⟨(.inr (.inl ⟨by omega,trivial,rfl⟩)),trivial⟩⟩),h27,h28,h29,h25,h30,rfl,Int.le_refl 0,OwPart.zero,H⟩
 rintro n1 a w10 ⟨va,vb,vc,vd,hS,hle,vj,vf,vg,vh,vi,ve,hln,hi0,hpt,H⟩ hp
 obtain _|n1:=n1
 cases H
 rw [chain_Own.l0] at H
 refine CW.go hp hS ?_
 have h31:Ow kTableR 26 w10.heap (okL [(w4.heap.size,some w10.heap.size,some 26)]) (okL [(0,some w.heap.size,none),(w4.heap.size,some w10.heap.size,some 66)]) vc vd vb:=vj.close
 have xt1:Ext w10 w10:=Upd.refl _ _
 refine CW.seq (CW.lw 1 rfl (pu 1 rfl (RW.done (NW.next (CW.seq (CW.i H (fun c1 H=>?_) fun c1 H=>?_))))))
 refine CW.skip (NW.next (CW.seq (CW.block (CW.seq (CW.lw 2 rfl (pu 2 rfl (RW.done ?_)))))))
 refine NW.next (CW.ord [0,1,0,0,8,0,56,120,248,511,1023] (ofL [(0,.W),(2,.W),(3,.W),(5,.W),(1,.L),(4,.L),(6,.W),(7,.L),(8,.X),(9,.W),(10,.M)] .nil) mixed (by kernel_rfl) ?_)
 intro w11 x10
 have sx10:=x10.size
 refine pu 4 rfl ?_
 have h32:=vi.ext x10
 refine RW.lb tk [.slice vc vb.length vd] h32 1 ?_
 refine RW.lb tk [.slice vc vb.length vd] h32 1 ?_
 obtain ⟨g1,H⟩:=guard_some H
 have h33:=h31.ext x10
 obtain ⟨ad1,A7,c_7,e1,a1,l3,h34⟩:=kTableR_ato h33 g1.1 g1.2
 refine RW.ix tk g1 e1 ?_
 refine RW.ld tk _ a1 ?_
 obtain ⟨y4,h35,H⟩:=bind_some H
 refine RW.cl ent86 (table_Own.calls h35 h34.all l3) ?_
 rintro _ w12 ⟨A8,c_8,rfl,x11,h36⟩
 refine ⟨_,rfl,x11,?_⟩
 have sx11:=x11.size
 have h37:Ow kEntry 66 w12.heap (okL [(w11.heap.size,some w12.heap.size,some 66)]) (okL []) A8 c_8 y4.List_:=h36.close
 obtain ⟨g2,H⟩:=guard_some H
 have h38:=h33.ext x11
 obtain ⟨ad2,A9,c_9,e2,a2,l4,h39⟩:=kTableR_ato h38 g2.1 g2.2
 refine RW.ix tk g2 e2 ?_
 refine RW.storeElX0 (y:=y4) (lv:=[(w11.heap.size,some w12.heap.size,some 66)]) tk h38 (j:=va.toNat) (by have:=g2;omega) default [iv y4.Dev,iv y4.Size,.slice A8 y4.List_.length c_8] (fun cs ok' hr=>by obtain ⟨qa1,qc1,rfl,ql1,q1⟩:=kTableR_open hr;exact ⟨by simp,kTableR_mk y4 h37.len (Sl.mono h37.slL fun _ _ ho=>Or.inr (okL_sub (l:=[(w11.heap.size,some w12.heap.size,some 66)]) (l':=[(w11.heap.size,some w12.heap.size,some 66)]) ⟨(.inl ⟨by omega,by omega,rfl⟩),trivial⟩ ho))⟩) ⟨⟨.inl (nq rfl),trivial⟩,trivial⟩ ⟨rfl,rfl,rfl⟩ rfl rfl e2 rfl rfl rfl rfl rfl ?_
 intro w13 x12 Xx12 h40
 have sx12:=x12.size
 have h41:=h40.close.sub (l':=[(w4.heap.size,some w10.heap.size,some 26)]) (li':=[(0,some w.heap.size,none),(w4.heap.size,some w12.heap.size,some 66)]) ⟨(.inl ⟨by omega,by omega,rfl⟩),trivial⟩ ⟨(.inl ⟨by omega,by omega,trivial⟩),⟨(.inr (.inl ⟨by omega,by omega,rfl⟩)),⟨(.inr (.inl ⟨by omega,by omega,rfl⟩)),trivial⟩⟩⟩
 have h42:=(h32.ext x11).tL x12
 have h43:Box w13.heap b1 30 [.slice A4 y1.length c_4,.slice vc (vb.set va.toNat y4).length vd,iv p0.Job.Dev,iv p0.Job.At,iv y3.Dev,iv y3.Size,.slice A6 y3.List_.length c_6,iv p0.Next]:=by simpa only [List.length_set] using h42
 refine RW.done ?_
 refine NW.norm_block (NW.next ?_)
 refine CW.lw 2 rfl (pu 2 rfl (RW.done ?_))
 have h44:=((vf.ext x10).ext x11).tL x12
 have h45:=((vg.ext x10).ext x11).tL x12
 have h46:=Ext.turn ((vh.tr x10).tr x11) x12 ⟨by omega,trivial⟩
 have h47:=((ve.ext x10).ext x11).tL x12
 have hno:∀b,okL [(w9.heap.size,none,some 66)] b (some 26)→False:=fun b h=>by rcases h with ⟨_,_,h⟩|h;exact absurd h (show ¬((some 26:Option TypeId)=some 66) by decide);exact h.elim
 have Xx12':Laid kTableO _ _ _ _ _ 0 _:=Xx12
 have pt:=((hpt.ext x10).ext x11).store (y:=y4) x12 Xx12' (Nat.le_refl _) hno
 have at1:=a2.here Xx12 (d:=kTableR) e2 (Nat.le_of_ble_eq_true rfl)
 have q1:=h37.tL x12
 have lj:va.toNat<vb.length:=by have:=g1;omega
 have eg:(vb.set va.toNat y4).getD va.toNat default=y4:=by rw [List.getD_eq_getElem?_getD,List.getElem?_set_self lj];rfl
 have rp:kTableO.rep w13.heap (okL [(w9.heap.size,none,some 66)]) [iv y4.Dev,iv y4.Size,.slice A8 y4.List_.length c_8] ((vb.set va.toNat y4).getD va.toNat default):=by rw [eg];exact kTableO_mk y4 (q1.sub (l':=[(w9.heap.size,none,some 66)]) (li':=[(w9.heap.size,none,some 66)]) ⟨(.inl ⟨by omega,trivial,rfl⟩),trivial⟩ trivial)
 have sh:=h31.short
 have ew:w64 (va+1)=va+1:=w64_id (by omega) (by simp only [maxLen] at sh;omega)
 exact NW.J fun a ha=>⟨n1,Nat.lt_succ_self n1,(w64 (va+1)),(vb.set va.toNat y4),vc,vd,ha.sb,by omega,(h41.sub ⟨(.inl ⟨by omega,trivial,rfl⟩),trivial⟩ ⟨(.inl ⟨by omega,by omega,trivial⟩),⟨(.inr (.inl ⟨by omega,trivial,rfl⟩)),trivial⟩⟩),h44,h45,h46,h43,h47,by simp only [List.length_set];exact hln,by omega,(by rw [show (w64 (va+1)).toNat=va.toNat+1 by omega];exact pt.snoc e2 rp at1),H⟩
 have hno:∀b,okL [(w9.heap.size,none,some 66)] b (some 26)→False:=fun b h=>by rcases h with ⟨_,_,h⟩|h;exact absurd h (show ¬((some 26:Option TypeId)=some 66) by decide);exact h.elim
 have hU:Ow kTableO 26 w10.heap (okL [(w.heap.size,none,some 26)]) (okL [(w9.heap.size,none,some 66)]) vc vd vb:=(h31.upgrade (d:=kTableO) rfl hpt (by omega) hno).sub ⟨(.inl ⟨by omega,trivial,rfl⟩),trivial⟩ ⟨(.inl ⟨by omega,trivial,rfl⟩),trivial⟩
 refine CW.exit ?_
 refine NW.exit_then (NW.exit_then (NW.exit_hit ?_))
 refine NW.next (CW.seq (CW.lex [.L,.M] rfl (RW.lw tk vi ?_)))
 refine RW.sf tk ve fun w14 x13 sx13 h49=>?_
 refine RW.done (NW.next (CW.ret ?_))
 have h50:=vf.tB x13 ve
 have h51:=hU.tB x13 ve
 have h52:=vg.tB x13 ve
 obtain rfl:=Option.some.inj H
 have h53:=vh.tB x13
 exact NW.ret1 rfl (resOne_cell tk (h49.at 0) rfl rfl rfl) ⟨w9.heap.size,A4,c_4,vc,vd,A6,c_6,rfl,h53,by omega,by omega,(h50.sub (l':=[(w.heap.size,none,some 40)]) (li':=[(w.heap.size,none,some 105)]) ⟨(.inl ⟨by omega,trivial,rfl⟩),trivial⟩ ⟨(.inl ⟨by omega,trivial,rfl⟩),trivial⟩),h51,(h52.sub (l':=[(w.heap.size,some w9.heap.size,some 66)]) (li':=[]) ⟨(.inl ⟨by omega,by omega,rfl⟩),trivial⟩ trivial)⟩
end Go.Proofs.YtnaajldlloglkaaGreatDoor.W
