/- Walks; printed by a program of the claim. -/
import Derived.Test.YtnaajldlloglkaaGreatDoorMoveW6
set_option linter.unusedVariables false
set_option linter.unusedSimpArgs false
set_option maxHeartbeats 20000000
set_option maxRecDepth 100000
namespace Go.Proofs.YtnaajldlloglkaaGreatDoor.W
open Go.H Go.Proofs
theorem l10_MoveExact.calls {k:Nat} {p0:Script} {A1:Option Addr} {c_1:Nat} {A2:Option Addr} {c_2:Nat} {A3:Option Addr} {c_3:Nat} {A4:Option Addr} {c_4:Nat} {r:Bool} {w:World} (H:l10_MoveExact.f k p0=some r) (hs1:Sl kDeviceR w.heap okAll A1 p0.P.Devices) (hl1:p0.P.Devices.length≤c_1) (hs2:Sl kTableR w.heap okAll A2 p0.P.Tables) (hl2:p0.P.Tables.length≤c_2) (hs3:Sl kEntry w.heap okAll A3 p0.P.Job.Table.List_) (hl3:p0.P.Job.Table.List_.length≤c_3) (hs4:Sl kActR w.heap okAll A4 p0.A) (hl4:p0.A.length≤c_4) {gT:Nat} (hG:Box w.heap 0 gT (arrI .u8 64 tz)):
 Calls Tryz.prog 48 #[.agg #[.slice A1 p0.P.Devices.length c_1,.slice A2 p0.P.Tables.length c_2,iv p0.P.Job.Dev,iv p0.P.Job.At,iv p0.P.Job.Table.Dev,iv p0.P.Job.Table.Size,.slice A3 p0.P.Job.Table.List_.length c_3,iv p0.P.Next,.slice A4 p0.A.length c_4]] w fun e w'=>e=.returned (.bool r)∧Ext w w':=by
 have h1:Sl kDeviceR w.heap (okL [(0,some w.heap.size,none)]) A1 p0.P.Devices:=hs1.old _ rfl
 have h2:Sl kTableR w.heap (okL [(0,some w.heap.size,none)]) A2 p0.P.Tables:=hs2.old _ rfl
 have h3:Sl kEntry w.heap (okL [(0,some w.heap.size,none)]) A3 p0.P.Job.Table.List_:=hs3.old _ rfl
 have h4:Sl kActR w.heap (okL [(0,some w.heap.size,none)]) A4 p0.A:=hs4.old _ rfl
 have hG0:0<w.heap.size:=hG.lt
 have x0:Ext w w:=Upd.refl _ w
 unfold l10_MoveExact.f at H
 refine cst Tryz.func48 37 ?_
 refine CW.seq (CW.lex [.X,.W] rfl (RW.bx fun b1 w1 x1 sx1 l1 ltb1 h5=>?_))
 refine pu 1 rfl (RW.done (NW.next (CW.seq (CW.seq (CW.lex [.L,.X] rfl (RW.lw tk h5 ?_))))))
 have h6:=h1.ext x1
 have h7:=h2.ext x1
 have h8:=h3.ext x1
 have h9:=h4.ext x1
 refine RW.cp H ent7 (fun _ h=>l10_Heavy.calls h h6.all hl1 h7.all hl2 h8.all hl3 h9.all hl4) fun y1 w2 x2 sx2 H=>?_
 refine RW.done (NW.next ?_)
 have j1:=(x0.tr x1).tr x2
 refine CW.i H (fun c1 H=>?_) fun c1 H=>?_
 refine CW.seq (CW.lw 1 rfl (pu 1 rfl (RW.done (NW.next (CW.ret (NW.ret_then ?_))))))
 obtain rfl:=Option.some.inj H
 exact NW.r1 ⟨rfl,j1⟩
 refine CW.skip (NW.next (CW.seq (CW.lex [.W,.L,.X,.X,.M] rfl (pu 1 rfl ?_))))
 have h12:=h5.ext x2
 refine RW.lb tk [.slice A1 p0.P.Devices.length c_1,.slice A2 p0.P.Tables.length c_2,iv p0.P.Job.Dev,iv p0.P.Job.At,iv p0.P.Job.Table.Dev,iv p0.P.Job.Table.Size,.slice A3 p0.P.Job.Table.List_.length c_3,iv p0.P.Next] h12 0 ?_
 have h13:=h6.ext x2
 have h14:=h7.ext x2
 have h15:=h8.ext x2
 obtain ⟨y2,h16,H⟩:=bind_some H
 refine RW.cl ent44 (r0_CopyPool.calls h16 h13.all hl1 h14.all hl2 h15.all hl3) ?_
 rintro _ w3 ⟨A5,c_5,A6,c_6,A7,c_7,rfl,x3,h17,h18,h19⟩
 refine ⟨_,rfl,x3,?_⟩
 have sx3:=x3.size
 have h20:Ow kDeviceO 40 w3.heap (okL [(w2.heap.size,some w3.heap.size,some 40)]) (okL [(w2.heap.size,some w3.heap.size,some 105)]) A5 c_5 y2.Devices:=h17.close
 have h21:Ow kTableO 26 w3.heap (okL [(w2.heap.size,some w3.heap.size,some 26)]) (okL [(w2.heap.size,some w3.heap.size,some 66)]) A6 c_6 y2.Tables:=h18.close
 have h22:Ow kEntry 66 w3.heap (okL [(w2.heap.size,some w3.heap.size,some 66)]) (okL []) A7 c_7 y2.Job.Table.List_:=h19.close
 refine RW.al tk fun b2 w4 x4 sx4 l2 ltb2 h23=>?_
 refine RW.sf tk h23 fun w5 x5 sx5 h25=>?_
 refine RW.done (NW.next (CW.seq (CW.seq (CW.lw 1 rfl (pu 1 rfl (RW.done (NW.next ?_)))))))
 refine CW.block ?_
 refine CW.loop (fun n1 a w6=>∃(vb:Int) (vi:List Device) (zp:Option Addr) (zq:Nat) (vj:List Table) (zr:Option Addr) (zs:Nat) (vn:Int) (vo:Int) (vp:Int) (vq:Int) (vk:List Entry) (zt:Option Addr) (zu:Nat) (vr:Int),Sat 37 [(1,.pointer (some ⟨b1,0,none⟩)),(3,.pointer (some ⟨b2,0,none⟩)),(4,iv vb)] a∧w5.heap.size≤w6.heap.size∧Ow kDeviceO 40 w6.heap (okL [(w2.heap.size,none,some 40)]) (okL [(w2.heap.size,none,some 105)]) zp zq vi∧Ow kTableO 26 w6.heap (okL [(w2.heap.size,none,some 26)]) (okL [(w2.heap.size,none,some 66)]) zr zs vj∧Ow kEntry 66 w6.heap (okL [(w2.heap.size,none,some 66)]) (okL []) zt zu vk∧Ext w w6∧Box w6.heap b1 33 [.slice A1 p0.P.Devices.length c_1,.slice A2 p0.P.Tables.length c_2,iv p0.P.Job.Dev,iv p0.P.Job.At,iv p0.P.Job.Table.Dev,iv p0.P.Job.Table.Size,.slice A3 p0.P.Job.Table.List_.length c_3,iv p0.P.Next,.slice A4 p0.A.length c_4]∧Box w6.heap b2 30 [.slice zp vi.length zq,.slice zr vj.length zs,iv vn,iv vo,iv vp,iv vq,.slice zt vk.length zu,iv vr]∧l10_MoveExact.l0 p0 k n1 vb vi vj vn vo vp vq vk vr=some r) k ?_ ?_
 have h26:=(h20.ext x4).tB x5 h23
 have h27:=(h21.ext x4).tB x5 h23
 have h28:=(h22.ext x4).tB x5 h23
 have h29:=((j1.tr x3).tr x4).tB x5
 have h30:=((h12.ext x3).ext x4).tB x5
 exact fun a ha=>⟨0,y2.Devices,A5,c_5,y2.Tables,A6,c_6,y2.Job.Dev,y2.Job.At,y2.Job.Table.Dev,y2.Job.Table.Size,y2.Job.Table.List_,A7,c_7,y2.Next,ha.sb,by omega,(h26.sb),(h27.sb),(h28.sb),h29,h30,h25,H⟩
 rintro n1 a w6 ⟨vb,vi,zp,zq,vj,zr,zs,vn,vo,vp,vq,vk,zt,zu,vr,hS,hle,YN,YO,YP,ZP,Zt,QA,H⟩ hp
 obtain _|n1:=n1
 cases H
 rw [l10_MoveExact.l0] at H
 refine CW.go hp hS ?_
 have h31:Ow kDeviceO 40 w6.heap (okL [(w2.heap.size,some w6.heap.size,some 40)]) (okL [(w2.heap.size,some w6.heap.size,some 105)]) zp zq vi:=YN.close
 have h32:Ow kTableO 26 w6.heap (okL [(w2.heap.size,some w6.heap.size,some 26)]) (okL [(w2.heap.size,some w6.heap.size,some 66)]) zr zs vj:=YO.close
 have h33:Ow kEntry 66 w6.heap (okL [(w2.heap.size,some w6.heap.size,some 66)]) (okL []) zt zu vk:=YP.close
 have xt1:Ext w6 w6:=Upd.refl _ _
 refine CW.seq ?_
 refine CW.seqJ (fun a w7=>∃(Zu:Bool),Sat 37 [(1,.pointer (some ⟨b1,0,none⟩)),(3,.pointer (some ⟨b2,0,none⟩)),(4,iv vb),(20,.bool Zu)] a∧w6.heap.size≤w7.heap.size∧Ext w w7∧Ext w6 w7∧l10_MoveExact.j0 p0 k vb vi vj vn vo vp vq vk vr (l10_MoveExact.l0 p0 k n1) Zu=some r) ?_ ?_
 refine CW.lex [.W,.W,.L,.W,.W,.W,.W,.W,.W] rfl (pu 2 rfl (RW.lb tk [.slice A4 p0.A.length c_4] Zt 8 ?_))
 refine pu 3 rfl (RW.i 17 H (fun c2 H=>?_) fun c2 H=>?_)
 refine pu 3 rfl (RW.done ?_)
 exact NW.J fun a ha=>⟨(decide (vb<12)),ha.sb,by omega,ZP,xt1,H⟩
 refine pu 3 rfl (RW.done ?_)
 exact NW.J fun a ha=>⟨false,ha.sb,by omega,ZP,xt1,H⟩
 rintro a w7 ⟨Zu,hS,hle,zN,vR,H⟩ hp
 unfold l10_MoveExact.j0 at H
 refine CW.go hp hS (CW.i H (fun c3 H=>?_) fun c3 H=>?_)
 refine CW.skip (NW.next (CW.seq (CW.block ?_)))
 refine CW.seqJ (fun a w8=>∃(Zv:Bool) (Zi:Nat) (Qw:List Device) (QB:Option Addr) (QC:Nat) (Qx:List Table) (QD:Option Addr) (QE:Nat) (Zj:Int) (Zk:Int) (Zl:Int) (Zm:Int) (Qy:List Entry) (QF:Option Addr) (QG:Nat) (Zn:Int),Sat 37 [(1,.pointer (some ⟨b1,0,none⟩)),(3,.pointer (some ⟨b2,0,none⟩)),(4,iv vb),(5,.pointer (some ⟨Zi,0,none⟩)),(6,.bool Zv)] a∧w7.heap.size≤w8.heap.size∧Ow kDeviceO 40 w8.heap (okL [(w2.heap.size,some w6.heap.size,some 40),(w7.heap.size,none,some 40)]) (okL [(w2.heap.size,none,some 105)]) QB QC Qw∧Ow kTableO 26 w8.heap (okL [(w2.heap.size,some w6.heap.size,some 26),(w7.heap.size,none,some 26)]) (okL [(w2.heap.size,none,some 66)]) QD QE Qx∧Ow kEntry 66 w8.heap (okL [(w2.heap.size,some w6.heap.size,some 66),(w7.heap.size,none,some 66)]) (okL []) QF QG Qy∧Ext w w8∧Ext w6 w8∧Box w8.heap Zi 30 [.slice QB Qw.length QC,.slice QD Qx.length QE,iv Zj,iv Zk,iv Zl,iv Zm,.slice QF Qy.length QG,iv Zn]∧w7.heap.size≤Zi∧l10_MoveExact.j1 vb (l10_MoveExact.l0 p0 k n1) Zv Qw Qx Zj Zk Zl Zm Qy Zn=some r) ?_ ?_
 refine CW.ord [0,0,2,0,14,30,63,127,255,255,0,1535,4095] (ofL [(1,.W),(3,.W),(0,.L),(2,.L),(4,.W),(5,.L)] (.two 6 .M (ofL [(7,.W),(8,.W),(9,.W),(10,.X),(11,.M),(12,.W)] .nil) 10 .X (ofL [(6,.M),(7,.W),(8,.W),(9,.W),(11,.M),(12,.W)] .nil))) mixed (by kernel_rfl) ?_
 intro w9 x6
 have sx6:=x6.size
 refine pu 2 rfl ?_
 have h34:=(QA.ext vR).ext x6
 refine RW.lw tk h34 ?_
 have h35:=(Zt.ext vR).ext x6
 refine RW.lb tk [.slice A4 p0.A.length c_4] h35 8 ?_
 obtain ⟨g1,H⟩:=guard_some H
 have h36:=(h4.ext zN).ext x6
 obtain ⟨ad1,A8,c_8,e1,a1,l3,h37⟩:=kActR_at h36 g1.1 g1.2
 refine RW.ix tk g1 e1 ?_
 refine RW.ld tk _ a1 ?_
 refine RW.two ?_ ?_
 refine RW.callFM (R:=fun e w10=>∃(zl:List Device) (zx:Option Addr) (zy:Nat) (zm:List Table) (zz:Option Addr) (zA:Nat) (zO:Int) (zP:Int) (zQ:Int) (zR:Int) (zn:List Entry) (zB:Option Addr) (zC:Nat) (zS:Int) (zT:Bool),e=.returned (.tuple #[.agg #[.slice zx zl.length zy,.slice zz zm.length zA,iv zO,iv zP,iv zQ,iv zR,.slice zB zn.length zC,iv zS],.bool zT])∧w9.heap.size≤w10.heap.size∧Ow kDeviceO 40 w10.heap (okL [(w2.heap.size,some w6.heap.size,some 40),(w9.heap.size,none,some 40)]) (okL [(w2.heap.size,none,some 105)]) zx zy zl∧Ow kTableO 26 w10.heap (okL [(w2.heap.size,some w6.heap.size,some 26),(w9.heap.size,none,some 26)]) (okL [(w2.heap.size,none,some 66)]) zz zA zm∧Ow kEntry 66 w10.heap (okL [(w2.heap.size,some w6.heap.size,some 66),(w9.heap.size,none,some 66)]) (okL []) zB zC zn∧Ext w w10∧Ext w6 w10∧l10_MoveExact.j2 vb (l10_MoveExact.l0 p0 k n1) zl zm zO zP zQ zR zn zS zT=some r) ent75 ⟨rfl,rfl,rfl,rfl⟩ rfl rfl rfl ?_ ?_
 refine cst Tryz.func75 151 ?_
 refine CW.seq (CW.lex [.X,.X,.X,.W] rfl (RW.bx fun b3 w11 x7 sx7 l4 ltb3 h38=>?_))
 refine RW.bx fun b4 w12 x8 sx8 l5 ltb4 h39=>?_
 refine RW.al tk fun b5 w13 x9 sx9 l6 ltb5 h40=>?_
 refine pu 1 rfl (RW.done (NW.next ?_))
 refine CW.seqJ (fun a w14=>∃(v9:List Ptr) (zD:Option Addr) (zE:Nat) (zo:Nat) (vv:List Device) (zU:Option Addr) (zV:Nat) (vw:List Table) (zW:Option Addr) (zX:Nat) (vH:Int) (vI:Int) (vJ:Int) (vK:Int) (vx:List Entry) (zY:Option Addr) (zZ:Nat) (vL:Int),Sat 151 [(2,.pointer (some ⟨b3,0,none⟩)),(3,.pointer (some ⟨b4,0,none⟩)),(4,.pointer (some ⟨b5,0,none⟩)),(6,.pointer (some ⟨zo,0,none⟩)),(7,.slice zD v9.length zE)] a∧w13.heap.size≤w14.heap.size∧Ow kPtr 43 w14.heap (okL [(w13.heap.size,none,some 43)]) (okL []) zD zE v9∧Sl kPtr w14.heap (okL [(0,some w.heap.size,none)]) A8 ((rd p0.A vb).Q)∧Ow kDeviceO 40 w14.heap (okL [(w13.heap.size,none,some 40)]) (okL [(w13.heap.size,none,some 105)]) zU zV vv∧Ow kTableO 26 w14.heap (okL [(w13.heap.size,none,some 26)]) (okL [(w13.heap.size,none,some 66)]) zW zX vw∧Ow kEntry 66 w14.heap (okL [(w13.heap.size,none,some 66)]) (okL []) zY zZ vx∧Ext w w14∧Ext w6 w14∧Box w14.heap b3 30 [.slice zp vi.length zq,.slice zr vj.length zs,iv vn,iv vo,iv vp,iv vq,.slice zt vk.length zu,iv vr]∧Box w14.heap b4 60 [iv ((rd p0.A vb).Do),iv ((rd p0.A vb).N),.slice A8 ((rd p0.A vb).Q).length c_8]∧Box w14.heap b5 30 [.slice none 0 0,.slice none 0 0,iv 0,iv 0,iv 0,iv 0,.slice none 0 0,iv 0]∧Box w14.heap zo 30 [.slice zU vv.length zV,.slice zW vw.length zX,iv vH,iv vI,iv vJ,iv vK,.slice zY vx.length zZ,iv vL]∧w13.heap.size≤zo∧l10_MoveExact.j3 p0 k vb vi vj vn vo vp vq vk vr (l10_MoveExact.l0 p0 k n1) v9 vv vw vH vI vJ vK vx vL=some r) ?_ ?_
 refine CW.ord [0,1,0,4,15,0,63,127] (ofL [(2,.W),(0,.L),(3,.L)] (.two 1 .X (ofL [] (.two 4 .X (ofL [(5,.X),(6,.M),(7,.W)] .nil) 5 .X (ofL [(4,.X),(6,.M),(7,.W)] .nil))) 5 .X (ofL [(1,.X),(4,.X),(6,.M),(7,.W)] .nil))) mixed (by kernel_rfl) ?_
 intro w15 x10
 have sx10:=x10.size
 refine pu 1 rfl ?_
 have h41:=((h38.ext x8).ext x9).ext x10
 refine RW.lw tk h41 ?_
 have h42:=(h39.ext x9).ext x10
 refine RW.lb tk [.slice A8 ((rd p0.A vb).Q).length c_8] h42 2 ?_
 refine RW.two ?_ ?_
 have h43:=(((((h31.ext vR).ext x6).ext x7).ext x8).ext x9).ext x10
 have h44:=(((((h32.ext vR).ext x6).ext x7).ext x8).ext x9).ext x10
 have h45:=(((((h33.ext vR).ext x6).ext x7).ext x8).ext x9).ext x10
 obtain ⟨y3,h46,H⟩:=bind_some H
 refine RW.cl ent44 (r0_CopyPool.calls h46 (h43.all.to kDevice_ro rfl) h43.len (h44.all.to kTable_ro rfl) h44.len h45.all h45.len) ?_
 rintro _ w16 ⟨A9,c_9,A10,c_10,A11,c_11,rfl,x11,h47,h48,h49⟩
 refine ⟨_,rfl,x11,?_⟩
 have sx11:=x11.size
 have h50:Ow kDeviceO 40 w16.heap (okL [(w15.heap.size,some w16.heap.size,some 40)]) (okL [(w15.heap.size,some w16.heap.size,some 105)]) A9 c_9 y3.Devices:=h47.close
 have h51:Ow kTableO 26 w16.heap (okL [(w15.heap.size,some w16.heap.size,some 26)]) (okL [(w15.heap.size,some w16.heap.size,some 66)]) A10 c_10 y3.Tables:=h48.close
 have h52:Ow kEntry 66 w16.heap (okL [(w15.heap.size,some w16.heap.size,some 66)]) (okL []) A11 c_11 y3.Job.Table.List_:=h49.close
 refine RW.two ?_ ?_
 have h53:=((((h37.ext x7).ext x8).ext x9).ext x10).ext x11
 obtain ⟨y4,h54,H⟩:=bind_some H
 refine RW.cl ent100 (r0_CopyPtrs.calls h54 h53.all l3) ?_
 rintro _ w17 ⟨A12,c_12,rfl,x12,h55⟩
 refine ⟨_,rfl,x12,?_⟩
 have sx12:=x12.size
 have h56:Ow kPtr 43 w17.heap (okL [(w16.heap.size,some w17.heap.size,some 43)]) (okL []) A12 c_12 y4:=h55.close
 refine RW.al tk fun b6 w18 x13 sx13 l7 ltb6 h57=>?_
 refine RW.sf tk h57 fun w19 x14 sx14 h59=>?_
 refine pu 1 rfl (RW.done ?_)
 have h60:=(h56.ext x13).tB x14 h57
 have h61:=((h53.ext x12).ext x13).turnB x14 h57 ⟨.inr (by omega),trivial⟩
 have h62:=((h50.ext x12).ext x13).tB x14 h57
 have h63:=((h51.ext x12).ext x13).tB x14 h57
 have h64:=((h52.ext x12).ext x13).tB x14 h57
 have h65:=((((((((zN.tr x6).tr x7).tr x8).tr x9).tr x10).tr x11).tr x12).tr x13).tB x14
 have h66:=((((((((vR.tr x6).tr x7).tr x8).tr x9).tr x10).tr x11).tr x12).tr x13).tB x14
 have h67:=(((h41.ext x11).ext x12).ext x13).tB x14
 have h68:=(((h42.ext x11).ext x12).ext x13).tB x14
 have h69:=((((h40.ext x10).ext x11).ext x12).ext x13).tB x14
 exact NW.J fun a ha=>⟨y4,A12,c_12,b6,y3.Devices,A9,c_9,y3.Tables,A10,c_10,y3.Job.Dev,y3.Job.At,y3.Job.Table.Dev,y3.Job.Table.Size,y3.Job.Table.List_,A11,c_11,y3.Next,ha.sb,by omega,(h60.sb),h61,(h62.sb),(h63.sb),(h64.sb),h65,h66,h67,h68,h69,h59,by omega,H⟩
 refine RW.al tk fun b6 w17 x12 sx12 l7 ltb6 h5301=>?_
 have h5401:=(((((h37.ext x7).ext x8).ext x9).ext x10).ext x11).ext x12
 obtain ⟨y4,h5501,H⟩:=bind_some H
 refine RW.cl ent100 (r0_CopyPtrs.calls h5501 h5401.all l3) ?_
 rintro _ w18 ⟨A12,c_12,rfl,x13,h5601⟩
 refine ⟨_,rfl,x13,?_⟩
 have sx13:=x13.size
 have h5701:Ow kPtr 43 w18.heap (okL [(w17.heap.size,some w18.heap.size,some 43)]) (okL []) A12 c_12 y4:=h5601.close
 have h5801:=h5301.ext x13
 refine RW.sf tk h5801 fun w19 x14 sx14 h6001=>?_
 refine pu 1 rfl (RW.done ?_)
 have h6101:=h5701.tB x14 h5801
 have h6201:=(h5401.ext x13).turnB x14 h5801 ⟨.inr (by omega),trivial⟩
 have h6301:=((h50.ext x12).ext x13).tB x14 h5801
 have h6401:=((h51.ext x12).ext x13).tB x14 h5801
 have h6501:=((h52.ext x12).ext x13).tB x14 h5801
 have h6601:=((((((((zN.tr x6).tr x7).tr x8).tr x9).tr x10).tr x11).tr x12).tr x13).tB x14
 have h6701:=((((((((vR.tr x6).tr x7).tr x8).tr x9).tr x10).tr x11).tr x12).tr x13).tB x14
 have h6801:=(((h41.ext x11).ext x12).ext x13).tB x14
 have h6901:=(((h42.ext x11).ext x12).ext x13).tB x14
 have h70:=((((h40.ext x10).ext x11).ext x12).ext x13).tB x14
 exact NW.J fun a ha=>⟨y4,A12,c_12,b6,y3.Devices,A9,c_9,y3.Tables,A10,c_10,y3.Job.Dev,y3.Job.At,y3.Job.Table.Dev,y3.Job.Table.Size,y3.Job.Table.List_,A11,c_11,y3.Next,ha.sb,by omega,(h6101.sb),h6201,(h6301.sb),(h6401.sb),(h6501.sb),h6601,h6701,h6801,h6901,h70,h6001,by omega,H⟩
 refine RW.al tk fun b6 w16 x11 sx11 l7 ltb6 h4301=>?_
 have h4401:=((((((h31.ext vR).ext x6).ext x7).ext x8).ext x9).ext x10).ext x11
 have h4501:=((((((h32.ext vR).ext x6).ext x7).ext x8).ext x9).ext x10).ext x11
 have h4601:=((((((h33.ext vR).ext x6).ext x7).ext x8).ext x9).ext x10).ext x11
 obtain ⟨y3,h4701,H⟩:=bind_some H
 refine RW.cl ent44 (r0_CopyPool.calls h4701 (h4401.all.to kDevice_ro rfl) h4401.len (h4501.all.to kTable_ro rfl) h4501.len h4601.all h4601.len) ?_
 rintro _ w17 ⟨A9,c_9,A10,c_10,A11,c_11,rfl,x12,h4801,h4901,h5001⟩
 refine ⟨_,rfl,x12,?_⟩
 have sx12:=x12.size
 have h5101:Ow kDeviceO 40 w17.heap (okL [(w16.heap.size,some w17.heap.size,some 40)]) (okL [(w16.heap.size,some w17.heap.size,some 105)]) A9 c_9 y3.Devices:=h4801.close
 have h5201:Ow kTableO 26 w17.heap (okL [(w16.heap.size,some w17.heap.size,some 26)]) (okL [(w16.heap.size,some w17.heap.size,some 66)]) A10 c_10 y3.Tables:=h4901.close
 have h5302:Ow kEntry 66 w17.heap (okL [(w16.heap.size,some w17.heap.size,some 66)]) (okL []) A11 c_11 y3.Job.Table.List_:=h5001.close
 have h5402:=(((((h37.ext x7).ext x8).ext x9).ext x10).ext x11).ext x12
 obtain ⟨y4,h5502,H⟩:=bind_some H
 refine RW.cl ent100 (r0_CopyPtrs.calls h5502 h5402.all l3) ?_
 rintro _ w18 ⟨A12,c_12,rfl,x13,h5602⟩
 refine ⟨_,rfl,x13,?_⟩
 have sx13:=x13.size
 have h5702:Ow kPtr 43 w18.heap (okL [(w17.heap.size,some w18.heap.size,some 43)]) (okL []) A12 c_12 y4:=h5602.close
 have h5802:=(h4301.ext x12).ext x13
 refine RW.sf tk h5802 fun w19 x14 sx14 h6002=>?_
 refine pu 1 rfl (RW.done ?_)
 have h6102:=h5702.tB x14 h5802
 have h6202:=(h5402.ext x13).turnB x14 h5802 ⟨.inr (by omega),trivial⟩
 have h6302:=(h5101.ext x13).tB x14 h5802
 have h6402:=(h5201.ext x13).tB x14 h5802
 have h6502:=(h5302.ext x13).tB x14 h5802
 have h6602:=((((((((zN.tr x6).tr x7).tr x8).tr x9).tr x10).tr x11).tr x12).tr x13).tB x14
 have h6702:=((((((((vR.tr x6).tr x7).tr x8).tr x9).tr x10).tr x11).tr x12).tr x13).tB x14
 have h6802:=(((h41.ext x11).ext x12).ext x13).tB x14
 have h6902:=(((h42.ext x11).ext x12).ext x13).tB x14
 have h7001:=((((h40.ext x10).ext x11).ext x12).ext x13).tB x14
 exact NW.J fun a ha=>⟨y4,A12,c_12,b6,y3.Devices,A9,c_9,y3.Tables,A10,c_10,y3.Job.Dev,y3.Job.At,y3.Job.Table.Dev,y3.Job.Table.Size,y3.Job.Table.List_,A11,c_11,y3.Next,ha.sb,by omega,(h6102.sb),h6202,(h6302.sb),(h6402.sb),(h6502.sb),h6602,h6702,h6802,h6902,h7001,h6002,by omega,H⟩
 rintro a w14 ⟨v9,zD,zE,zo,vv,zU,zV,vw,zW,zX,vH,vI,vJ,vK,vx,zY,zZ,vL,hS,hle,Zw,Zx,Zy,Zz,ZA,QH,vP,z0,z1,Qa,z2,YQ,H⟩ hp
 have YR:=z2.lt
 unfold l10_MoveExact.j3 at H
 refine CW.go hp hS ?_
 have h71:Ow kPtr 43 w14.heap (okL [(w13.heap.size,some w14.heap.size,some 43)]) (okL []) zD zE v9:=Zw.close
 have h72:Ow kDeviceO 40 w14.heap (okL [(w13.heap.size,some w14.heap.size,some 40)]) (okL [(w13.heap.size,some w14.heap.size,some 105)]) zU zV vv:=Zy.close
 have h73:Ow kTableO 26 w14.heap (okL [(w13.heap.size,some w14.heap.size,some 26)]) (okL [(w13.heap.size,some w14.heap.size,some 66)]) zW zX vw:=Zz.close
 have h74:Ow kEntry 66 w14.heap (okL [(w13.heap.size,some w14.heap.size,some 66)]) (okL []) zY zZ vx:=ZA.close
 have xt2:Ext w14 w14:=Upd.refl _ _
 refine CW.seq (CW.lex [.L,.X,.W] rfl (RW.lw tk z0 ?_))
 refine RW.cp H ent8 (fun _ h=>r9_Pool.calls h ((h31.ext vP).all.to kDevice_ro rfl) (h31.ext vP).len ((h32.ext vP).all.to kTable_ro rfl) (h32.ext vP).len (h33.ext vP).all (h33.ext vP).len) fun y5 w20 x15 sx15 H=>?_
 refine pu 1 rfl (RW.done (NW.next (CW.seq (CW.lw 1 rfl (pu 1 rfl (RW.done (NW.next ?_)))))))
 refine CW.seq (CW.lex [.X,.X] rfl (RW.al tk fun b7 w21 x16 sx16 l8 ltb7 h76=>?_))
 refine RW.al tk fun b8 w22 x17 sx17 l9 ltb8 h77=>?_
 refine RW.done (NW.next (CW.seq (CW.lw 2 rfl (pu 2 rfl (RW.done (NW.next (CW.seq ?_)))))))
 refine CW.lw 1 rfl (pu 1 rfl (RW.done (NW.next ?_)))
 refine CW.seqJ (fun a w23=>∃(vM:Int) (z3:List Pair) (Qg:Option Addr) (Qh:Nat) (zF:List Pair) (z4:Option Addr) (z5:Nat) (Qi:Int) (zj:List Device) (za:Option Addr) (zb:Nat) (zc:List Table) (zH:Option Addr) (zI:Nat) (z6:Int) (z7:Int) (zv:Int) (zw:Int) (vN:List Entry) (v7:Option Addr) (v8:Nat) (z8:Int) (ve:List Device) (vl:Option Addr) (vm:Nat) (vd:List Table) (vy:Option Addr) (vz:Nat) (vA:Int) (vB:Int) (vs:Int) (vt:Int) (vc:List Entry) (vf:Option Addr) (vg:Nat) (vC:Int) (va:Nat),Sat 151 [(2,.pointer (some ⟨b3,0,none⟩)),(3,.pointer (some ⟨b4,0,none⟩)),(4,.pointer (some ⟨b5,0,none⟩)),(6,.pointer (some ⟨zo,0,none⟩)),(7,.slice zD v9.length zE),(9,iv vM),(10,.pointer (some ⟨b7,0,none⟩)),(11,.pointer (some ⟨b8,0,none⟩)),(12,.slice Qg z3.length Qh),(13,.slice z4 zF.length z5),(14,iv Qi)] a∧w22.heap.size≤w23.heap.size∧Ow kPair 124 w23.heap (okL [(w22.heap.size,some va,some 124)]) (okL []) Qg Qh z3∧Ow kPair 124 w23.heap (okL [(va,none,some 124)]) (okL []) z4 z5 zF∧Ow kDeviceO 40 w23.heap (okL [(w22.heap.size,some va,some 40)]) (okL [(w22.heap.size,some va,some 105)]) za zb zj∧Ow kTableO 26 w23.heap (okL [(w22.heap.size,some va,some 26)]) (okL [(w22.heap.size,some va,some 66)]) zH zI zc∧Ow kEntry 66 w23.heap (okL [(w22.heap.size,some va,some 66)]) (okL []) v7 v8 vN∧Ow kDeviceO 40 w23.heap (okL [(va,none,some 40)]) (okL [(va,none,some 105)]) vl vm ve∧Ow kTableO 26 w23.heap (okL [(va,none,some 26)]) (okL [(va,none,some 66)]) vy vz vd∧Ow kEntry 66 w23.heap (okL [(va,none,some 66)]) (okL []) vf vg vc∧Ext w w23∧Ext w6 w23∧Ext w14 w23∧Box w23.heap b7 30 [.slice za zj.length zb,.slice zH zc.length zI,iv z6,iv z7,iv zv,iv zw,.slice v7 vN.length v8,iv z8]∧Box w23.heap b8 30 [.slice vl ve.length vm,.slice vy vd.length vz,iv vA,iv vB,iv vs,iv vt,.slice vf vc.length vg,iv vC]∧w22.heap.size≤va∧va≤w23.heap.size∧l10_MoveExact.j4 p0 k vb vi vj vn vo vp vq vk vr v9 vv vw vH vI vJ vK vx vL (l10_MoveExact.l0 p0 k n1) vM z3 zF Qi zj zc z6 z7 zv zw vN z8 ve vd vA vB vs vt vc vC=some r) ?_ ?_
 refine CW.seq (CW.lex [.W,.L,.X] rfl (pu 1 rfl ?_))
 have h78:=((z1.ext x15).ext x16).ext x17
 refine RW.lb tk [iv ((rd p0.A vb).Do)] h78 0 ?_
 refine RW.cp H ent101 (fun _ h=>l0_Within.calls h) fun y6 w24 x18 sx18 H=>?_
 refine RW.done (NW.next (CW.block (CW.seq (CW.lw 2 rfl (pu 2 rfl (RW.done (NW.next ?_)))))))
 have j9:=(((z2.ext x15).ext x16).ext x17).ext x18
 have j10:=h78.ext x18
 refine CW.i H (fun c4 H=>?_) fun c4 H=>?_
 refine CW.seq (CW.lex [.L,.W,.L,.X,.W,.W,.W,.M,.W] rfl (RW.lw tk j9 ?_))
 refine pu 1 rfl (RW.lb tk [iv ((rd p0.A vb).N)] j10 1 ?_)
 cases H
 refine CW.seq (CW.lw 2 rfl (pu 2 rfl (RW.done (NW.next ?_))))
 have j11:=(((h72.ext x15).ext x16).ext x17).ext x18
 have j12:=(((h73.ext x15).ext x16).ext x17).ext x18
 have j13:=(((h74.ext x15).ext x16).ext x17).ext x18
 have j14:=((((hG.ext QH).ext x15).ext x16).ext x17).ext x18
 have j15:=(h76.ext x17).ext x18
 have j16:=(((z0.ext x15).ext x16).ext x17).ext x18
 have j17:=((((h31.ext vP).ext x15).ext x16).ext x17).ext x18
 have j18:=((((h32.ext vP).ext x15).ext x16).ext x17).ext x18
 have j19:=((((h33.ext vP).ext x15).ext x16).ext x17).ext x18
 have j20:=h77.ext x18
 have j21:=(((QH.tr x15).tr x16).tr x17).tr x18
 have j22:=(((vP.tr x15).tr x16).tr x17).tr x18
 have j23:=(((xt2.tr x15).tr x16).tr x17).tr x18
 refine CW.i H (fun c5 H=>?_) fun c5 H=>?_
 refine CW.seq (CW.lex [.L,.W,.L,.X,.W,.W,.W,.M,.W] rfl (RW.lw tk j9 ?_))
 refine pu 1 rfl (RW.lb tk [iv ((rd p0.A vb).N)] j10 1 ?_)
 obtain ⟨y7,h88,H⟩:=bind_some H
 refine RW.cl ent11 (move_Remove.calls h88 (j11.all.to kDevice_ro rfl) j11.len (j12.all.to kTable_ro rfl) j12.len j13.all j13.len j14) ?_
 rintro _ w25 ⟨A13,c_13,A14,c_14,A15,c_15,rfl,x19,h89,h90,h91⟩
 refine ⟨_,rfl,x19,?_⟩
 have sx19:=x19.size
 have h92:Ow kDeviceO 40 w25.heap (okL [(w24.heap.size,some w25.heap.size,some 40)]) (okL [(w24.heap.size,some w25.heap.size,some 105)]) A13 c_13 y7.1.Devices:=h89.close
 have h93:Ow kTableO 26 w25.heap (okL [(w24.heap.size,some w25.heap.size,some 26)]) (okL [(w24.heap.size,some w25.heap.size,some 66)]) A14 c_14 y7.1.Tables:=h90.close
 have h94:Ow kEntry 66 w25.heap (okL [(w24.heap.size,some w25.heap.size,some 66)]) (okL []) A15 c_15 y7.1.Job.Table.List_:=h91.close
 refine pu 3 rfl ?_
 have h95:=j15.ext x19
 refine RW.sf tk h95 fun w26 x20 sx20 h97=>?_
 refine pu 1 rfl (RW.done (NW.next (CW.seq (CW.lw 1 rfl (pu 1 rfl (RW.done (NW.next ?_)))))))
 have j32:=(j20.ext x19).tB x20
 have j33:=h92.tB x20 h95
 have j34:=h93.tB x20 h95
 have j35:=h94.tB x20 h95
 have j36:=(j21.tr x19).tB x20
 have j37:=(j22.tr x19).tB x20
 have j38:=(j23.tr x19).tB x20
 refine CW.i H (fun c6 H=>?_) fun c6 H=>?_
 refine CW.lex [.L,.W,.L,.X,.W,.W,.W,.M,.W] rfl ?_
 have h98:=(j16.ext x19).tB x20
 refine RW.lw tk h98 ?_
 refine pu 1 rfl ?_
 have h99:=(j10.ext x19).tB x20
 refine RW.lb tk [iv ((rd p0.A vb).N)] h99 1 ?_
 have h100:=(j17.ext x19).tB x20 h95
 have h101:=(j18.ext x19).tB x20 h95
 have h102:=(j19.ext x19).tB x20 h95
 obtain ⟨y8,h103,H⟩:=bind_some H
 refine RW.cl ent104 (r9_Remove.calls h103 (h100.all.to kDevice_ro rfl) h100.len (h101.all.to kTable_ro rfl) h101.len h102.all h102.len) ?_
 rintro _ w27 ⟨A16,c_16,A17,c_17,A18,c_18,rfl,x21,h104,h105,h106⟩
 refine ⟨_,rfl,x21,?_⟩
 have sx21:=x21.size
 have h107:Ow kDeviceO 40 w27.heap (okL [(w26.heap.size,some w27.heap.size,some 40)]) (okL [(w26.heap.size,some w27.heap.size,some 105)]) A16 c_16 y8.1.Devices:=h104.close
 have h108:Ow kTableO 26 w27.heap (okL [(w26.heap.size,some w27.heap.size,some 26)]) (okL [(w26.heap.size,some w27.heap.size,some 66)]) A17 c_17 y8.1.Tables:=h105.close
 have h109:Ow kEntry 66 w27.heap (okL [(w26.heap.size,some w27.heap.size,some 66)]) (okL []) A18 c_18 y8.1.Job.Table.List_:=h106.close
 refine pu 3 rfl ?_
 have h110:=j32.ext x21
 refine RW.sf tk h110 fun w28 x22 sx22 h112=>?_
 refine pu 1 rfl (RW.done (NW.norm_block ?_))
 have h113:=(j33.ext x21).tB x22 h110
 have h114:=(j34.ext x21).tB x22 h110
 have h115:=(j35.ext x21).tB x22 h110
 have h116:=h107.tB x22 h110
 have h117:=h108.tB x22 h110
 have h118:=h109.tB x22 h110
 have h119:=(j36.tr x21).tB x22
 have h120:=(j37.tr x21).tB x22
 have h121:=(j38.tr x21).tB x22
 have h122:=(h97.ext x21).tB x22
 exact NW.J fun a ha=>⟨y8.2,([]:List Pair),none,0,([]:List Pair),none,0,y7.2,y7.1.Devices,A13,c_13,y7.1.Tables,A14,c_14,y7.1.Job.Dev,y7.1.Job.At,y7.1.Job.Table.Dev,y7.1.Job.Table.Size,y7.1.Job.Table.List_,A15,c_15,y7.1.Next,y8.1.Devices,A16,c_16,y8.1.Tables,A17,c_17,y8.1.Job.Dev,y8.1.Job.At,y8.1.Job.Table.Dev,y8.1.Job.Table.Size,y8.1.Job.Table.List_,A18,c_18,y8.1.Next,w25.heap.size,ha.sb,by omega,Ow.nil,Ow.nil,(h113.sb),(h114.sb),(h115.sb),(h116.sb),(h117.sb),(h118.sb),h119,h120,h121,h122,h112,by omega,by omega,H⟩
 refine CW.skip (NW.norm_block ?_)
 exact NW.J fun a ha=>⟨1,([]:List Pair),none,0,([]:List Pair),none,0,y7.2,y7.1.Devices,A13,c_13,y7.1.Tables,A14,c_14,y7.1.Job.Dev,y7.1.Job.At,y7.1.Job.Table.Dev,y7.1.Job.Table.Size,y7.1.Job.Table.List_,A15,c_15,y7.1.Next,([]:List Device),none,0,([]:List Table),none,0,0,0,0,0,([]:List Entry),none,0,0,w25.heap.size,ha.sb,by omega,Ow.nil,Ow.nil,(j33.sb),(j34.sb),(j35.sb),Ow.nil,Ow.nil,Ow.nil,j36,j37,j38,h97,j32,by omega,by omega,H⟩
 refine CW.seq (CW.lw 2 rfl (pu 2 rfl (RW.done (NW.next (CW.i H (fun c7 H=>?_) fun c7 H=>?_)))))
 refine CW.seq (CW.lex [.L,.W,.X,.W,.W,.W,.M,.W] rfl (RW.lw tk j9 ?_))
 refine pu 1 rfl ?_
 cases H
 refine CW.seq (CW.lw 2 rfl (pu 2 rfl (RW.done (NW.next (CW.i H (fun c8 H=>?_) fun c8 H=>?_)))))
 refine CW.seq (CW.lex [.L,.W,.L,.X,.W,.W,.W,.M,.W] rfl (RW.lw tk j9 ?_))
 refine pu 1 rfl (RW.lb tk [iv ((rd p0.A vb).N)] j10 1 ?_)
 obtain ⟨y9,h137,H⟩:=bind_some H
 refine RW.cl ent106 (move_Tidy.calls h137 (j11.all.to kDevice_ro rfl) j11.len (j12.all.to kTable_ro rfl) j12.len j13.all j13.len j14) ?_
 rintro _ w29 ⟨A19,c_19,A20,c_20,A21,c_21,rfl,x23,h138,h139,h140⟩
 refine ⟨_,rfl,x23,?_⟩
 have sx23:=x23.size
 have h141:Ow kDeviceO 40 w29.heap (okL [(w24.heap.size,some w29.heap.size,some 40)]) (okL [(w24.heap.size,some w29.heap.size,some 105)]) A19 c_19 y9.1.Devices:=h138.close
 have h142:Ow kTableO 26 w29.heap (okL [(w24.heap.size,some w29.heap.size,some 26)]) (okL [(w24.heap.size,some w29.heap.size,some 66)]) A20 c_20 y9.1.Tables:=h139.close
 have h143:Ow kEntry 66 w29.heap (okL [(w24.heap.size,some w29.heap.size,some 66)]) (okL []) A21 c_21 y9.1.Job.Table.List_:=h140.close
 refine pu 3 rfl ?_
 have h144:=j15.ext x23
 refine RW.sf tk h144 fun w30 x24 sx24 h146=>?_
 refine pu 1 rfl (RW.done (NW.next (CW.seq (CW.lw 1 rfl (pu 1 rfl (RW.done (NW.next ?_)))))))
 have j39:=(j20.ext x23).tB x24
 have j40:=h141.tB x24 h144
 have j41:=h142.tB x24 h144
 have j42:=h143.tB x24 h144
 have j43:=(j21.tr x23).tB x24
 have j44:=(j22.tr x23).tB x24
 have j45:=(j23.tr x23).tB x24
 refine CW.i H (fun c9 H=>?_) fun c9 H=>?_
 refine CW.lex [.L,.W,.L,.X,.W,.W,.W,.M,.W] rfl ?_
 have h147:=(j16.ext x23).tB x24
 refine RW.lw tk h147 ?_
 refine pu 1 rfl ?_
 have h148:=(j10.ext x23).tB x24
 refine RW.lb tk [iv ((rd p0.A vb).N)] h148 1 ?_
 have h149:=(j17.ext x23).tB x24 h144
 have h150:=(j18.ext x23).tB x24 h144
 have h151:=(j19.ext x23).tB x24 h144
 obtain ⟨y10,h152,H⟩:=bind_some H
 refine RW.cl ent107 (r9_Tidy.calls h152 (h149.all.to kDevice_ro rfl) h149.len (h150.all.to kTable_ro rfl) h150.len h151.all h151.len) ?_
 rintro _ w31 ⟨A22,c_22,A23,c_23,A24,c_24,rfl,x25,h153,h154,h155⟩
 refine ⟨_,rfl,x25,?_⟩
 have sx25:=x25.size
 have h156:Ow kDeviceO 40 w31.heap (okL [(w30.heap.size,some w31.heap.size,some 40)]) (okL [(w30.heap.size,some w31.heap.size,some 105)]) A22 c_22 y10.1.Devices:=h153.close
 have h157:Ow kTableO 26 w31.heap (okL [(w30.heap.size,some w31.heap.size,some 26)]) (okL [(w30.heap.size,some w31.heap.size,some 66)]) A23 c_23 y10.1.Tables:=h154.close
 have h158:Ow kEntry 66 w31.heap (okL [(w30.heap.size,some w31.heap.size,some 66)]) (okL []) A24 c_24 y10.1.Job.Table.List_:=h155.close
 refine pu 3 rfl ?_
 have h159:=j39.ext x25
 refine RW.sf tk h159 fun w32 x26 sx26 h161=>?_
 refine pu 1 rfl (RW.done (NW.norm_block ?_))
 have h162:=(j40.ext x25).tB x26 h159
 have h163:=(j41.ext x25).tB x26 h159
 have h164:=(j42.ext x25).tB x26 h159
 have h165:=h156.tB x26 h159
 have h166:=h157.tB x26 h159
 have h167:=h158.tB x26 h159
 have h168:=(j43.tr x25).tB x26
 have h169:=(j44.tr x25).tB x26
 have h170:=(j45.tr x25).tB x26
 have h171:=(h146.ext x25).tB x26
 exact NW.J fun a ha=>⟨y10.2,([]:List Pair),none,0,([]:List Pair),none,0,y9.2,y9.1.Devices,A19,c_19,y9.1.Tables,A20,c_20,y9.1.Job.Dev,y9.1.Job.At,y9.1.Job.Table.Dev,y9.1.Job.Table.Size,y9.1.Job.Table.List_,A21,c_21,y9.1.Next,y10.1.Devices,A22,c_22,y10.1.Tables,A23,c_23,y10.1.Job.Dev,y10.1.Job.At,y10.1.Job.Table.Dev,y10.1.Job.Table.Size,y10.1.Job.Table.List_,A24,c_24,y10.1.Next,w29.heap.size,ha.sb,by omega,Ow.nil,Ow.nil,(h162.sb),(h163.sb),(h164.sb),(h165.sb),(h166.sb),(h167.sb),h168,h169,h170,h171,h161,by omega,by omega,H⟩
 refine CW.skip (NW.norm_block ?_)
 exact NW.J fun a ha=>⟨1,([]:List Pair),none,0,([]:List Pair),none,0,y9.2,y9.1.Devices,A19,c_19,y9.1.Tables,A20,c_20,y9.1.Job.Dev,y9.1.Job.At,y9.1.Job.Table.Dev,y9.1.Job.Table.Size,y9.1.Job.Table.List_,A21,c_21,y9.1.Next,([]:List Device),none,0,([]:List Table),none,0,0,0,0,0,([]:List Entry),none,0,0,w29.heap.size,ha.sb,by omega,Ow.nil,Ow.nil,(j40.sb),(j41.sb),(j42.sb),Ow.nil,Ow.nil,Ow.nil,j43,j44,j45,h146,j39,by omega,by omega,H⟩
 refine CW.seq (CW.lex [.L,.W,.L,.X,.W,.W,.W,.W,.M,.W,.W] rfl (RW.lw tk j9 ?_))
 refine pu 1 rfl (RW.lb tk [iv ((rd p0.A vb).N)] j10 1 ?_)
 obtain ⟨y11,h185,H⟩:=bind_some H
 refine RW.cl ent16 (move_Step.calls h185 (j11.all.to kDevice_ro rfl) j11.len (j12.all.to kTable_ro rfl) j12.len j13.all j13.len j14) ?_
 rintro _ w33 ⟨A25,c_25,A26,c_26,A27,c_27,A28,c_28,rfl,x27,h186,h187,h188,h189⟩
 refine ⟨_,rfl,x27,?_⟩
 have sx27:=x27.size
 have h190:Ow kDeviceO 40 w33.heap (okL [(w24.heap.size,some w33.heap.size,some 40)]) (okL [(w24.heap.size,some w33.heap.size,some 105)]) A25 c_25 y11.1.Devices:=h186.close
 have h191:Ow kTableO 26 w33.heap (okL [(w24.heap.size,some w33.heap.size,some 26)]) (okL [(w24.heap.size,some w33.heap.size,some 66)]) A26 c_26 y11.1.Tables:=h187.close
 have h192:Ow kEntry 66 w33.heap (okL [(w24.heap.size,some w33.heap.size,some 66)]) (okL []) A27 c_27 y11.1.Job.Table.List_:=h188.close
 have h193:Ow kPair 124 w33.heap (okL [(w24.heap.size,some w33.heap.size,some 124)]) (okL []) A28 c_28 y11.2.1:=h189.close
 refine pu 4 rfl ?_
 have h194:=j15.ext x27
 refine RW.sf tk h194 fun w34 x28 sx28 h196=>?_
 refine pu 2 rfl (RW.done (NW.next (CW.seq (CW.lw 1 rfl (pu 1 rfl (RW.done (NW.next ?_)))))))
 have j24:=(j20.ext x27).tB x28
 have j25:=h193.tB x28 h194
 have j26:=h190.tB x28 h194
 have j27:=h191.tB x28 h194
 have j28:=h192.tB x28 h194
 have j29:=(j21.tr x27).tB x28
 have j30:=(j22.tr x27).tB x28
 have j31:=(j23.tr x27).tB x28
 refine CW.i H (fun c10 H=>?_) fun c10 H=>?_
 refine CW.lex [.L,.W,.L,.X,.W,.W,.W,.W,.M,.W,.W] rfl ?_
 have h197:=(j16.ext x27).tB x28
 refine RW.lw tk h197 ?_
 refine pu 1 rfl ?_
 have h198:=(j10.ext x27).tB x28
 refine RW.lb tk [iv ((rd p0.A vb).N)] h198 1 ?_
 have h199:=(j17.ext x27).tB x28 h194
 have h200:=(j18.ext x27).tB x28 h194
 have h201:=(j19.ext x27).tB x28 h194
 obtain ⟨y12,h202,H⟩:=bind_some H
 refine RW.cl ent108 (r9_Step.calls h202 (h199.all.to kDevice_ro rfl) h199.len (h200.all.to kTable_ro rfl) h200.len h201.all h201.len) ?_
 rintro _ w35 ⟨A29,c_29,A30,c_30,A31,c_31,A32,c_32,rfl,x29,h203,h204,h205,h206⟩
 refine ⟨_,rfl,x29,?_⟩
 have sx29:=x29.size
 have h207:Ow kDeviceO 40 w35.heap (okL [(w34.heap.size,some w35.heap.size,some 40)]) (okL [(w34.heap.size,some w35.heap.size,some 105)]) A29 c_29 y12.1.Devices:=h203.close
 have h208:Ow kTableO 26 w35.heap (okL [(w34.heap.size,some w35.heap.size,some 26)]) (okL [(w34.heap.size,some w35.heap.size,some 66)]) A30 c_30 y12.1.Tables:=h204.close
 have h209:Ow kEntry 66 w35.heap (okL [(w34.heap.size,some w35.heap.size,some 66)]) (okL []) A31 c_31 y12.1.Job.Table.List_:=h205.close
 have h210:Ow kPair 124 w35.heap (okL [(w34.heap.size,some w35.heap.size,some 124)]) (okL []) A32 c_32 y12.2.1:=h206.close
 refine pu 4 rfl ?_
 have h211:=j24.ext x29
 refine RW.sf tk h211 fun w36 x30 sx30 h213=>?_
 refine pu 2 rfl (RW.done (NW.norm_block ?_))
 have h214:=(j25.ext x29).tB x30 h211
 have h215:=h210.tB x30 h211
 have h216:=(j26.ext x29).tB x30 h211
 have h217:=(j27.ext x29).tB x30 h211
 have h218:=(j28.ext x29).tB x30 h211
 have h219:=h207.tB x30 h211
 have h220:=h208.tB x30 h211
 have h221:=h209.tB x30 h211
 have h222:=(j29.tr x29).tB x30
 have h223:=(j30.tr x29).tB x30
 have h224:=(j31.tr x29).tB x30
 have h225:=(h196.ext x29).tB x30
 exact NW.J fun a ha=>⟨y12.2.2,y11.2.1,A28,c_28,y12.2.1,A32,c_32,y11.2.2,y11.1.Devices,A25,c_25,y11.1.Tables,A26,c_26,y11.1.Job.Dev,y11.1.Job.At,y11.1.Job.Table.Dev,y11.1.Job.Table.Size,y11.1.Job.Table.List_,A27,c_27,y11.1.Next,y12.1.Devices,A29,c_29,y12.1.Tables,A30,c_30,y12.1.Job.Dev,y12.1.Job.At,y12.1.Job.Table.Dev,y12.1.Job.Table.Size,y12.1.Job.Table.List_,A31,c_31,y12.1.Next,w33.heap.size,ha.sb,by omega,(h214.sb),(h215.sb),(h216.sb),(h217.sb),(h218.sb),(h219.sb),(h220.sb),(h221.sb),h222,h223,h224,h225,h213,by omega,by omega,H⟩
 refine CW.skip (NW.norm_block ?_)
 exact NW.J fun a ha=>⟨1,y11.2.1,A28,c_28,([]:List Pair),none,0,y11.2.2,y11.1.Devices,A25,c_25,y11.1.Tables,A26,c_26,y11.1.Job.Dev,y11.1.Job.At,y11.1.Job.Table.Dev,y11.1.Job.Table.Size,y11.1.Job.Table.List_,A27,c_27,y11.1.Next,([]:List Device),none,0,([]:List Table),none,0,0,0,0,0,([]:List Entry),none,0,0,w33.heap.size,ha.sb,by omega,(j25.sb),Ow.nil,(j26.sb),(j27.sb),(j28.sb),Ow.nil,Ow.nil,Ow.nil,j29,j30,j31,h196,j24,by omega,by omega,H⟩
 rintro a w23 ⟨vM,z3,Qg,Qh,zF,z4,z5,Qi,zj,za,zb,zc,zH,zI,z6,z7,zv,zw,vN,v7,v8,z8,ve,vl,vm,vd,vy,vz,vA,vB,vs,vt,vc,vf,vg,vC,va,hS,hle,ZB,ZC,ZQ,ZR,ZS,Zo,Zp,Zq,ZD,z9,vS,ZT,QI,YS,lom,H⟩ hp
 unfold l10_MoveExact.j4 at H
 refine CW.go hp hS ?_
 have h234:Ow kPair 124 w23.heap (okL [(va,some w23.heap.size,some 124)]) (okL []) z4 z5 zF:=ZC.close
 have h235:Ow kDeviceO 40 w23.heap (okL [(va,some w23.heap.size,some 40)]) (okL [(va,some w23.heap.size,some 105)]) vl vm ve:=Zo.close
 have h236:Ow kTableO 26 w23.heap (okL [(va,some w23.heap.size,some 26)]) (okL [(va,some w23.heap.size,some 66)]) vy vz vd:=Zp.close
 have h237:Ow kEntry 66 w23.heap (okL [(va,some w23.heap.size,some 66)]) (okL []) vf vg vc:=Zq.close
 have xt3:Ext w23 w23:=Upd.refl _ _
 refine CW.seq ?_
 refine CW.seqJ (fun a w37=>∃(Qj:Bool),Sat 151 [(2,.pointer (some ⟨b3,0,none⟩)),(4,.pointer (some ⟨b5,0,none⟩)),(6,.pointer (some ⟨zo,0,none⟩)),(9,iv vM),(10,.pointer (some ⟨b7,0,none⟩)),(11,.pointer (some ⟨b8,0,none⟩)),(137,.bool Qj)] a∧w23.heap.size≤w37.heap.size∧Ext w w37∧Ext w6 w37∧Ext w14 w37∧Ext w23 w37∧l10_MoveExact.j5 k vb vi vj vn vo vp vq vk vr vv vw vH vI vJ vK vx vL vM zj zc vN ve vd vA vB vs vt vc vC (l10_MoveExact.l0 p0 k n1) Qj=some r) ?_ ?_
 refine CW.lex [.W,.X,.W,.W,.W,.L,.L,.X,.W,.W,.W,.W,.W,.X,.W,.W,.W,.L,.L,.X,.W,.W,.W,.W,.W,.L,.X,.W,.W] rfl (pu 1 rfl (RW.cp H ent12 (fun _ h=>l10_num.calls h) fun y13 w38 x31 sx31 H=>?_))
 refine pu 3 rfl ?_
 have j46:=ZD.tr x31
 have j47:=z9.tr x31
 have j48:=vS.tr x31
 have j49:=xt3.tr x31
 refine RW.n 113 H (fun c11 H=>?_) fun c11 H=>?_
 have h239:=ZT.ext x31
 refine RW.lw tk h239 ?_
 have h240:=QI.ext x31
 refine RW.lw tk h240 ?_
 have h241:=ZQ.ext x31
 have h242:=ZR.ext x31
 have h243:=ZS.ext x31
 have h244:=h235.ext x31
 have h245:=h236.ext x31
 have h246:=h237.ext x31
 refine RW.cp H ent14 (fun _ h=>r0_EqPool.calls h (h241.all.to kDevice_ro rfl) h241.len (h242.all.to kTable_ro rfl) h242.len h243.all h243.len (h244.all.to kDevice_ro rfl) h244.len (h245.all.to kTable_ro rfl) h245.len h246.all h246.len) fun y14 w39 x32 sx32 H=>?_
 refine pu 3 rfl ?_
 have j50:=j46.tr x32
 have j51:=j47.tr x32
 have j52:=j48.tr x32
 have j53:=j49.tr x32
 refine RW.n 119 H (fun c12 H=>?_) fun c12 H=>?_
 refine pu 2 rfl ?_
 have h248:=(ZB.ext x31).ext x32
 have h249:=(h234.ext x31).ext x32
 refine RW.cp H ent109 (fun _ h=>r0_EqPairs.calls h h248.all h248.len h249.all h249.len) fun y15 w40 x33 sx33 H=>?_
 refine pu 3 rfl ?_
 have j54:=j50.tr x33
 have j55:=j51.tr x33
 have j56:=j52.tr x33
 have j57:=j53.tr x33
 refine RW.n 125 H (fun c13 H=>?_) fun c13 H=>?_
 have h251:=(((z2.ext vS).ext x31).ext x32).ext x33
 refine RW.lw tk h251 ?_
 have h252:=(((z0.ext vS).ext x31).ext x32).ext x33
 refine RW.lw tk h252 ?_
 have h253:=(((h72.ext vS).ext x31).ext x32).ext x33
 have h254:=(((h73.ext vS).ext x31).ext x32).ext x33
 have h255:=(((h74.ext vS).ext x31).ext x32).ext x33
 have h256:=(((h31.ext z9).ext x31).ext x32).ext x33
 have h257:=(((h32.ext z9).ext x31).ext x32).ext x33
 have h258:=(((h33.ext z9).ext x31).ext x32).ext x33
 refine RW.cp H ent14 (fun _ h=>r0_EqPool.calls h (h253.all.to kDevice_ro rfl) h253.len (h254.all.to kTable_ro rfl) h254.len h255.all h255.len (h256.all.to kDevice_ro rfl) h256.len (h257.all.to kTable_ro rfl) h257.len h258.all h258.len) fun y16 w41 x34 sx34 H=>?_
 refine pu 3 rfl ?_
 have j58:=j54.tr x34
 have j59:=j55.tr x34
 have j60:=j56.tr x34
 have j61:=j57.tr x34
 refine RW.n 131 H (fun c14 H=>?_) fun c14 H=>?_
 refine pu 2 rfl ?_
 have h260:=((((z1.ext vS).ext x31).ext x32).ext x33).ext x34
 refine RW.lb tk [.slice A8 ((rd p0.A vb).Q).length c_8] h260 2 ?_
 have h261:=((((h71.ext vS).ext x31).ext x32).ext x33).ext x34
 have h262:=((((Zx.ext vS).ext x31).ext x32).ext x33).ext x34
 refine RW.cp H ent110 (fun _ h=>r0_EqPtrs.calls h h261.all h261.len h262.all l3) fun y17 w42 x35 sx35 H=>?_
 refine pu 2 rfl (RW.done ?_)
 have h264:=j58.tr x35
 have h265:=j59.tr x35
 have h266:=j60.tr x35
 have h267:=j61.tr x35
 exact NW.J fun a ha=>⟨(!y17),ha.sb,by omega,h264,h265,h266,h267,H⟩
 refine pu 6 rfl (RW.done ?_)
 exact NW.J fun a ha=>⟨true,ha.sb,by omega,j58,j59,j60,j61,H⟩
 refine pu 12 rfl (RW.done ?_)
 exact NW.J fun a ha=>⟨true,ha.sb,by omega,j54,j55,j56,j57,H⟩
 refine pu 18 rfl (RW.done ?_)
 exact NW.J fun a ha=>⟨true,ha.sb,by omega,j50,j51,j52,j53,H⟩
 refine pu 24 rfl (RW.done ?_)
 exact NW.J fun a ha=>⟨true,ha.sb,by omega,j46,j47,j48,j49,H⟩
 rintro a w37 ⟨Qj,hS,hle,QJ,zG,zk,v4,H⟩ hp
 unfold l10_MoveExact.j5 at H
 refine CW.go hp hS (CW.i H (fun c15 H=>?_) fun c15 H=>?_)
 refine CW.seq (CW.lex [.L,.M,.W] rfl (RW.lw tk (z0.ext zk) ?_))
 refine RW.sf tk (Qa.ext zk) fun w43 x36 sx36 h285=>?_
 refine pu 1 rfl (RW.done (NW.next (CW.ret (NW.ret_then ?_))))
 have h286:=(h31.ext zG).turnB x36 (Qa.ext zk) ⟨.inl (nq rfl),trivial⟩ ⟨.inl (nq rfl),trivial⟩
 have h287:=(h32.ext zG).turnB x36 (Qa.ext zk) ⟨.inl (nq rfl),trivial⟩ ⟨.inl (nq rfl),trivial⟩
 have h288:=(h33.ext zG).turnB x36 (Qa.ext zk) ⟨.inl (nq rfl),trivial⟩ trivial
 have h289:=QJ.tB x36
 have h290:=zG.tB x36
 exact NW.ret2 rfl (resOne_cell tk (h285.at 0) rfl rfl rfl) (by rfl) ⟨vi,zp,zq,vj,zr,zs,vn,vo,vp,vq,vk,zt,zu,vr,false,rfl,by omega,(h286.sb),(h287.sb),(h288.sb),h289,h290,H⟩
 refine CW.skip (NW.next (CW.seq (CW.lex [.L,.M] rfl (RW.lw tk (ZT.ext v4) ?_))))
 have h291:=Ow.conv (d:=kDeviceO) (d':=kDeviceH) rfl kDeviceH_conv (ZQ.ext v4)
 have h292:=Ow.conv (d:=kTableO) (d':=kTableH) rfl kTableH_conv (ZR.ext v4)
 have h293:=(ZS.ext v4).hollow (n:=4) rfl
 refine RW.callFM (R:=fun e w44=>e=.returned (.tuple #[])∧w37.heap.size≤w44.heap.size∧Ow kDeviceO 40 w44.heap (okL [(va,some w23.heap.size,some 40)]) (okL [(va,some w23.heap.size,some 105)]) vl vm ve∧Ow kTableO 26 w44.heap (okL [(va,some w23.heap.size,some 26)]) (okL [(va,some w23.heap.size,some 66)]) vy vz vd∧Ow kEntry 66 w44.heap (okL [(va,some w23.heap.size,some 66)]) (okL []) vf vg vc∧Ext w w44∧Ext w6 w44∧Ext w14 w44∧Box w44.heap b8 30 [.slice vl ve.length vm,.slice vy vd.length vz,iv vA,iv vB,iv vs,iv vt,.slice vf vc.length vg,iv vC]∧l10_MoveExact.j6 k vb vi vj vn vo vp vq vk vr vv vw vH vI vJ vK vx vL vM ve vd vA vB vs vt vc vC (l10_MoveExact.l0 p0 k n1)=some r) ent111 ⟨rfl,rfl,rfl,rfl⟩ rfl rfl rfl ?_ ?_
 refine cst Tryz.func111 28 ?_
 refine CW.seq (CW.lex [.X] rfl (RW.bx fun b9 w45 x37 sx37 l10 ltb9 h294=>?_))
 refine RW.done (NW.next (CW.seq (CW.lex [.W,.L,.M] rfl (pu 1 rfl (RW.lb tk [.slice za zj.length zb] h294 0 ?_)))))
 refine RW.callKM ent139 ⟨rfl,rfl,rfl,rfl⟩ rfl rfl rfl ?_
 refine cst Tryz.func139 25 ?_
 refine CW.seq (CW.lw 1 rfl (pu 1 rfl (RW.done (NW.next (CW.block ?_)))))
 refine CW.loop (fun n2 a w46=>∃(vh:List Device) (vu:Int),Sat 25 [(0,.slice za vh.length zb),(2,iv vu)] a∧w45.heap.size≤w46.heap.size∧Ow kDeviceH 40 w46.heap (okL [(w22.heap.size,some va,some 40)]) (okL [(w22.heap.size,some va,some 105)]) za zb vh∧Ow kDeviceO 40 w46.heap (okL [(va,some w23.heap.size,some 40)]) (okL [(va,some w23.heap.size,some 105)]) vl vm ve∧Ow kTableO 26 w46.heap (okL [(va,some w23.heap.size,some 26)]) (okL [(va,some w23.heap.size,some 66)]) vy vz vd∧Ow kEntry 66 w46.heap (okL [(va,some w23.heap.size,some 66)]) (okL []) vf vg vc∧Ow kTableH 26 w46.heap (okL [(w22.heap.size,some va,some 26)]) (okL [(w22.heap.size,some va,some 66)]) zH zI zc∧Ow (Kd.any Entry 4) 66 w46.heap (okL [(w22.heap.size,some va,some 66)]) (okL []) v7 v8 vN∧Ext w w46∧Ext w6 w46∧Ext w14 w46∧vh.length=zj.length∧Box w46.heap b8 30 [.slice vl ve.length vm,.slice vy vd.length vz,iv vA,iv vB,iv vs,iv vt,.slice vf vc.length vg,iv vC]∧Box w46.heap b9 30 [.slice za zj.length zb,.slice zH zc.length zI,iv z6,iv z7,iv zv,iv zw,.slice v7 vN.length v8,iv z8]∧l10_MoveExact.l1 k vb vi vj vn vo vp vq vk vr vv vw vH vI vJ vK vx vL vM zc vN ve vd vA vB vs vt vc vC (l10_MoveExact.l0 p0 k n1) n2 vh vu=some r) k ?_ ?_
 have h295:=h291.ext x37
 have h296:=(h235.ext v4).ext x37
 have h297:=(h236.ext v4).ext x37
 have h298:=(h237.ext v4).ext x37
 have h299:=h292.ext x37
 have h300:=h293.ext x37
 have h301:=QJ.tr x37
 have h302:=zG.tr x37
 have h303:=zk.tr x37
 have h304:=(QI.ext v4).ext x37
 exact fun a ha=>⟨zj,0,ha.sb,by omega,(h295.sb),h296,h297,h298,h299,h300,h301,h302,h303,(by (try simp only [List.length_set]) <;>omega),h304,h294,H⟩
 rintro n2 a w46 ⟨vh,vu,hS,hle,QK,ZU,ZV,ZW,QL,QM,QN,QO,QP,YT,ZX,QQ,H⟩ hp
 obtain _|n2:=n2
 cases H
 rw [l10_MoveExact.l1] at H
 refine CW.go hp hS ?_
 have xt4:Ext w46 w46:=Upd.refl _ _
 refine CW.seq (CW.seq (CW.lw 4 rfl (pu 4 rfl (RW.done (NW.next (CW.i H (fun c16 H=>?_) fun c16 H=>?_))))))
 refine CW.skip (NW.next (CW.seq (CW.block (CW.seq (CW.lex [.W,.W,.W,.W,.L,.M] rfl (pu 2 rfl ?_))))))
 obtain ⟨g2,H⟩:=guard_some H
 obtain ⟨ad2,A33,c_33,A34,c_34,e2,a2,h305,h306⟩:=kDeviceH_ato QK g2.1 g2.2
 refine RW.ix tk g2 e2 ?_
 refine pu 1 rfl (RW.ld tk [.slice A33 ((rd vh vu).Free).length c_33] ((a2.fld 2).take 1 rfl) ?_)
 refine RW.callKM ent154 ⟨rfl,rfl,rfl,rfl⟩ rfl rfl rfl ?_
 refine cst Tryz.func154 13 ?_
 refine CW.seq (CW.lw 1 rfl (pu 1 rfl (RW.done (NW.next (CW.block ?_)))))
 refine CW.loop (fun n3 a w47=>∃(zd:List Seg) (ze:Int),Sat 13 [(0,.slice A33 zd.length c_33),(2,iv ze)] a∧w46.heap.size≤w47.heap.size∧Ow (Kd.any Seg 1) 105 w47.heap (okL [(w22.heap.size,some va,some 105)]) (okL [(w22.heap.size,some va,some 105)]) A33 c_33 zd∧Ow kDeviceO 40 w47.heap (okL [(va,some w23.heap.size,some 40)]) (okL [(va,some w23.heap.size,some 105)]) vl vm ve∧Ow kTableO 26 w47.heap (okL [(va,some w23.heap.size,some 26)]) (okL [(va,some w23.heap.size,some 66)]) vy vz vd∧Ow kEntry 66 w47.heap (okL [(va,some w23.heap.size,some 66)]) (okL []) vf vg vc∧Ow kTableH 26 w47.heap (okL [(w22.heap.size,some va,some 26)]) (okL [(w22.heap.size,some va,some 66)]) zH zI zc∧Ow (Kd.any Entry 4) 66 w47.heap (okL [(w22.heap.size,some va,some 66)]) (okL []) v7 v8 vN∧Ow kDeviceH 40 w47.heap (okL [(w22.heap.size,some va,some 40)]) (okL [(w22.heap.size,some va,some 105)]) za zb vh∧Ext w w47∧Ext w6 w47∧Ext w14 w47∧zd.length=((rd vh vu).Free).length∧Box w47.heap b8 30 [.slice vl ve.length vm,.slice vy vd.length vz,iv vA,iv vB,iv vs,iv vt,.slice vf vc.length vg,iv vC]∧Box w47.heap b9 30 [.slice za zj.length zb,.slice zH zc.length zI,iv z6,iv z7,iv zv,iv zw,.slice v7 vN.length v8,iv z8]∧l10_MoveExact.l2 k vu vh (l10_MoveExact.l1 k vb vi vj vn vo vp vq vk vr vv vw vH vI vJ vK vx vL vM zc vN ve vd vA vB vs vt vc vC (l10_MoveExact.l0 p0 k n1) n2) n3 zd ze=some r) k ?_ ?_
 exact fun a ha=>⟨((rd vh vu).Free),0,ha.sb,by omega,(h305.sb),ZU,ZV,ZW,QL,QM,QK,QN,QO,QP,(by (try simp only [List.length_set]) <;>omega),ZX,QQ,H⟩
 rintro n3 a w47 ⟨zd,ze,hS,hle,QR,ZY,ZZ,Z0,QS,QT,Qk,QU,QV,QW,YU,Z1,QX,H⟩ hp
 obtain _|n3:=n3
 cases H
 rw [l10_MoveExact.l2] at H
 refine CW.go hp hS ?_
 have xt5:Ext w47 w47:=Upd.refl _ _
 refine CW.seq (CW.seq (CW.lw 4 rfl (pu 4 rfl (RW.done (NW.next (CW.i H (fun c17 H=>?_) fun c17 H=>?_))))))
 refine CW.skip (NW.next (CW.seq (CW.block (CW.lex [.W,.W,.W,.W,.M] rfl (pu 3 rfl ?_)))))
 obtain ⟨g3,H⟩:=guard_some H
 obtain ⟨ad3,_,e3,_,a3⟩:=QR.at_ g3.1 g3.2 default
 refine RW.ix tk g3 e3 ?_
 refine RW.storeElY0 (y:=(⟨(-9),0⟩:Seg)) (lv:=[]) tk QR (j:=ze.toNat) (by have:=g3;omega) default [iv (-9),iv 0] (fun cs ok' hr=>Kd.any_lay hr (Nat.le_of_ble_eq_true rfl) rfl) trivial ⟨rfl,rfl,rfl⟩ rfl rfl e3 rfl rfl rfl rfl rfl ?_
 rintro w48 x38 ⟨_,s1⟩ h307
 have sx38:=x38.size
 have h308:=h307.sub (l':=[(w22.heap.size,some va,some 105)]) (li':=[(w22.heap.size,some va,some 105)]) ⟨(.inl ⟨by omega,by omega,rfl⟩),trivial⟩ ⟨(.inl ⟨by omega,by omega,rfl⟩),trivial⟩
 refine RW.tell 0 (v':=.slice A33 (zd.set ze.toNat (⟨(-9),0⟩:Seg)).length c_33) (by simp only [List.length_set]) rfl (RW.done ?_)
 refine NW.norm_block (NW.next ?_)
 refine CW.lw 3 rfl (pu 3 rfl (RW.done ?_))
 have h309:=ZY.turnL x38 ⟨⟨.inl (nq rfl),trivial⟩,trivial⟩ ⟨⟨.inr (.inr (by omega)),trivial⟩,trivial⟩
 have h310:=ZZ.tL x38
 have h311:=Z0.tL x38
 have h312:=QS.kept s1 (by decide) (kTableH_kept s1)
 have h313:=QT.any_kept s1
 have h314:=Qk.kept s1 (by decide) (kDeviceH_kept s1)
 have h315:=Ext.turn QU x38 ⟨by omega,trivial⟩
 have h316:=Ext.turn QV x38 ⟨by omega,trivial⟩
 have h317:=Ext.turn QW x38 ⟨by omega,trivial⟩
 have h318:=Z1.tL x38
 have h319:=QX.tL x38
 exact NW.J fun a ha=>⟨n3,Nat.lt_succ_self n3,(zd.set ze.toNat (⟨(-9),0⟩:Seg)),(w64 (ze+1)),ha.sb,by omega,(h308.sb),h309,h310,h311,h312,h313,h314,h315,h316,h317,(by (try simp only [List.length_set]) <;>omega),h318,h319,H⟩
 refine CW.exit ?_
 refine NW.exit_then (NW.exit_then (NW.exit_hit ?_))
 refine NW.end_ ?_
 refine NW.ret0 rfl ⟨_,rfl,?_⟩
 refine RW.done (NW.next (CW.seq (CW.lex [.W,.W,.W,.W,.L,.M] rfl (pu 2 rfl ?_))))
 obtain ⟨g4,H⟩:=guard_some H
 obtain ⟨ad4,A35,c_35,A36,c_36,e4,a4,h320,h321⟩:=kDeviceH_ato Qk g4.1 g4.2
 refine RW.ix tk g4 e4 ?_
 refine pu 1 rfl (RW.ld tk [.slice A36 ((rd vh vu).Late).length c_36] (a4.fld 3) ?_)
 refine RW.callKM ent154 ⟨rfl,rfl,rfl,rfl⟩ rfl rfl rfl ?_
 refine cst Tryz.func154 13 ?_
 refine CW.seq (CW.lw 1 rfl (pu 1 rfl (RW.done (NW.next (CW.block ?_)))))
 refine CW.loop (fun n4 a w49=>∃(zf:List Seg) (zg:Int),Sat 13 [(0,.slice A36 zf.length c_36),(2,iv zg)] a∧w47.heap.size≤w49.heap.size∧Ow (Kd.any Seg 1) 105 w49.heap (okL [(w22.heap.size,some va,some 105)]) (okL [(w22.heap.size,some va,some 105)]) A36 c_36 zf∧Ow kDeviceO 40 w49.heap (okL [(va,some w23.heap.size,some 40)]) (okL [(va,some w23.heap.size,some 105)]) vl vm ve∧Ow kTableO 26 w49.heap (okL [(va,some w23.heap.size,some 26)]) (okL [(va,some w23.heap.size,some 66)]) vy vz vd∧Ow kEntry 66 w49.heap (okL [(va,some w23.heap.size,some 66)]) (okL []) vf vg vc∧Ow kTableH 26 w49.heap (okL [(w22.heap.size,some va,some 26)]) (okL [(w22.heap.size,some va,some 66)]) zH zI zc∧Ow (Kd.any Entry 4) 66 w49.heap (okL [(w22.heap.size,some va,some 66)]) (okL []) v7 v8 vN∧Ow kDeviceH 40 w49.heap (okL [(w22.heap.size,some va,some 40)]) (okL [(w22.heap.size,some va,some 105)]) za zb vh∧Ext w w49∧Ext w6 w49∧Ext w14 w49∧zf.length=((rd vh vu).Late).length∧Box w49.heap b8 30 [.slice vl ve.length vm,.slice vy vd.length vz,iv vA,iv vB,iv vs,iv vt,.slice vf vc.length vg,iv vC]∧Box w49.heap b9 30 [.slice za zj.length zb,.slice zH zc.length zI,iv z6,iv z7,iv zv,iv zw,.slice v7 vN.length v8,iv z8]∧l10_MoveExact.l3 vu vh (l10_MoveExact.l1 k vb vi vj vn vo vp vq vk vr vv vw vH vI vJ vK vx vL vM zc vN ve vd vA vB vs vt vc vC (l10_MoveExact.l0 p0 k n1) n2) n4 zf zg=some r) k ?_ ?_
 exact fun a ha=>⟨((rd vh vu).Late),0,ha.sb,by omega,(h321.sb),ZY,ZZ,Z0,QS,QT,Qk,QU,QV,QW,(by (try simp only [List.length_set]) <;>omega),Z1,QX,H⟩
 rintro n4 a w49 ⟨zf,zg,hS,hle,QY,Z2,Z3,Z4,QZ,Q0,Ql,Q1,Q2,Q3,YV,Z5,Q4,H⟩ hp
 obtain _|n4:=n4
 cases H
 rw [l10_MoveExact.l3] at H
 refine CW.go hp hS ?_
 have xt6:Ext w49 w49:=Upd.refl _ _
 refine CW.seq (CW.seq (CW.lw 4 rfl (pu 4 rfl (RW.done (NW.next (CW.i H (fun c18 H=>?_) fun c18 H=>?_))))))
 refine CW.skip (NW.next (CW.seq (CW.block (CW.lex [.W,.W,.W,.W,.M] rfl (pu 3 rfl ?_)))))
 obtain ⟨g5,H⟩:=guard_some H
 obtain ⟨ad5,_,e5,_,a5⟩:=QY.at_ g5.1 g5.2 default
 refine RW.ix tk g5 e5 ?_
 refine RW.storeElY0 (y:=(⟨(-9),0⟩:Seg)) (lv:=[]) tk QY (j:=zg.toNat) (by have:=g5;omega) default [iv (-9),iv 0] (fun cs ok' hr=>Kd.any_lay hr (Nat.le_of_ble_eq_true rfl) rfl) trivial ⟨rfl,rfl,rfl⟩ rfl rfl e5 rfl rfl rfl rfl rfl ?_
 rintro w50 x39 ⟨_,s2⟩ h322
 have sx39:=x39.size
 have h323:=h322.sub (l':=[(w22.heap.size,some va,some 105)]) (li':=[(w22.heap.size,some va,some 105)]) ⟨(.inl ⟨by omega,by omega,rfl⟩),trivial⟩ ⟨(.inl ⟨by omega,by omega,rfl⟩),trivial⟩
 refine RW.tell 0 (v':=.slice A36 (zf.set zg.toNat (⟨(-9),0⟩:Seg)).length c_36) (by simp only [List.length_set]) rfl (RW.done ?_)
 refine NW.norm_block (NW.next ?_)
 refine CW.lw 3 rfl (pu 3 rfl (RW.done ?_))
 have h324:=Z2.turnL x39 ⟨⟨.inl (nq rfl),trivial⟩,trivial⟩ ⟨⟨.inr (.inr (by omega)),trivial⟩,trivial⟩
 have h325:=Z3.tL x39
 have h326:=Z4.tL x39
 have h327:=QZ.kept s2 (by decide) (kTableH_kept s2)
 have h328:=Q0.any_kept s2
 have h329:=Ql.kept s2 (by decide) (kDeviceH_kept s2)
 have h330:=Ext.turn Q1 x39 ⟨by omega,trivial⟩
 have h331:=Ext.turn Q2 x39 ⟨by omega,trivial⟩
 have h332:=Ext.turn Q3 x39 ⟨by omega,trivial⟩
 have h333:=Z5.tL x39
 have h334:=Q4.tL x39
 exact NW.J fun a ha=>⟨n4,Nat.lt_succ_self n4,(zf.set zg.toNat (⟨(-9),0⟩:Seg)),(w64 (zg+1)),ha.sb,by omega,(h323.sb),h324,h325,h326,h327,h328,h329,h330,h331,h332,(by (try simp only [List.length_set]) <;>omega),h333,h334,H⟩
 refine CW.exit ?_
 refine NW.exit_then (NW.exit_then (NW.exit_hit ?_))
 refine NW.end_ ?_
 refine NW.ret0 rfl ⟨_,rfl,?_⟩
 refine RW.done (NW.next (CW.lex [.W,.W,.W,.W,.M] rfl (pu 3 rfl ?_)))
 obtain ⟨g6,H⟩:=guard_some H
 obtain ⟨ad6,A37,c_37,A38,c_38,e6,a6,h335,h336⟩:=kDeviceH_ato Ql g6.1 g6.2
 refine RW.ix tk g6 e6 ?_
 refine RW.storeElL0 (y:=(⟨(-9),0,([]:List Seg),([]:List Seg)⟩:Device)) (lv:=[]) tk Ql (j:=vu.toNat) (by have:=g6;omega) default [iv (-9),iv 0,.slice none 0 0,.slice none 0 0] (fun cs ok' hr=>by obtain ⟨qa1,qc1,qa2,qc2,rfl,q1,q2⟩:=kDeviceH_open hr;exact ⟨by simp,kDeviceH_mk (⟨(-9),0,([]:List Seg),([]:List Seg)⟩:Device) Ow.nil Ow.nil⟩) trivial ⟨rfl,rfl,rfl⟩ rfl rfl e6 rfl rfl rfl rfl rfl ?_
 intro w51 x40 h337
 have sx40:=x40.size
 have h338:=h337.sub (l':=[(w22.heap.size,some va,some 40)]) (li':=[(w22.heap.size,some va,some 105)]) ⟨(.inl ⟨by omega,by omega,rfl⟩),trivial⟩ ⟨(.inl ⟨by omega,by omega,rfl⟩),trivial⟩
 refine RW.tell 0 (v':=.slice za (vh.set vu.toNat (⟨(-9),0,([]:List Seg),([]:List Seg)⟩:Device)).length zb) (by simp only [List.length_set]) rfl (RW.done ?_)
 refine NW.norm_block (NW.next ?_)
 refine CW.lw 3 rfl (pu 3 rfl (RW.done ?_))
 have h339:=Z2.turnL x40 ⟨⟨.inr (.inr (by omega)),trivial⟩,trivial⟩ ⟨⟨.inl (nq rfl),trivial⟩,trivial⟩
 have h340:=Z3.tL x40
 have h341:=Z4.tL x40
 have h342:=QZ.tL x40
 have h343:=Q0.tL x40
 have h344:=Ext.turn Q1 x40 ⟨by omega,trivial⟩
 have h345:=Ext.turn Q2 x40 ⟨by omega,trivial⟩
 have h346:=Ext.turn Q3 x40 ⟨by omega,trivial⟩
 have h347:=Z5.tL x40
 have h348:=Q4.tL x40
 exact NW.J fun a ha=>⟨n2,Nat.lt_succ_self n2,(vh.set vu.toNat (⟨(-9),0,([]:List Seg),([]:List Seg)⟩:Device)),(w64 (vu+1)),ha.sb,by omega,(h338.sb),h339,h340,h341,h342,h343,h344,h345,h346,(by (try simp only [List.length_set]) <;>omega),h347,h348,H⟩
 refine CW.exit ?_
 refine NW.exit_then (NW.exit_then (NW.exit_hit ?_))
 refine NW.end_ ?_
 refine NW.ret0 rfl ⟨_,rfl,?_⟩
 refine RW.done (NW.next (CW.seq (CW.seq (CW.lw 1 rfl (pu 1 rfl (RW.done (NW.next ?_)))))))
 refine CW.block ?_
 refine CW.loop (fun n5 a w52=>∃(vD:Int) (v5:List Table) (zJ:Option Addr) (zK:Nat),Sat 28 [(1,.pointer (some ⟨b9,0,none⟩)),(2,iv vD)] a∧w46.heap.size≤w52.heap.size∧Ow kTableH 26 w52.heap (okL [(w22.heap.size,some va,some 26)]) (okL [(w22.heap.size,some va,some 66)]) zJ zK v5∧Ow (Kd.any Entry 4) 66 w52.heap (okL [(w22.heap.size,some va,some 66)]) (okL []) v7 v8 vN∧Ow kDeviceO 40 w52.heap (okL [(va,some w23.heap.size,some 40)]) (okL [(va,some w23.heap.size,some 105)]) vl vm ve∧Ow kTableO 26 w52.heap (okL [(va,some w23.heap.size,some 26)]) (okL [(va,some w23.heap.size,some 66)]) vy vz vd∧Ow kEntry 66 w52.heap (okL [(va,some w23.heap.size,some 66)]) (okL []) vf vg vc∧Ext w w52∧Ext w6 w52∧Ext w14 w52∧Box w52.heap b9 30 [.slice za zj.length zb,.slice zJ v5.length zK,iv z6,iv z7,iv zv,iv zw,.slice v7 vN.length v8,iv z8]∧Box w52.heap b8 30 [.slice vl ve.length vm,.slice vy vd.length vz,iv vA,iv vB,iv vs,iv vt,.slice vf vc.length vg,iv vC]∧l10_MoveExact.l4 k vb vi vj vn vo vp vq vk vr vv vw vH vI vJ vK vx vL vM vN ve vd vA vB vs vt vc vC (l10_MoveExact.l0 p0 k n1) n5 vD v5=some r) k ?_ ?_
 exact fun a ha=>⟨0,zc,zH,zI,ha.sb,by omega,(QL.sb),QM,ZU,ZV,ZW,QN,QO,QP,QQ,ZX,H⟩
 rintro n5 a w52 ⟨vD,v5,zJ,zK,hS,hle,Z6,Q5,Z7,Z8,Z9,Q6,Q7,Q8,Qm,Ya,H⟩ hp
 obtain _|n5:=n5
 cases H
 rw [l10_MoveExact.l4] at H
 refine CW.go hp hS ?_
 have xt7:Ext w52 w52:=Upd.refl _ _
 refine CW.seq (CW.seq (CW.lex [.W,.W,.L,.W,.W] rfl (pu 2 rfl (RW.lb tk [.slice zJ v5.length zK] Qm 1 ?_))))
 refine pu 2 rfl (RW.done (NW.next (CW.i H (fun c19 H=>?_) fun c19 H=>?_)))
 refine CW.skip (NW.next (CW.seq (CW.block (CW.seq (CW.lex [.W,.L,.W,.W,.L,.M] rfl (pu 1 rfl (RW.lb tk [.slice zJ v5.length zK] Qm 1 ?_)))))))
 refine pu 1 rfl ?_
 obtain ⟨g7,H⟩:=guard_some H
 obtain ⟨ad7,A39,c_39,e7,a7,h349⟩:=kTableH_ato Z6 g7.1 g7.2
 refine RW.ix tk g7 e7 ?_
 refine RW.ld tk _ a7 ?_
 refine RW.callKM ent140 ⟨rfl,rfl,rfl,rfl⟩ rfl rfl rfl ?_
 refine cst Tryz.func140 15 ?_
 refine CW.seq (CW.lex [.X] rfl (RW.bx fun b10 w53 x41 sx41 l18 ltb10 h350=>?_))
 refine RW.done (NW.next (CW.seq (CW.lw 1 rfl (pu 1 rfl (RW.done (NW.next (CW.block ?_)))))))
 refine CW.loop (fun n6 a w54=>∃(zh:Int) (Qb:List Entry) (Qn:Option Addr) (Qo:Nat),Sat 15 [(1,.pointer (some ⟨b10,0,none⟩)),(2,iv zh)] a∧w53.heap.size≤w54.heap.size∧Ow (Kd.any Entry 4) 66 w54.heap (okL [(w22.heap.size,some va,some 66)]) (okL [(w22.heap.size,some va,some 66)]) Qn Qo Qb∧Ow kDeviceO 40 w54.heap (okL [(va,some w23.heap.size,some 40)]) (okL [(va,some w23.heap.size,some 105)]) vl vm ve∧Ow kTableO 26 w54.heap (okL [(va,some w23.heap.size,some 26)]) (okL [(va,some w23.heap.size,some 66)]) vy vz vd∧Ow kEntry 66 w54.heap (okL [(va,some w23.heap.size,some 66)]) (okL []) vf vg vc∧Ow kTableH 26 w54.heap (okL [(w22.heap.size,some va,some 26)]) (okL [(w22.heap.size,some va,some 66)]) zJ zK v5∧Ow (Kd.any Entry 4) 66 w54.heap (okL [(w22.heap.size,some va,some 66)]) (okL []) v7 v8 vN∧Ext w w54∧Ext w6 w54∧Ext w14 w54∧Box w54.heap b10 26 [iv ((rd v5 vD).Dev),iv ((rd v5 vD).Size),.slice Qn Qb.length Qo]∧Box w54.heap b8 30 [.slice vl ve.length vm,.slice vy vd.length vz,iv vA,iv vB,iv vs,iv vt,.slice vf vc.length vg,iv vC]∧Box w54.heap b9 30 [.slice za zj.length zb,.slice zJ v5.length zK,iv z6,iv z7,iv zv,iv zw,.slice v7 vN.length v8,iv z8]∧l10_MoveExact.l5 vD v5 (l10_MoveExact.l4 k vb vi vj vn vo vp vq vk vr vv vw vH vI vJ vK vx vL vM vN ve vd vA vB vs vt vc vC (l10_MoveExact.l0 p0 k n1) n5) n6 zh Qb=some r) k ?_ ?_
 have h351:=h349.ext x41
 have h352:=Z7.ext x41
 have h353:=Z8.ext x41
 have h354:=Z9.ext x41
 have h355:=Z6.ext x41
 have h356:=Q5.ext x41
 have h357:=Q6.tr x41
 have h358:=Q7.tr x41
 have h359:=Q8.tr x41
 have h360:=Ya.ext x41
 have h361:=Qm.ext x41
 exact fun a ha=>⟨0,((rd v5 vD).List_),A39,c_39,ha.sb,by omega,(h351.sb),h352,h353,h354,h355,h356,h357,h358,h359,h350,h360,h361,H⟩
 rintro n6 a w54 ⟨zh,Qb,Qn,Qo,hS,hle,Yb,Yc,Yd,Ye,ZE,Q9,Za,Zb,Zc,Qp,Yf,Qz,H⟩ hp
 obtain _|n6:=n6
 cases H
 rw [l10_MoveExact.l5] at H
 refine CW.go hp hS ?_
 have xt8:Ext w54 w54:=Upd.refl _ _
 refine CW.seq (CW.seq (CW.lex [.W,.W,.L,.W,.W] rfl (pu 2 rfl (RW.lb tk [.slice Qn Qb.length Qo] Qp 2 ?_))))
 refine pu 2 rfl (RW.done (NW.next (CW.i H (fun c20 H=>?_) fun c20 H=>?_)))
 refine CW.skip (NW.next (CW.seq (CW.block (CW.lex [.W,.L,.W,.W,.W,.M] rfl (pu 1 rfl (RW.lb tk [.slice Qn Qb.length Qo] Qp 2 ?_))))))
 refine pu 2 rfl ?_
 obtain ⟨g8,H⟩:=guard_some H
 obtain ⟨ad8,_,e8,_,a8⟩:=Yb.at_ g8.1 g8.2 default
 refine RW.ix tk g8 e8 ?_
 refine RW.storeElY0 (y:=(⟨(-9),0,0,0,0⟩:Entry)) (lv:=[]) tk Yb (j:=zh.toNat) (by have:=g8;omega) default [iv (-9),iv 0,iv 0,iv 0,iv 0] (fun cs ok' hr=>Kd.any_lay hr (Nat.le_of_ble_eq_true rfl) rfl) trivial ⟨rfl,rfl,rfl⟩ rfl rfl e8 rfl rfl rfl rfl rfl ?_
 rintro w55 x42 ⟨_,s3⟩ h362
 have sx42:=x42.size
 have h363:=h362.sub (l':=[(w22.heap.size,some va,some 66)]) (li':=[(w22.heap.size,some va,some 66)]) ⟨(.inl ⟨by omega,by omega,rfl⟩),trivial⟩ ⟨(.inl ⟨by omega,by omega,rfl⟩),trivial⟩
 have h364:=Qp.tL x42
 have h365:Box w55.heap b10 26 [iv ((rd v5 vD).Dev),iv ((rd v5 vD).Size),.slice Qn (Qb.set zh.toNat (⟨(-9),0,0,0,0⟩:Entry)).length Qo]:=by simpa only [List.length_set] using h364
 refine RW.done ?_
 refine NW.norm_block (NW.next ?_)
 refine CW.lw 3 rfl (pu 3 rfl (RW.done ?_))
 have h366:=Yc.tL x42
 have h367:=Yd.turnL x42 ⟨⟨.inl (nq rfl),trivial⟩,trivial⟩ ⟨⟨.inr (.inr (by omega)),trivial⟩,trivial⟩
 have h368:=Ye.turnL x42 ⟨⟨.inr (.inr (by omega)),trivial⟩,trivial⟩ trivial
 have h369:=ZE.kept s3 (by decide) (kTableH_kept s3)
 have h370:=Q9.any_kept s3
 have h371:=Ext.turn Za x42 ⟨by omega,trivial⟩
 have h372:=Ext.turn Zb x42 ⟨by omega,trivial⟩
 have h373:=Ext.turn Zc x42 ⟨by omega,trivial⟩
 have h374:=Yf.tL x42
 have h375:=Qz.tL x42
 exact NW.J fun a ha=>⟨n6,Nat.lt_succ_self n6,(w64 (zh+1)),(Qb.set zh.toNat (⟨(-9),0,0,0,0⟩:Entry)),Qn,Qo,ha.sb,by omega,(h363.sb),h366,h367,h368,h369,h370,h371,h372,h373,h365,h374,h375,H⟩
 refine CW.exit ?_
 refine NW.exit_then (NW.exit_then (NW.exit_hit ?_))
 refine NW.end_ ?_
 refine NW.ret0 rfl ⟨_,rfl,?_⟩
 refine RW.done (NW.next (CW.lex [.W,.L,.W,.W,.W,.M] rfl (pu 1 rfl (RW.lb tk [.slice zJ v5.length zK] Qz 1 ?_))))
 refine pu 2 rfl ?_
 obtain ⟨g9,H⟩:=guard_some H
 obtain ⟨ad9,A40,c_40,e9,a9,h376⟩:=kTableH_ato ZE g9.1 g9.2
 refine RW.ix tk g9 e9 ?_
 refine RW.storeElL0 (y:=(⟨(-9),0,([]:List Entry)⟩:Table)) (lv:=[]) tk ZE (j:=vD.toNat) (by have:=g9;omega) default [iv (-9),iv 0,.slice none 0 0] (fun cs ok' hr=>by obtain ⟨qa1,qc1,rfl,q1⟩:=kTableH_open hr;exact ⟨by simp,kTableH_mk (⟨(-9),0,([]:List Entry)⟩:Table) Ow.nil⟩) trivial ⟨rfl,rfl,rfl⟩ rfl rfl e9 rfl rfl rfl rfl rfl ?_
 intro w56 x43 h377
 have sx43:=x43.size
 have h378:=h377.sub (l':=[(w22.heap.size,some va,some 26)]) (li':=[(w22.heap.size,some va,some 66)]) ⟨(.inl ⟨by omega,by omega,rfl⟩),trivial⟩ ⟨(.inl ⟨by omega,by omega,rfl⟩),trivial⟩
 have h379:=Qz.tL x43
 have h380:Box w56.heap b9 30 [.slice za zj.length zb,.slice zJ (v5.set vD.toNat (⟨(-9),0,([]:List Entry)⟩:Table)).length zK,iv z6,iv z7,iv zv,iv zw,.slice v7 vN.length v8,iv z8]:=by simpa only [List.length_set] using h379
 refine RW.done ?_
 refine NW.norm_block (NW.next ?_)
 refine CW.lw 3 rfl (pu 3 rfl (RW.done ?_))
 have h381:=Q9.tL x43
 have h382:=Yc.tL x43
 have h383:=Yd.turnL x43 ⟨⟨.inr (.inr (by omega)),trivial⟩,trivial⟩ ⟨⟨.inl (nq rfl),trivial⟩,trivial⟩
 have h384:=Ye.tL x43
 have h385:=Ext.turn Za x43 ⟨by omega,trivial⟩
 have h386:=Ext.turn Zb x43 ⟨by omega,trivial⟩
 have h387:=Ext.turn Zc x43 ⟨by omega,trivial⟩
 have h388:=Yf.tL x43
 exact NW.J fun a ha=>⟨n5,Nat.lt_succ_self n5,(w64 (vD+1)),(v5.set vD.toNat (⟨(-9),0,([]:List Entry)⟩:Table)),zJ,zK,ha.sb,by omega,(h378.sb),h381,h382,h383,h384,h385,h386,h387,h380,h388,H⟩
 refine CW.exit ?_
 refine NW.exit_then (NW.exit_then (NW.exit_hit ?_))
 refine NW.next (CW.lex [.W,.W,.L,.M] rfl (pu 2 rfl (RW.lb tk [iv zv,iv zw,.slice v7 vN.length v8] Qm 4 ?_)))
 refine RW.callKM ent140 ⟨rfl,rfl,rfl,rfl⟩ rfl rfl rfl ?_
 refine cst Tryz.func140 15 ?_
 refine CW.seq (CW.lex [.X] rfl (RW.bx fun b11 w57 x44 sx44 l20 ltb11 h389=>?_))
 refine RW.done (NW.next (CW.seq (CW.lw 1 rfl (pu 1 rfl (RW.done (NW.next (CW.block ?_)))))))
 refine CW.loop (fun n7 a w58=>∃(zi:Int) (Qc:List Entry) (Qq:Option Addr) (Qr:Nat),Sat 15 [(1,.pointer (some ⟨b11,0,none⟩)),(2,iv zi)] a∧w57.heap.size≤w58.heap.size∧Ow (Kd.any Entry 4) 66 w58.heap (okL [(w22.heap.size,some va,some 66)]) (okL []) Qq Qr Qc∧Ow kDeviceO 40 w58.heap (okL [(va,some w23.heap.size,some 40)]) (okL [(va,some w23.heap.size,some 105)]) vl vm ve∧Ow kTableO 26 w58.heap (okL [(va,some w23.heap.size,some 26)]) (okL [(va,some w23.heap.size,some 66)]) vy vz vd∧Ow kEntry 66 w58.heap (okL [(va,some w23.heap.size,some 66)]) (okL []) vf vg vc∧Ext w w58∧Ext w6 w58∧Ext w14 w58∧Box w58.heap b11 26 [iv zv,iv zw,.slice Qq Qc.length Qr]∧Box w58.heap b8 30 [.slice vl ve.length vm,.slice vy vd.length vz,iv vA,iv vB,iv vs,iv vt,.slice vf vc.length vg,iv vC]∧l10_MoveExact.l6 k vb vi vj vn vo vp vq vk vr vv vw vH vI vJ vK vx vL vM ve vd vA vB vs vt vc vC (l10_MoveExact.l0 p0 k n1) n7 zi Qc=some r) k ?_ ?_
 have h390:=Q5.ext x44
 have h391:=Z7.ext x44
 have h392:=Z8.ext x44
 have h393:=Z9.ext x44
 have h394:=Q6.tr x44
 have h395:=Q7.tr x44
 have h396:=Q8.tr x44
 have h397:=Ya.ext x44
 exact fun a ha=>⟨0,vN,v7,v8,ha.sb,by omega,(h390.sb),h391,h392,h393,h394,h395,h396,h389,h397,H⟩
 rintro n7 a w58 ⟨zi,Qc,Qq,Qr,hS,hle,Yg,Yh,Yi,Yj,Zd,Ze,Zf,ZF,Yk,H⟩ hp
 obtain _|n7:=n7
 cases H
 rw [l10_MoveExact.l6] at H
 refine CW.go hp hS ?_
 have xt9:Ext w58 w58:=Upd.refl _ _
 refine CW.seq (CW.seq (CW.lex [.W,.W,.L,.W,.W] rfl (pu 2 rfl (RW.lb tk [.slice Qq Qc.length Qr] ZF 2 ?_))))
 refine pu 2 rfl (RW.done (NW.next (CW.i H (fun c21 H=>?_) fun c21 H=>?_)))
 refine CW.skip (NW.next (CW.seq (CW.block (CW.lex [.W,.L,.W,.W,.W,.M] rfl (pu 1 rfl (RW.lb tk [.slice Qq Qc.length Qr] ZF 2 ?_))))))
 refine pu 2 rfl ?_
 obtain ⟨g10,H⟩:=guard_some H
 obtain ⟨ad10,_,e10,_,a10⟩:=Yg.at_ g10.1 g10.2 default
 refine RW.ix tk g10 e10 ?_
 refine RW.storeElY0 (y:=(⟨(-9),0,0,0,0⟩:Entry)) (lv:=[]) tk Yg (j:=zi.toNat) (by have:=g10;omega) default [iv (-9),iv 0,iv 0,iv 0,iv 0] (fun cs ok' hr=>Kd.any_lay hr (Nat.le_of_ble_eq_true rfl) rfl) trivial ⟨rfl,rfl,rfl⟩ rfl rfl e10 rfl rfl rfl rfl rfl ?_
 rintro w59 x45 ⟨_,s4⟩ h398
 have sx45:=x45.size
 have h399:=h398.sub (l':=[(w22.heap.size,some va,some 66)]) (li':=[]) ⟨(.inl ⟨by omega,by omega,rfl⟩),trivial⟩ trivial
 have h400:=ZF.tL x45
 have h401:Box w59.heap b11 26 [iv zv,iv zw,.slice Qq (Qc.set zi.toNat (⟨(-9),0,0,0,0⟩:Entry)).length Qr]:=by simpa only [List.length_set] using h400
 refine RW.done ?_
 refine NW.norm_block (NW.next ?_)
 refine CW.lw 3 rfl (pu 3 rfl (RW.done ?_))
 have h402:=Yh.tL x45
 have h403:=Yi.turnL x45 ⟨⟨.inl (nq rfl),trivial⟩,trivial⟩ ⟨⟨.inr (.inr (by omega)),trivial⟩,trivial⟩
 have h404:=Yj.turnL x45 ⟨⟨.inr (.inr (by omega)),trivial⟩,trivial⟩ trivial
 have h405:=Ext.turn Zd x45 ⟨by omega,trivial⟩
 have h406:=Ext.turn Ze x45 ⟨by omega,trivial⟩
 have h407:=Ext.turn Zf x45 ⟨by omega,trivial⟩
 have h408:=Yk.tL x45
 exact NW.J fun a ha=>⟨n7,Nat.lt_succ_self n7,(w64 (zi+1)),(Qc.set zi.toNat (⟨(-9),0,0,0,0⟩:Entry)),Qq,Qr,ha.sb,by omega,(h399.sb),h402,h403,h404,h405,h406,h407,h401,h408,H⟩
 refine CW.exit ?_
 refine NW.exit_then (NW.exit_then (NW.exit_hit ?_))
 refine NW.end_ ?_
 refine NW.ret0 rfl ⟨_,rfl,?_⟩
 refine RW.done (NW.end_ ?_)
 exact NW.ret0 rfl ⟨rfl,by omega,Yh,Yi,Yj,Zd,Ze,Zf,Yk,H⟩
 rintro _ w44 ⟨rfl,hle,YW,YX,YY,ZG,vQ,vO,YZ,H⟩
 refine ⟨_,rfl,?_⟩
 unfold l10_MoveExact.j6 at H
 have xt10:Ext w44 w44:=Upd.refl _ _
 refine RW.done (NW.next (CW.seq (CW.seq (CW.lex [.L,.L,.X,.W] rfl (RW.lw tk (z2.ext vO) ?_)))))
 refine RW.lw tk (z0.ext vO) ?_
 refine RW.cp H ent14 (fun _ h=>r0_EqPool.calls h ((h72.ext vO).all.to kDevice_ro rfl) (h72.ext vO).len ((h73.ext vO).all.to kTable_ro rfl) (h73.ext vO).len (h74.ext vO).all (h74.ext vO).len ((h31.ext vQ).all.to kDevice_ro rfl) (h31.ext vQ).len ((h32.ext vQ).all.to kTable_ro rfl) (h32.ext vQ).len (h33.ext vQ).all (h33.ext vQ).len) fun y18 w60 x46 sx46 H=>?_
 refine pu 1 rfl (RW.done (NW.next ?_))
 have j2:=(Qa.ext vO).ext x46
 have j3:=ZG.tr x46
 have j4:=vQ.tr x46
 have j5:=(z0.ext vO).ext x46
 have j6:=(h31.ext vQ).ext x46
 have j7:=(h32.ext vQ).ext x46
 have j8:=(h33.ext vQ).ext x46
 refine CW.n H (fun c22 H=>?_) fun c22 H=>?_
 refine CW.skip (NW.next (CW.seq (CW.seq (CW.lw 2 rfl (pu 2 rfl (RW.done (NW.next ?_)))))))
 refine CW.n H (fun c23 H=>?_) fun c23 H=>?_
 refine CW.skip (NW.next (CW.seq (CW.lex [.L,.X,.M,.W] rfl ?_)))
 have h410:=YZ.ext x46
 refine RW.lw tk h410 ?_
 have h411:=YW.ext x46
 have h412:=YX.ext x46
 have h413:=YY.ext x46
 obtain ⟨y19,h414,H⟩:=bind_some H
 refine RW.cl ent44 (r0_CopyPool.calls h414 (h411.all.to kDevice_ro rfl) h411.len (h412.all.to kTable_ro rfl) h412.len h413.all h413.len) ?_
 rintro _ w61 ⟨A41,c_41,A42,c_42,A43,c_43,rfl,x47,h415,h416,h417⟩
 refine ⟨_,rfl,x47,?_⟩
 have sx47:=x47.size
 have h418:Ow kDeviceO 40 w61.heap (okL [(w60.heap.size,some w61.heap.size,some 40)]) (okL [(w60.heap.size,some w61.heap.size,some 105)]) A41 c_41 y19.Devices:=h415.close
 have h419:Ow kTableO 26 w61.heap (okL [(w60.heap.size,some w61.heap.size,some 26)]) (okL [(w60.heap.size,some w61.heap.size,some 66)]) A42 c_42 y19.Tables:=h416.close
 have h420:Ow kEntry 66 w61.heap (okL [(w60.heap.size,some w61.heap.size,some 66)]) (okL []) A43 c_43 y19.Job.Table.List_:=h417.close
 have h421:=j2.ext x47
 refine RW.sf tk h421 fun w62 x48 sx48 h423=>?_
 refine pu 1 rfl (RW.done (NW.next (CW.ret ?_)))
 have h424:=h418.tB x48 h421
 have h425:=h419.tB x48 h421
 have h426:=h420.tB x48 h421
 have h427:=(j3.tr x47).tB x48
 have h428:=(j4.tr x47).tB x48
 exact NW.ret2 rfl (resOne_cell tk (h423.at 0) rfl rfl rfl) (by rfl) ⟨y19.Devices,A41,c_41,y19.Tables,A42,c_42,y19.Job.Dev,y19.Job.At,y19.Job.Table.Dev,y19.Job.Table.Size,y19.Job.Table.List_,A43,c_43,y19.Next,true,rfl,by omega,(h424.sub ⟨(.inr (.inl ⟨by omega,trivial,rfl⟩)),trivial⟩ ⟨(.inl ⟨by omega,trivial,rfl⟩),trivial⟩),(h425.sub ⟨(.inr (.inl ⟨by omega,trivial,rfl⟩)),trivial⟩ ⟨(.inl ⟨by omega,trivial,rfl⟩),trivial⟩),(h426.sub ⟨(.inr (.inl ⟨by omega,trivial,rfl⟩)),trivial⟩ trivial),h427,h428,H⟩
 refine CW.seq (CW.lex [.L,.M,.W] rfl (RW.lw tk j5 ?_))
 refine RW.sf tk j2 fun w63 x49 sx49 h432=>?_
 refine pu 1 rfl (RW.done (NW.next (CW.ret (NW.ret_then ?_))))
 have h433:=j6.tB x49 j2
 have h434:=j7.tB x49 j2
 have h435:=j8.tB x49 j2
 have h436:=j3.tB x49
 have h437:=j4.tB x49
 exact NW.ret2 rfl (resOne_cell tk (h432.at 0) rfl rfl rfl) (by rfl) ⟨vi,zp,zq,vj,zr,zs,vn,vo,vp,vq,vk,zt,zu,vr,true,rfl,by omega,(h433.sb),(h434.sb),(h435.sb),h436,h437,H⟩
 refine CW.seq (CW.lex [.L,.M,.W] rfl (RW.lw tk j5 ?_))
 refine RW.sf tk j2 fun w65 x50 sx50 h441=>?_
 refine pu 1 rfl (RW.done (NW.next (CW.ret (NW.ret_then ?_))))
 have h442:=j6.tB x50 j2
 have h443:=j7.tB x50 j2
 have h444:=j8.tB x50 j2
 have h445:=j3.tB x50
 have h446:=j4.tB x50
 exact NW.ret2 rfl (resOne_cell tk (h441.at 0) rfl rfl rfl) (by rfl) ⟨vi,zp,zq,vj,zr,zs,vn,vo,vp,vq,vk,zt,zu,vr,false,rfl,by omega,(h442.sb),(h443.sb),(h444.sb),h445,h446,H⟩
 rintro _ w10 ⟨zl,zx,zy,zm,zz,zA,zO,zP,zQ,zR,zn,zB,zC,zS,zT,rfl,hle,ZH,ZI,ZJ,ZK,ZL,H⟩
 refine ⟨_,rfl,?_⟩
 unfold l10_MoveExact.j2 at H
 have h447:Ow kDeviceO 40 w10.heap (okL [(w2.heap.size,some w6.heap.size,some 40),(w9.heap.size,some w10.heap.size,some 40)]) (okL [(w2.heap.size,some w10.heap.size,some 105)]) zx zy zl:=ZH.close
 have h448:Ow kTableO 26 w10.heap (okL [(w2.heap.size,some w6.heap.size,some 26),(w9.heap.size,some w10.heap.size,some 26)]) (okL [(w2.heap.size,some w10.heap.size,some 66)]) zz zA zm:=ZI.close
 have h449:Ow kEntry 66 w10.heap (okL [(w2.heap.size,some w6.heap.size,some 66),(w9.heap.size,some w10.heap.size,some 66)]) (okL []) zB zC zn:=ZJ.close
 have xt11:Ext w10 w10:=Upd.refl _ _
 refine pu 3 rfl (RW.al tk fun b12 w66 x51 sx51 l21 ltb12 h450=>?_)
 refine RW.sf tk h450 fun w67 x52 sx52 h452=>?_
 refine pu 1 rfl (RW.done ?_)
 have h453:=(h447.ext x51).tB x52 h450
 have h454:=(h448.ext x51).tB x52 h450
 have h455:=(h449.ext x51).tB x52 h450
 have h456:=(ZK.tr x51).tB x52
 have h457:=(ZL.tr x51).tB x52
 exact NW.J fun a ha=>⟨zT,b12,zl,zx,zy,zm,zz,zA,zO,zP,zQ,zR,zn,zB,zC,zS,ha.sb,by omega,(h453.sub ⟨(.inl ⟨by omega,by omega,rfl⟩),⟨(.inr (.inl ⟨by omega,trivial,rfl⟩)),trivial⟩⟩ ⟨(.inl ⟨by omega,trivial,rfl⟩),trivial⟩),(h454.sub ⟨(.inl ⟨by omega,by omega,rfl⟩),⟨(.inr (.inl ⟨by omega,trivial,rfl⟩)),trivial⟩⟩ ⟨(.inl ⟨by omega,trivial,rfl⟩),trivial⟩),(h455.sub ⟨(.inl ⟨by omega,by omega,rfl⟩),⟨(.inr (.inl ⟨by omega,trivial,rfl⟩)),trivial⟩⟩ trivial),h456,h457,h452,by omega,H⟩
 refine RW.al tk fun b3 w10 x7 sx7 l4 ltb3 h3801=>?_
 refine RW.callFM (R:=fun e w11=>∃(zl:List Device) (zx:Option Addr) (zy:Nat) (zm:List Table) (zz:Option Addr) (zA:Nat) (zO:Int) (zP:Int) (zQ:Int) (zR:Int) (zn:List Entry) (zB:Option Addr) (zC:Nat) (zS:Int) (zT:Bool),e=.returned (.tuple #[.agg #[.slice zx zl.length zy,.slice zz zm.length zA,iv zO,iv zP,iv zQ,iv zR,.slice zB zn.length zC,iv zS],.bool zT])∧w10.heap.size≤w11.heap.size∧Ow kDeviceO 40 w11.heap (okL [(w2.heap.size,some w6.heap.size,some 40),(w10.heap.size,none,some 40)]) (okL [(w2.heap.size,none,some 105)]) zx zy zl∧Ow kTableO 26 w11.heap (okL [(w2.heap.size,some w6.heap.size,some 26),(w10.heap.size,none,some 26)]) (okL [(w2.heap.size,none,some 66)]) zz zA zm∧Ow kEntry 66 w11.heap (okL [(w2.heap.size,some w6.heap.size,some 66),(w10.heap.size,none,some 66)]) (okL []) zB zC zn∧Ext w w11∧Ext w6 w11∧Box w11.heap b3 30 [.slice none 0 0,.slice none 0 0,iv 0,iv 0,iv 0,iv 0,.slice none 0 0,iv 0]∧l10_MoveExact.j2 vb (l10_MoveExact.l0 p0 k n1) zl zm zO zP zQ zR zn zS zT=some r) ent75 ⟨rfl,rfl,rfl,rfl⟩ rfl rfl rfl ?_ ?_
 refine cst Tryz.func75 151 ?_
 refine CW.seq (CW.lex [.X,.X,.X,.W] rfl (RW.bx fun b4 w12 x8 sx8 l5 ltb4 h3901=>?_))
 refine RW.bx fun b5 w13 x9 sx9 l6 ltb5 h4001=>?_
 refine RW.al tk fun b6 w14 x10 sx10 l7 ltb6 h4101=>?_
 refine pu 1 rfl (RW.done (NW.next ?_))
 refine CW.seqJ (fun a w15=>∃(v9:List Ptr) (zD:Option Addr) (zE:Nat) (zo:Nat) (vv:List Device) (zU:Option Addr) (zV:Nat) (vw:List Table) (zW:Option Addr) (zX:Nat) (vH:Int) (vI:Int) (vJ:Int) (vK:Int) (vx:List Entry) (zY:Option Addr) (zZ:Nat) (vL:Int),Sat 151 [(2,.pointer (some ⟨b4,0,none⟩)),(3,.pointer (some ⟨b5,0,none⟩)),(4,.pointer (some ⟨b6,0,none⟩)),(6,.pointer (some ⟨zo,0,none⟩)),(7,.slice zD v9.length zE)] a∧w14.heap.size≤w15.heap.size∧Ow kPtr 43 w15.heap (okL [(w14.heap.size,none,some 43)]) (okL []) zD zE v9∧Sl kPtr w15.heap (okL [(0,some w.heap.size,none)]) A8 ((rd p0.A vb).Q)∧Ow kDeviceO 40 w15.heap (okL [(w14.heap.size,none,some 40)]) (okL [(w14.heap.size,none,some 105)]) zU zV vv∧Ow kTableO 26 w15.heap (okL [(w14.heap.size,none,some 26)]) (okL [(w14.heap.size,none,some 66)]) zW zX vw∧Ow kEntry 66 w15.heap (okL [(w14.heap.size,none,some 66)]) (okL []) zY zZ vx∧Ext w w15∧Ext w6 w15∧Box w15.heap b4 30 [.slice zp vi.length zq,.slice zr vj.length zs,iv vn,iv vo,iv vp,iv vq,.slice zt vk.length zu,iv vr]∧Box w15.heap b5 60 [iv ((rd p0.A vb).Do),iv ((rd p0.A vb).N),.slice A8 ((rd p0.A vb).Q).length c_8]∧Box w15.heap b6 30 [.slice none 0 0,.slice none 0 0,iv 0,iv 0,iv 0,iv 0,.slice none 0 0,iv 0]∧Box w15.heap b3 30 [.slice none 0 0,.slice none 0 0,iv 0,iv 0,iv 0,iv 0,.slice none 0 0,iv 0]∧Box w15.heap zo 30 [.slice zU vv.length zV,.slice zW vw.length zX,iv vH,iv vI,iv vJ,iv vK,.slice zY vx.length zZ,iv vL]∧w14.heap.size≤zo∧l10_MoveExact.j3 p0 k vb vi vj vn vo vp vq vk vr (l10_MoveExact.l0 p0 k n1) v9 vv vw vH vI vJ vK vx vL=some r) ?_ ?_
 refine CW.ord [0,1,0,4,15,0,63,127] (ofL [(2,.W),(0,.L),(3,.L)] (.two 1 .X (ofL [] (.two 4 .X (ofL [(5,.X),(6,.M),(7,.W)] .nil) 5 .X (ofL [(4,.X),(6,.M),(7,.W)] .nil))) 5 .X (ofL [(1,.X),(4,.X),(6,.M),(7,.W)] .nil))) mixed (by kernel_rfl) ?_
 intro w16 x11
 have sx11:=x11.size
 refine pu 1 rfl ?_
 have h4201:=((h3901.ext x9).ext x10).ext x11
 refine RW.lw tk h4201 ?_
 have h4302:=(h4001.ext x10).ext x11
 refine RW.lb tk [.slice A8 ((rd p0.A vb).Q).length c_8] h4302 2 ?_
 refine RW.two ?_ ?_
 have h4402:=((((((h31.ext vR).ext x6).ext x7).ext x8).ext x9).ext x10).ext x11
 have h4502:=((((((h32.ext vR).ext x6).ext x7).ext x8).ext x9).ext x10).ext x11
 have h4602:=((((((h33.ext vR).ext x6).ext x7).ext x8).ext x9).ext x10).ext x11
 obtain ⟨y3,h4702,H⟩:=bind_some H
 refine RW.cl ent44 (r0_CopyPool.calls h4702 (h4402.all.to kDevice_ro rfl) h4402.len (h4502.all.to kTable_ro rfl) h4502.len h4602.all h4602.len) ?_
 rintro _ w17 ⟨A9,c_9,A10,c_10,A11,c_11,rfl,x12,h4802,h4902,h5002⟩
 refine ⟨_,rfl,x12,?_⟩
 have sx12:=x12.size
 have h5102:Ow kDeviceO 40 w17.heap (okL [(w16.heap.size,some w17.heap.size,some 40)]) (okL [(w16.heap.size,some w17.heap.size,some 105)]) A9 c_9 y3.Devices:=h4802.close
 have h5202:Ow kTableO 26 w17.heap (okL [(w16.heap.size,some w17.heap.size,some 26)]) (okL [(w16.heap.size,some w17.heap.size,some 66)]) A10 c_10 y3.Tables:=h4902.close
 have h5303:Ow kEntry 66 w17.heap (okL [(w16.heap.size,some w17.heap.size,some 66)]) (okL []) A11 c_11 y3.Job.Table.List_:=h5002.close
 refine RW.two ?_ ?_
 have h5403:=(((((h37.ext x7).ext x8).ext x9).ext x10).ext x11).ext x12
 obtain ⟨y4,h5503,H⟩:=bind_some H
 refine RW.cl ent100 (r0_CopyPtrs.calls h5503 h5403.all l3) ?_
 rintro _ w18 ⟨A12,c_12,rfl,x13,h5603⟩
 refine ⟨_,rfl,x13,?_⟩
 have sx13:=x13.size
 have h5703:Ow kPtr 43 w18.heap (okL [(w17.heap.size,some w18.heap.size,some 43)]) (okL []) A12 c_12 y4:=h5603.close
 refine RW.al tk fun b7 w19 x14 sx14 l8 ltb7 h5803=>?_
 refine RW.sf tk h5803 fun w20 x15 sx15 h6003=>?_
 refine pu 1 rfl (RW.done ?_)
 have h6103:=(h5703.ext x14).tB x15 h5803
 have h6203:=((h5403.ext x13).ext x14).turnB x15 h5803 ⟨.inr (by omega),trivial⟩
 have h6303:=((h5102.ext x13).ext x14).tB x15 h5803
 have h6403:=((h5202.ext x13).ext x14).tB x15 h5803
 have h6503:=((h5303.ext x13).ext x14).tB x15 h5803
 have h6603:=(((((((((zN.tr x6).tr x7).tr x8).tr x9).tr x10).tr x11).tr x12).tr x13).tr x14).tB x15
 have h6703:=(((((((((vR.tr x6).tr x7).tr x8).tr x9).tr x10).tr x11).tr x12).tr x13).tr x14).tB x15
 have h6803:=(((h4201.ext x12).ext x13).ext x14).tB x15
 have h6903:=(((h4302.ext x12).ext x13).ext x14).tB x15
 have h7002:=((((h4101.ext x11).ext x12).ext x13).ext x14).tB x15
 have h7101:=(((((((h3801.ext x8).ext x9).ext x10).ext x11).ext x12).ext x13).ext x14).tB x15
 exact NW.J fun a ha=>⟨y4,A12,c_12,b7,y3.Devices,A9,c_9,y3.Tables,A10,c_10,y3.Job.Dev,y3.Job.At,y3.Job.Table.Dev,y3.Job.Table.Size,y3.Job.Table.List_,A11,c_11,y3.Next,ha.sb,by omega,(h6103.sb),h6203,(h6303.sb),(h6403.sb),(h6503.sb),h6603,h6703,h6803,h6903,h7002,h7101,h6003,by omega,H⟩
 refine RW.al tk fun b7 w18 x13 sx13 l8 ltb7 h5404=>?_
 have h5504:=((((((h37.ext x7).ext x8).ext x9).ext x10).ext x11).ext x12).ext x13
 obtain ⟨y4,h5604,H⟩:=bind_some H
 refine RW.cl ent100 (r0_CopyPtrs.calls h5604 h5504.all l3) ?_
 rintro _ w19 ⟨A12,c_12,rfl,x14,h5704⟩
 refine ⟨_,rfl,x14,?_⟩
 have sx14:=x14.size
 have h5804:Ow kPtr 43 w19.heap (okL [(w18.heap.size,some w19.heap.size,some 43)]) (okL []) A12 c_12 y4:=h5704.close
 have h5904:=h5404.ext x14
 refine RW.sf tk h5904 fun w20 x15 sx15 h6104=>?_
 refine pu 1 rfl (RW.done ?_)
 have h6204:=h5804.tB x15 h5904
 have h6304:=(h5504.ext x14).turnB x15 h5904 ⟨.inr (by omega),trivial⟩
 have h6404:=((h5102.ext x13).ext x14).tB x15 h5904
 have h6504:=((h5202.ext x13).ext x14).tB x15 h5904
 have h6604:=((h5303.ext x13).ext x14).tB x15 h5904
 have h6704:=(((((((((zN.tr x6).tr x7).tr x8).tr x9).tr x10).tr x11).tr x12).tr x13).tr x14).tB x15
 have h6804:=(((((((((vR.tr x6).tr x7).tr x8).tr x9).tr x10).tr x11).tr x12).tr x13).tr x14).tB x15
 have h6904:=(((h4201.ext x12).ext x13).ext x14).tB x15
 have h7003:=(((h4302.ext x12).ext x13).ext x14).tB x15
 have h7102:=((((h4101.ext x11).ext x12).ext x13).ext x14).tB x15
 have h7201:=(((((((h3801.ext x8).ext x9).ext x10).ext x11).ext x12).ext x13).ext x14).tB x15
 exact NW.J fun a ha=>⟨y4,A12,c_12,b7,y3.Devices,A9,c_9,y3.Tables,A10,c_10,y3.Job.Dev,y3.Job.At,y3.Job.Table.Dev,y3.Job.Table.Size,y3.Job.Table.List_,A11,c_11,y3.Next,ha.sb,by omega,(h6204.sb),h6304,(h6404.sb),(h6504.sb),(h6604.sb),h6704,h6804,h6904,h7003,h7102,h7201,h6104,by omega,H⟩
 refine RW.al tk fun b7 w17 x12 sx12 l8 ltb7 h4403=>?_
 have h4503:=(((((((h31.ext vR).ext x6).ext x7).ext x8).ext x9).ext x10).ext x11).ext x12
 have h4603:=(((((((h32.ext vR).ext x6).ext x7).ext x8).ext x9).ext x10).ext x11).ext x12
 have h4703:=(((((((h33.ext vR).ext x6).ext x7).ext x8).ext x9).ext x10).ext x11).ext x12
 obtain ⟨y3,h4803,H⟩:=bind_some H
 refine RW.cl ent44 (r0_CopyPool.calls h4803 (h4503.all.to kDevice_ro rfl) h4503.len (h4603.all.to kTable_ro rfl) h4603.len h4703.all h4703.len) ?_
 rintro _ w18 ⟨A9,c_9,A10,c_10,A11,c_11,rfl,x13,h4903,h5003,h5103⟩
 refine ⟨_,rfl,x13,?_⟩
 have sx13:=x13.size
 have h5203:Ow kDeviceO 40 w18.heap (okL [(w17.heap.size,some w18.heap.size,some 40)]) (okL [(w17.heap.size,some w18.heap.size,some 105)]) A9 c_9 y3.Devices:=h4903.close
 have h5304:Ow kTableO 26 w18.heap (okL [(w17.heap.size,some w18.heap.size,some 26)]) (okL [(w17.heap.size,some w18.heap.size,some 66)]) A10 c_10 y3.Tables:=h5003.close
 have h5405:Ow kEntry 66 w18.heap (okL [(w17.heap.size,some w18.heap.size,some 66)]) (okL []) A11 c_11 y3.Job.Table.List_:=h5103.close
 have h5505:=((((((h37.ext x7).ext x8).ext x9).ext x10).ext x11).ext x12).ext x13
 obtain ⟨y4,h5605,H⟩:=bind_some H
 refine RW.cl ent100 (r0_CopyPtrs.calls h5605 h5505.all l3) ?_
 rintro _ w19 ⟨A12,c_12,rfl,x14,h5705⟩
 refine ⟨_,rfl,x14,?_⟩
 have sx14:=x14.size
 have h5805:Ow kPtr 43 w19.heap (okL [(w18.heap.size,some w19.heap.size,some 43)]) (okL []) A12 c_12 y4:=h5705.close
 have h5905:=(h4403.ext x13).ext x14
 refine RW.sf tk h5905 fun w20 x15 sx15 h6105=>?_
 refine pu 1 rfl (RW.done ?_)
 have h6205:=h5805.tB x15 h5905
 have h6305:=(h5505.ext x14).turnB x15 h5905 ⟨.inr (by omega),trivial⟩
 have h6405:=(h5203.ext x14).tB x15 h5905
 have h6505:=(h5304.ext x14).tB x15 h5905
 have h6605:=(h5405.ext x14).tB x15 h5905
 have h6705:=(((((((((zN.tr x6).tr x7).tr x8).tr x9).tr x10).tr x11).tr x12).tr x13).tr x14).tB x15
 have h6805:=(((((((((vR.tr x6).tr x7).tr x8).tr x9).tr x10).tr x11).tr x12).tr x13).tr x14).tB x15
 have h6905:=(((h4201.ext x12).ext x13).ext x14).tB x15
 have h7004:=(((h4302.ext x12).ext x13).ext x14).tB x15
 have h7103:=((((h4101.ext x11).ext x12).ext x13).ext x14).tB x15
 have h7202:=(((((((h3801.ext x8).ext x9).ext x10).ext x11).ext x12).ext x13).ext x14).tB x15
 exact NW.J fun a ha=>⟨y4,A12,c_12,b7,y3.Devices,A9,c_9,y3.Tables,A10,c_10,y3.Job.Dev,y3.Job.At,y3.Job.Table.Dev,y3.Job.Table.Size,y3.Job.Table.List_,A11,c_11,y3.Next,ha.sb,by omega,(h6205.sb),h6305,(h6405.sb),(h6505.sb),(h6605.sb),h6705,h6805,h6905,h7004,h7103,h7202,h6105,by omega,H⟩
 rintro a w15 ⟨v9,zD,zE,zo,vv,zU,zV,vw,zW,zX,vH,vI,vJ,vK,vx,zY,zZ,vL,hS,hle,Zw,Zx,Zy,Zz,ZA,QH,vP,z1,Qa,Zg,z0,z2,YQ,H⟩ hp
 have YR:=z2.lt
 unfold l10_MoveExact.j3 at H
 refine CW.go hp hS ?_
 have h7301:Ow kPtr 43 w15.heap (okL [(w14.heap.size,some w15.heap.size,some 43)]) (okL []) zD zE v9:=Zw.close
 have h7401:Ow kDeviceO 40 w15.heap (okL [(w14.heap.size,some w15.heap.size,some 40)]) (okL [(w14.heap.size,some w15.heap.size,some 105)]) zU zV vv:=Zy.close
 have h7501:Ow kTableO 26 w15.heap (okL [(w14.heap.size,some w15.heap.size,some 26)]) (okL [(w14.heap.size,some w15.heap.size,some 66)]) zW zX vw:=Zz.close
 have h7601:Ow kEntry 66 w15.heap (okL [(w14.heap.size,some w15.heap.size,some 66)]) (okL []) zY zZ vx:=ZA.close
 have xt2:Ext w15 w15:=Upd.refl _ _
 refine CW.seq (CW.lex [.L,.X,.W] rfl (RW.lw tk z1 ?_))
 refine RW.cp H ent8 (fun _ h=>r9_Pool.calls h ((h31.ext vP).all.to kDevice_ro rfl) (h31.ext vP).len ((h32.ext vP).all.to kTable_ro rfl) (h32.ext vP).len (h33.ext vP).all (h33.ext vP).len) fun y5 w21 x16 sx16 H=>?_
 refine pu 1 rfl (RW.done (NW.next (CW.seq (CW.lw 1 rfl (pu 1 rfl (RW.done (NW.next ?_)))))))
 refine CW.seq (CW.lex [.X,.X] rfl (RW.al tk fun b8 w22 x17 sx17 l9 ltb8 h7801=>?_))
 refine RW.al tk fun b9 w23 x18 sx18 l10 ltb9 h7901=>?_
 refine RW.done (NW.next (CW.seq (CW.lw 2 rfl (pu 2 rfl (RW.done (NW.next (CW.seq ?_)))))))
 refine CW.lw 1 rfl (pu 1 rfl (RW.done (NW.next ?_)))
 refine CW.seqJ (fun a w24=>∃(vM:Int) (z3:List Pair) (Qg:Option Addr) (Qh:Nat) (zF:List Pair) (z4:Option Addr) (z5:Nat) (Qi:Int) (ve:List Device) (vl:Option Addr) (vm:Nat) (vd:List Table) (vy:Option Addr) (vz:Nat) (vA:Int) (vB:Int) (vs:Int) (vt:Int) (vc:List Entry) (vf:Option Addr) (vg:Nat) (vC:Int) (vE:List Device) (vT:Option Addr) (vU:Nat) (vF:List Table) (vV:Option Addr) (vW:Nat) (vX:Int) (vY:Int) (vZ:Int) (v0:Int) (vG:List Entry) (v1:Option Addr) (v2:Nat) (v3:Int) (va:Nat),Sat 151 [(2,.pointer (some ⟨b4,0,none⟩)),(3,.pointer (some ⟨b5,0,none⟩)),(4,.pointer (some ⟨b6,0,none⟩)),(6,.pointer (some ⟨zo,0,none⟩)),(7,.slice zD v9.length zE),(9,iv vM),(10,.pointer (some ⟨b8,0,none⟩)),(11,.pointer (some ⟨b9,0,none⟩)),(12,.slice Qg z3.length Qh),(13,.slice z4 zF.length z5),(14,iv Qi)] a∧w23.heap.size≤w24.heap.size∧Ow kPair 124 w24.heap (okL [(w23.heap.size,some va,some 124)]) (okL []) Qg Qh z3∧Ow kPair 124 w24.heap (okL [(va,none,some 124)]) (okL []) z4 z5 zF∧Ow kDeviceO 40 w24.heap (okL [(w23.heap.size,some va,some 40)]) (okL [(w23.heap.size,some va,some 105)]) vl vm ve∧Ow kTableO 26 w24.heap (okL [(w23.heap.size,some va,some 26)]) (okL [(w23.heap.size,some va,some 66)]) vy vz vd∧Ow kEntry 66 w24.heap (okL [(w23.heap.size,some va,some 66)]) (okL []) vf vg vc∧Ow kDeviceO 40 w24.heap (okL [(va,none,some 40)]) (okL [(va,none,some 105)]) vT vU vE∧Ow kTableO 26 w24.heap (okL [(va,none,some 26)]) (okL [(va,none,some 66)]) vV vW vF∧Ow kEntry 66 w24.heap (okL [(va,none,some 66)]) (okL []) v1 v2 vG∧Ext w w24∧Ext w6 w24∧Ext w15 w24∧Box w24.heap b8 30 [.slice vl ve.length vm,.slice vy vd.length vz,iv vA,iv vB,iv vs,iv vt,.slice vf vc.length vg,iv vC]∧Box w24.heap b9 30 [.slice vT vE.length vU,.slice vV vF.length vW,iv vX,iv vY,iv vZ,iv v0,.slice v1 vG.length v2,iv v3]∧w23.heap.size≤va∧va≤w24.heap.size∧l10_MoveExact.j4 p0 k vb vi vj vn vo vp vq vk vr v9 vv vw vH vI vJ vK vx vL (l10_MoveExact.l0 p0 k n1) vM z3 zF Qi ve vd vA vB vs vt vc vC vE vF vX vY vZ v0 vG v3=some r) ?_ ?_
 refine CW.seq (CW.lex [.W,.L,.X] rfl (pu 1 rfl ?_))
 have h8001:=((Qa.ext x16).ext x17).ext x18
 refine RW.lb tk [iv ((rd p0.A vb).Do)] h8001 0 ?_
 refine RW.cp H ent101 (fun _ h=>l0_Within.calls h) fun y6 w25 x19 sx19 H=>?_
 refine RW.done (NW.next (CW.block (CW.seq (CW.lw 2 rfl (pu 2 rfl (RW.done (NW.next ?_)))))))
 have j70:=(((z2.ext x16).ext x17).ext x18).ext x19
 have j71:=h8001.ext x19
 refine CW.i H (fun c4 H=>?_) fun c4 H=>?_
 refine CW.seq (CW.lex [.L,.W,.L,.X,.W,.W,.W,.M,.W] rfl (RW.lw tk j70 ?_))
 refine pu 1 rfl (RW.lb tk [iv ((rd p0.A vb).N)] j71 1 ?_)
 cases H
 refine CW.seq (CW.lw 2 rfl (pu 2 rfl (RW.done (NW.next ?_))))
 have j72:=(((h7401.ext x16).ext x17).ext x18).ext x19
 have j73:=(((h7501.ext x16).ext x17).ext x18).ext x19
 have j74:=(((h7601.ext x16).ext x17).ext x18).ext x19
 have j75:=((((hG.ext QH).ext x16).ext x17).ext x18).ext x19
 have j76:=(h7801.ext x18).ext x19
 have j77:=(((z1.ext x16).ext x17).ext x18).ext x19
 have j78:=((((h31.ext vP).ext x16).ext x17).ext x18).ext x19
 have j79:=((((h32.ext vP).ext x16).ext x17).ext x18).ext x19
 have j80:=((((h33.ext vP).ext x16).ext x17).ext x18).ext x19
 have j81:=h7901.ext x19
 have j82:=(((QH.tr x16).tr x17).tr x18).tr x19
 have j83:=(((vP.tr x16).tr x17).tr x18).tr x19
 have j84:=(((xt2.tr x16).tr x17).tr x18).tr x19
 refine CW.i H (fun c5 H=>?_) fun c5 H=>?_
 refine CW.seq (CW.lex [.L,.W,.L,.X,.W,.W,.W,.M,.W] rfl (RW.lw tk j70 ?_))
 refine pu 1 rfl (RW.lb tk [iv ((rd p0.A vb).N)] j71 1 ?_)
 obtain ⟨y7,h9001,H⟩:=bind_some H
 refine RW.cl ent11 (move_Remove.calls h9001 (j72.all.to kDevice_ro rfl) j72.len (j73.all.to kTable_ro rfl) j73.len j74.all j74.len j75) ?_
 rintro _ w26 ⟨A13,c_13,A14,c_14,A15,c_15,rfl,x20,h9101,h9201,h9301⟩
 refine ⟨_,rfl,x20,?_⟩
 have sx20:=x20.size
 have h9401:Ow kDeviceO 40 w26.heap (okL [(w25.heap.size,some w26.heap.size,some 40)]) (okL [(w25.heap.size,some w26.heap.size,some 105)]) A13 c_13 y7.1.Devices:=h9101.close
 have h9501:Ow kTableO 26 w26.heap (okL [(w25.heap.size,some w26.heap.size,some 26)]) (okL [(w25.heap.size,some w26.heap.size,some 66)]) A14 c_14 y7.1.Tables:=h9201.close
 have h9601:Ow kEntry 66 w26.heap (okL [(w25.heap.size,some w26.heap.size,some 66)]) (okL []) A15 c_15 y7.1.Job.Table.List_:=h9301.close
 refine pu 3 rfl ?_
 have h9701:=j76.ext x20
 refine RW.sf tk h9701 fun w27 x21 sx21 h9901=>?_
 refine pu 1 rfl (RW.done (NW.next (CW.seq (CW.lw 1 rfl (pu 1 rfl (RW.done (NW.next ?_)))))))
 have j93:=(j81.ext x20).tB x21
 have j94:=h9401.tB x21 h9701
 have j95:=h9501.tB x21 h9701
 have j96:=h9601.tB x21 h9701
 have j97:=(j82.tr x20).tB x21
 have j98:=(j83.tr x20).tB x21
 have j99:=(j84.tr x20).tB x21
 refine CW.i H (fun c6 H=>?_) fun c6 H=>?_
 refine CW.lex [.L,.W,.L,.X,.W,.W,.W,.M,.W] rfl ?_
 have h10001:=(j77.ext x20).tB x21
 refine RW.lw tk h10001 ?_
 refine pu 1 rfl ?_
 have h10101:=(j71.ext x20).tB x21
 refine RW.lb tk [iv ((rd p0.A vb).N)] h10101 1 ?_
 have h10201:=(j78.ext x20).tB x21 h9701
 have h10301:=(j79.ext x20).tB x21 h9701
 have h10401:=(j80.ext x20).tB x21 h9701
 obtain ⟨y8,h10501,H⟩:=bind_some H
 refine RW.cl ent104 (r9_Remove.calls h10501 (h10201.all.to kDevice_ro rfl) h10201.len (h10301.all.to kTable_ro rfl) h10301.len h10401.all h10401.len) ?_
 rintro _ w28 ⟨A16,c_16,A17,c_17,A18,c_18,rfl,x22,h10601,h10701,h10801⟩
 refine ⟨_,rfl,x22,?_⟩
 have sx22:=x22.size
 have h10901:Ow kDeviceO 40 w28.heap (okL [(w27.heap.size,some w28.heap.size,some 40)]) (okL [(w27.heap.size,some w28.heap.size,some 105)]) A16 c_16 y8.1.Devices:=h10601.close
 have h11001:Ow kTableO 26 w28.heap (okL [(w27.heap.size,some w28.heap.size,some 26)]) (okL [(w27.heap.size,some w28.heap.size,some 66)]) A17 c_17 y8.1.Tables:=h10701.close
 have h11101:Ow kEntry 66 w28.heap (okL [(w27.heap.size,some w28.heap.size,some 66)]) (okL []) A18 c_18 y8.1.Job.Table.List_:=h10801.close
 refine pu 3 rfl ?_
 have h11201:=j93.ext x22
 refine RW.sf tk h11201 fun w29 x23 sx23 h11401=>?_
 refine pu 1 rfl (RW.done (NW.norm_block ?_))
 have h11501:=(j94.ext x22).tB x23 h11201
 have h11601:=(j95.ext x22).tB x23 h11201
 have h11701:=(j96.ext x22).tB x23 h11201
 have h11801:=h10901.tB x23 h11201
 have h11901:=h11001.tB x23 h11201
 have h12001:=h11101.tB x23 h11201
 have h12101:=(j97.tr x22).tB x23
 have h12201:=(j98.tr x22).tB x23
 have h12301:=(j99.tr x22).tB x23
 have h12401:=(h9901.ext x22).tB x23
 exact NW.J fun a ha=>⟨y8.2,([]:List Pair),none,0,([]:List Pair),none,0,y7.2,y7.1.Devices,A13,c_13,y7.1.Tables,A14,c_14,y7.1.Job.Dev,y7.1.Job.At,y7.1.Job.Table.Dev,y7.1.Job.Table.Size,y7.1.Job.Table.List_,A15,c_15,y7.1.Next,y8.1.Devices,A16,c_16,y8.1.Tables,A17,c_17,y8.1.Job.Dev,y8.1.Job.At,y8.1.Job.Table.Dev,y8.1.Job.Table.Size,y8.1.Job.Table.List_,A18,c_18,y8.1.Next,w26.heap.size,ha.sb,by omega,Ow.nil,Ow.nil,(h11501.sb),(h11601.sb),(h11701.sb),(h11801.sb),(h11901.sb),(h12001.sb),h12101,h12201,h12301,h12401,h11401,by omega,by omega,H⟩
 refine CW.skip (NW.norm_block ?_)
 exact NW.J fun a ha=>⟨1,([]:List Pair),none,0,([]:List Pair),none,0,y7.2,y7.1.Devices,A13,c_13,y7.1.Tables,A14,c_14,y7.1.Job.Dev,y7.1.Job.At,y7.1.Job.Table.Dev,y7.1.Job.Table.Size,y7.1.Job.Table.List_,A15,c_15,y7.1.Next,([]:List Device),none,0,([]:List Table),none,0,0,0,0,0,([]:List Entry),none,0,0,w26.heap.size,ha.sb,by omega,Ow.nil,Ow.nil,(j94.sb),(j95.sb),(j96.sb),Ow.nil,Ow.nil,Ow.nil,j97,j98,j99,h9901,j93,by omega,by omega,H⟩
 refine CW.seq (CW.lw 2 rfl (pu 2 rfl (RW.done (NW.next (CW.i H (fun c7 H=>?_) fun c7 H=>?_)))))
 refine CW.seq (CW.lex [.L,.W,.X,.W,.W,.W,.M,.W] rfl (RW.lw tk j70 ?_))
 refine pu 1 rfl ?_
 cases H
 refine CW.seq (CW.lw 2 rfl (pu 2 rfl (RW.done (NW.next (CW.i H (fun c8 H=>?_) fun c8 H=>?_)))))
 refine CW.seq (CW.lex [.L,.W,.L,.X,.W,.W,.W,.M,.W] rfl (RW.lw tk j70 ?_))
 refine pu 1 rfl (RW.lb tk [iv ((rd p0.A vb).N)] j71 1 ?_)
 obtain ⟨y9,h13901,H⟩:=bind_some H
 refine RW.cl ent106 (move_Tidy.calls h13901 (j72.all.to kDevice_ro rfl) j72.len (j73.all.to kTable_ro rfl) j73.len j74.all j74.len j75) ?_
 rintro _ w30 ⟨A19,c_19,A20,c_20,A21,c_21,rfl,x24,h14001,h14101,h14201⟩
 refine ⟨_,rfl,x24,?_⟩
 have sx24:=x24.size
 have h14301:Ow kDeviceO 40 w30.heap (okL [(w25.heap.size,some w30.heap.size,some 40)]) (okL [(w25.heap.size,some w30.heap.size,some 105)]) A19 c_19 y9.1.Devices:=h14001.close
 have h14401:Ow kTableO 26 w30.heap (okL [(w25.heap.size,some w30.heap.size,some 26)]) (okL [(w25.heap.size,some w30.heap.size,some 66)]) A20 c_20 y9.1.Tables:=h14101.close
 have h14501:Ow kEntry 66 w30.heap (okL [(w25.heap.size,some w30.heap.size,some 66)]) (okL []) A21 c_21 y9.1.Job.Table.List_:=h14201.close
 refine pu 3 rfl ?_
 have h14601:=j76.ext x24
 refine RW.sf tk h14601 fun w31 x25 sx25 h14801=>?_
 refine pu 1 rfl (RW.done (NW.next (CW.seq (CW.lw 1 rfl (pu 1 rfl (RW.done (NW.next ?_)))))))
 have j100:=(j81.ext x24).tB x25
 have j101:=h14301.tB x25 h14601
 have j102:=h14401.tB x25 h14601
 have j103:=h14501.tB x25 h14601
 have j104:=(j82.tr x24).tB x25
 have j105:=(j83.tr x24).tB x25
 have j106:=(j84.tr x24).tB x25
 refine CW.i H (fun c9 H=>?_) fun c9 H=>?_
 refine CW.lex [.L,.W,.L,.X,.W,.W,.W,.M,.W] rfl ?_
 have h14901:=(j77.ext x24).tB x25
 refine RW.lw tk h14901 ?_
 refine pu 1 rfl ?_
 have h15001:=(j71.ext x24).tB x25
 refine RW.lb tk [iv ((rd p0.A vb).N)] h15001 1 ?_
 have h15101:=(j78.ext x24).tB x25 h14601
 have h15201:=(j79.ext x24).tB x25 h14601
 have h15301:=(j80.ext x24).tB x25 h14601
 obtain ⟨y10,h15401,H⟩:=bind_some H
 refine RW.cl ent107 (r9_Tidy.calls h15401 (h15101.all.to kDevice_ro rfl) h15101.len (h15201.all.to kTable_ro rfl) h15201.len h15301.all h15301.len) ?_
 rintro _ w32 ⟨A22,c_22,A23,c_23,A24,c_24,rfl,x26,h15501,h15601,h15701⟩
 refine ⟨_,rfl,x26,?_⟩
 have sx26:=x26.size
 have h15801:Ow kDeviceO 40 w32.heap (okL [(w31.heap.size,some w32.heap.size,some 40)]) (okL [(w31.heap.size,some w32.heap.size,some 105)]) A22 c_22 y10.1.Devices:=h15501.close
 have h15901:Ow kTableO 26 w32.heap (okL [(w31.heap.size,some w32.heap.size,some 26)]) (okL [(w31.heap.size,some w32.heap.size,some 66)]) A23 c_23 y10.1.Tables:=h15601.close
 have h16001:Ow kEntry 66 w32.heap (okL [(w31.heap.size,some w32.heap.size,some 66)]) (okL []) A24 c_24 y10.1.Job.Table.List_:=h15701.close
 refine pu 3 rfl ?_
 have h16101:=j100.ext x26
 refine RW.sf tk h16101 fun w33 x27 sx27 h16301=>?_
 refine pu 1 rfl (RW.done (NW.norm_block ?_))
 have h16401:=(j101.ext x26).tB x27 h16101
 have h16501:=(j102.ext x26).tB x27 h16101
 have h16601:=(j103.ext x26).tB x27 h16101
 have h16701:=h15801.tB x27 h16101
 have h16801:=h15901.tB x27 h16101
 have h16901:=h16001.tB x27 h16101
 have h17001:=(j104.tr x26).tB x27
 have h17101:=(j105.tr x26).tB x27
 have h17201:=(j106.tr x26).tB x27
 have h17301:=(h14801.ext x26).tB x27
 exact NW.J fun a ha=>⟨y10.2,([]:List Pair),none,0,([]:List Pair),none,0,y9.2,y9.1.Devices,A19,c_19,y9.1.Tables,A20,c_20,y9.1.Job.Dev,y9.1.Job.At,y9.1.Job.Table.Dev,y9.1.Job.Table.Size,y9.1.Job.Table.List_,A21,c_21,y9.1.Next,y10.1.Devices,A22,c_22,y10.1.Tables,A23,c_23,y10.1.Job.Dev,y10.1.Job.At,y10.1.Job.Table.Dev,y10.1.Job.Table.Size,y10.1.Job.Table.List_,A24,c_24,y10.1.Next,w30.heap.size,ha.sb,by omega,Ow.nil,Ow.nil,(h16401.sb),(h16501.sb),(h16601.sb),(h16701.sb),(h16801.sb),(h16901.sb),h17001,h17101,h17201,h17301,h16301,by omega,by omega,H⟩
 refine CW.skip (NW.norm_block ?_)
 exact NW.J fun a ha=>⟨1,([]:List Pair),none,0,([]:List Pair),none,0,y9.2,y9.1.Devices,A19,c_19,y9.1.Tables,A20,c_20,y9.1.Job.Dev,y9.1.Job.At,y9.1.Job.Table.Dev,y9.1.Job.Table.Size,y9.1.Job.Table.List_,A21,c_21,y9.1.Next,([]:List Device),none,0,([]:List Table),none,0,0,0,0,0,([]:List Entry),none,0,0,w30.heap.size,ha.sb,by omega,Ow.nil,Ow.nil,(j101.sb),(j102.sb),(j103.sb),Ow.nil,Ow.nil,Ow.nil,j104,j105,j106,h14801,j100,by omega,by omega,H⟩
 refine CW.seq (CW.lex [.L,.W,.L,.X,.W,.W,.W,.W,.M,.W,.W] rfl (RW.lw tk j70 ?_))
 refine pu 1 rfl (RW.lb tk [iv ((rd p0.A vb).N)] j71 1 ?_)
 obtain ⟨y11,h18701,H⟩:=bind_some H
 refine RW.cl ent16 (move_Step.calls h18701 (j72.all.to kDevice_ro rfl) j72.len (j73.all.to kTable_ro rfl) j73.len j74.all j74.len j75) ?_
 rintro _ w34 ⟨A25,c_25,A26,c_26,A27,c_27,A28,c_28,rfl,x28,h18801,h18901,h19001,h19101⟩
 refine ⟨_,rfl,x28,?_⟩
 have sx28:=x28.size
 have h19201:Ow kDeviceO 40 w34.heap (okL [(w25.heap.size,some w34.heap.size,some 40)]) (okL [(w25.heap.size,some w34.heap.size,some 105)]) A25 c_25 y11.1.Devices:=h18801.close
 have h19301:Ow kTableO 26 w34.heap (okL [(w25.heap.size,some w34.heap.size,some 26)]) (okL [(w25.heap.size,some w34.heap.size,some 66)]) A26 c_26 y11.1.Tables:=h18901.close
 have h19401:Ow kEntry 66 w34.heap (okL [(w25.heap.size,some w34.heap.size,some 66)]) (okL []) A27 c_27 y11.1.Job.Table.List_:=h19001.close
 have h19501:Ow kPair 124 w34.heap (okL [(w25.heap.size,some w34.heap.size,some 124)]) (okL []) A28 c_28 y11.2.1:=h19101.close
 refine pu 4 rfl ?_
 have h19601:=j76.ext x28
 refine RW.sf tk h19601 fun w35 x29 sx29 h19801=>?_
 refine pu 2 rfl (RW.done (NW.next (CW.seq (CW.lw 1 rfl (pu 1 rfl (RW.done (NW.next ?_)))))))
 have j85:=(j81.ext x28).tB x29
 have j86:=h19501.tB x29 h19601
 have j87:=h19201.tB x29 h19601
 have j88:=h19301.tB x29 h19601
 have j89:=h19401.tB x29 h19601
 have j90:=(j82.tr x28).tB x29
 have j91:=(j83.tr x28).tB x29
 have j92:=(j84.tr x28).tB x29
 refine CW.i H (fun c10 H=>?_) fun c10 H=>?_
 refine CW.lex [.L,.W,.L,.X,.W,.W,.W,.W,.M,.W,.W] rfl ?_
 have h19901:=(j77.ext x28).tB x29
 refine RW.lw tk h19901 ?_
 refine pu 1 rfl ?_
 have h20001:=(j71.ext x28).tB x29
 refine RW.lb tk [iv ((rd p0.A vb).N)] h20001 1 ?_
 have h20101:=(j78.ext x28).tB x29 h19601
 have h20201:=(j79.ext x28).tB x29 h19601
 have h20301:=(j80.ext x28).tB x29 h19601
 obtain ⟨y12,h20401,H⟩:=bind_some H
 refine RW.cl ent108 (r9_Step.calls h20401 (h20101.all.to kDevice_ro rfl) h20101.len (h20201.all.to kTable_ro rfl) h20201.len h20301.all h20301.len) ?_
 rintro _ w36 ⟨A29,c_29,A30,c_30,A31,c_31,A32,c_32,rfl,x30,h20501,h20601,h20701,h20801⟩
 refine ⟨_,rfl,x30,?_⟩
 have sx30:=x30.size
 have h20901:Ow kDeviceO 40 w36.heap (okL [(w35.heap.size,some w36.heap.size,some 40)]) (okL [(w35.heap.size,some w36.heap.size,some 105)]) A29 c_29 y12.1.Devices:=h20501.close
 have h21001:Ow kTableO 26 w36.heap (okL [(w35.heap.size,some w36.heap.size,some 26)]) (okL [(w35.heap.size,some w36.heap.size,some 66)]) A30 c_30 y12.1.Tables:=h20601.close
 have h21101:Ow kEntry 66 w36.heap (okL [(w35.heap.size,some w36.heap.size,some 66)]) (okL []) A31 c_31 y12.1.Job.Table.List_:=h20701.close
 have h21201:Ow kPair 124 w36.heap (okL [(w35.heap.size,some w36.heap.size,some 124)]) (okL []) A32 c_32 y12.2.1:=h20801.close
 refine pu 4 rfl ?_
 have h21301:=j85.ext x30
 refine RW.sf tk h21301 fun w37 x31 sx31 h21501=>?_
 refine pu 2 rfl (RW.done (NW.norm_block ?_))
 have h21601:=(j86.ext x30).tB x31 h21301
 have h21701:=h21201.tB x31 h21301
 have h21801:=(j87.ext x30).tB x31 h21301
 have h21901:=(j88.ext x30).tB x31 h21301
 have h22001:=(j89.ext x30).tB x31 h21301
 have h22101:=h20901.tB x31 h21301
 have h22201:=h21001.tB x31 h21301
 have h22301:=h21101.tB x31 h21301
 have h22401:=(j90.tr x30).tB x31
 have h22501:=(j91.tr x30).tB x31
 have h22601:=(j92.tr x30).tB x31
 have h22701:=(h19801.ext x30).tB x31
 exact NW.J fun a ha=>⟨y12.2.2,y11.2.1,A28,c_28,y12.2.1,A32,c_32,y11.2.2,y11.1.Devices,A25,c_25,y11.1.Tables,A26,c_26,y11.1.Job.Dev,y11.1.Job.At,y11.1.Job.Table.Dev,y11.1.Job.Table.Size,y11.1.Job.Table.List_,A27,c_27,y11.1.Next,y12.1.Devices,A29,c_29,y12.1.Tables,A30,c_30,y12.1.Job.Dev,y12.1.Job.At,y12.1.Job.Table.Dev,y12.1.Job.Table.Size,y12.1.Job.Table.List_,A31,c_31,y12.1.Next,w34.heap.size,ha.sb,by omega,(h21601.sb),(h21701.sb),(h21801.sb),(h21901.sb),(h22001.sb),(h22101.sb),(h22201.sb),(h22301.sb),h22401,h22501,h22601,h22701,h21501,by omega,by omega,H⟩
 refine CW.skip (NW.norm_block ?_)
 exact NW.J fun a ha=>⟨1,y11.2.1,A28,c_28,([]:List Pair),none,0,y11.2.2,y11.1.Devices,A25,c_25,y11.1.Tables,A26,c_26,y11.1.Job.Dev,y11.1.Job.At,y11.1.Job.Table.Dev,y11.1.Job.Table.Size,y11.1.Job.Table.List_,A27,c_27,y11.1.Next,([]:List Device),none,0,([]:List Table),none,0,0,0,0,0,([]:List Entry),none,0,0,w34.heap.size,ha.sb,by omega,(j86.sb),Ow.nil,(j87.sb),(j88.sb),(j89.sb),Ow.nil,Ow.nil,Ow.nil,j90,j91,j92,h19801,j85,by omega,by omega,H⟩
 rintro a w24 ⟨vM,z3,Qg,Qh,zF,z4,z5,Qi,ve,vl,vm,vd,vy,vz,vA,vB,vs,vt,vc,vf,vg,vC,vE,vT,vU,vF,vV,vW,vX,vY,vZ,v0,vG,v1,v2,v3,va,hS,hle,ZB,ZC,Zo,Zp,Zq,Y0,Y1,Y2,ZD,z9,vS,QI,Yl,YS,lom,H⟩ hp
 unfold l10_MoveExact.j4 at H
 refine CW.go hp hS ?_
 have h23601:Ow kPair 124 w24.heap (okL [(va,some w24.heap.size,some 124)]) (okL []) z4 z5 zF:=ZC.close
 have h23701:Ow kDeviceO 40 w24.heap (okL [(va,some w24.heap.size,some 40)]) (okL [(va,some w24.heap.size,some 105)]) vT vU vE:=Y0.close
 have h23801:Ow kTableO 26 w24.heap (okL [(va,some w24.heap.size,some 26)]) (okL [(va,some w24.heap.size,some 66)]) vV vW vF:=Y1.close
 have h23901:Ow kEntry 66 w24.heap (okL [(va,some w24.heap.size,some 66)]) (okL []) v1 v2 vG:=Y2.close
 have xt3:Ext w24 w24:=Upd.refl _ _
 refine CW.seq ?_
 refine CW.seqJ (fun a w38=>∃(Qj:Bool),Sat 151 [(2,.pointer (some ⟨b4,0,none⟩)),(4,.pointer (some ⟨b6,0,none⟩)),(6,.pointer (some ⟨zo,0,none⟩)),(9,iv vM),(10,.pointer (some ⟨b8,0,none⟩)),(11,.pointer (some ⟨b9,0,none⟩)),(137,.bool Qj)] a∧w24.heap.size≤w38.heap.size∧Ext w w38∧Ext w6 w38∧Ext w15 w38∧Ext w24 w38∧l10_MoveExact.j5 k vb vi vj vn vo vp vq vk vr vv vw vH vI vJ vK vx vL vM ve vd vc vE vF vX vY vZ v0 vG v3 (l10_MoveExact.l0 p0 k n1) Qj=some r) ?_ ?_
 refine CW.lex [.W,.X,.W,.W,.W,.L,.L,.X,.W,.W,.W,.W,.W,.X,.W,.W,.W,.L,.L,.X,.W,.W,.W,.W,.W,.L,.X,.W,.W] rfl (pu 1 rfl (RW.cp H ent12 (fun _ h=>l10_num.calls h) fun y13 w39 x32 sx32 H=>?_))
 refine pu 3 rfl ?_
 have j107:=ZD.tr x32
 have j108:=z9.tr x32
 have j109:=vS.tr x32
 have j110:=xt3.tr x32
 refine RW.n 113 H (fun c11 H=>?_) fun c11 H=>?_
 have h24101:=QI.ext x32
 refine RW.lw tk h24101 ?_
 have h24201:=Yl.ext x32
 refine RW.lw tk h24201 ?_
 have h24301:=Zo.ext x32
 have h24401:=Zp.ext x32
 have h24501:=Zq.ext x32
 have h24601:=h23701.ext x32
 have h24701:=h23801.ext x32
 have h24801:=h23901.ext x32
 refine RW.cp H ent14 (fun _ h=>r0_EqPool.calls h (h24301.all.to kDevice_ro rfl) h24301.len (h24401.all.to kTable_ro rfl) h24401.len h24501.all h24501.len (h24601.all.to kDevice_ro rfl) h24601.len (h24701.all.to kTable_ro rfl) h24701.len h24801.all h24801.len) fun y14 w40 x33 sx33 H=>?_
 refine pu 3 rfl ?_
 have j111:=j107.tr x33
 have j112:=j108.tr x33
 have j113:=j109.tr x33
 have j114:=j110.tr x33
 refine RW.n 119 H (fun c12 H=>?_) fun c12 H=>?_
 refine pu 2 rfl ?_
 have h25001:=(ZB.ext x32).ext x33
 have h25101:=(h23601.ext x32).ext x33
 refine RW.cp H ent109 (fun _ h=>r0_EqPairs.calls h h25001.all h25001.len h25101.all h25101.len) fun y15 w41 x34 sx34 H=>?_
 refine pu 3 rfl ?_
 have j115:=j111.tr x34
 have j116:=j112.tr x34
 have j117:=j113.tr x34
 have j118:=j114.tr x34
 refine RW.n 125 H (fun c13 H=>?_) fun c13 H=>?_
 have h25301:=(((z2.ext vS).ext x32).ext x33).ext x34
 refine RW.lw tk h25301 ?_
 have h25401:=(((z1.ext vS).ext x32).ext x33).ext x34
 refine RW.lw tk h25401 ?_
 have h25501:=(((h7401.ext vS).ext x32).ext x33).ext x34
 have h25601:=(((h7501.ext vS).ext x32).ext x33).ext x34
 have h25701:=(((h7601.ext vS).ext x32).ext x33).ext x34
 have h25801:=(((h31.ext z9).ext x32).ext x33).ext x34
 have h25901:=(((h32.ext z9).ext x32).ext x33).ext x34
 have h26001:=(((h33.ext z9).ext x32).ext x33).ext x34
 refine RW.cp H ent14 (fun _ h=>r0_EqPool.calls h (h25501.all.to kDevice_ro rfl) h25501.len (h25601.all.to kTable_ro rfl) h25601.len h25701.all h25701.len (h25801.all.to kDevice_ro rfl) h25801.len (h25901.all.to kTable_ro rfl) h25901.len h26001.all h26001.len) fun y16 w42 x35 sx35 H=>?_
 refine pu 3 rfl ?_
 have j119:=j115.tr x35
 have j120:=j116.tr x35
 have j121:=j117.tr x35
 have j122:=j118.tr x35
 refine RW.n 131 H (fun c14 H=>?_) fun c14 H=>?_
 refine pu 2 rfl ?_
 have h26201:=((((Qa.ext vS).ext x32).ext x33).ext x34).ext x35
 refine RW.lb tk [.slice A8 ((rd p0.A vb).Q).length c_8] h26201 2 ?_
 have h26301:=((((h7301.ext vS).ext x32).ext x33).ext x34).ext x35
 have h26401:=((((Zx.ext vS).ext x32).ext x33).ext x34).ext x35
 refine RW.cp H ent110 (fun _ h=>r0_EqPtrs.calls h h26301.all h26301.len h26401.all l3) fun y17 w43 x36 sx36 H=>?_
 refine pu 2 rfl (RW.done ?_)
 have h26601:=j119.tr x36
 have h26701:=j120.tr x36
 have h26801:=j121.tr x36
 have h26901:=j122.tr x36
 exact NW.J fun a ha=>⟨(!y17),ha.sb,by omega,h26601,h26701,h26801,h26901,H⟩
 refine pu 6 rfl (RW.done ?_)
 exact NW.J fun a ha=>⟨true,ha.sb,by omega,j119,j120,j121,j122,H⟩
 refine pu 12 rfl (RW.done ?_)
 exact NW.J fun a ha=>⟨true,ha.sb,by omega,j115,j116,j117,j118,H⟩
 refine pu 18 rfl (RW.done ?_)
 exact NW.J fun a ha=>⟨true,ha.sb,by omega,j111,j112,j113,j114,H⟩
 refine pu 24 rfl (RW.done ?_)
 exact NW.J fun a ha=>⟨true,ha.sb,by omega,j107,j108,j109,j110,H⟩
 rintro a w38 ⟨Qj,hS,hle,QJ,zG,zk,v4,H⟩ hp
 unfold l10_MoveExact.j5 at H
 refine CW.go hp hS (CW.i H (fun c15 H=>?_) fun c15 H=>?_)
 refine CW.seq (CW.lex [.L,.M,.W] rfl (RW.lw tk (z1.ext zk) ?_))
 refine RW.sf tk (Zg.ext zk) fun w44 x37 sx37 h28701=>?_
 refine pu 1 rfl (RW.done (NW.next (CW.ret (NW.ret_then ?_))))
 have h28801:=(h31.ext zG).turnB x37 (Zg.ext zk) ⟨.inl (nq rfl),trivial⟩ ⟨.inl (nq rfl),trivial⟩
 have h28901:=(h32.ext zG).turnB x37 (Zg.ext zk) ⟨.inl (nq rfl),trivial⟩ ⟨.inl (nq rfl),trivial⟩
 have h29001:=(h33.ext zG).turnB x37 (Zg.ext zk) ⟨.inl (nq rfl),trivial⟩ trivial
 have h29101:=QJ.tB x37
 have h29201:=zG.tB x37
 have h29301:=(z0.ext zk).tB x37
 exact NW.ret2 rfl (resOne_cell tk (h28701.at 0) rfl rfl rfl) (by rfl) ⟨vi,zp,zq,vj,zr,zs,vn,vo,vp,vq,vk,zt,zu,vr,false,rfl,by omega,(h28801.sb),(h28901.sb),(h29001.sb),h29101,h29201,h29301,H⟩
 refine CW.skip (NW.next (CW.seq (CW.lex [.L,.M] rfl (RW.lw tk (QI.ext v4) ?_))))
 have h29401:=Ow.conv (d:=kDeviceO) (d':=kDeviceH) rfl kDeviceH_conv (Zo.ext v4)
 have h29501:=Ow.conv (d:=kTableO) (d':=kTableH) rfl kTableH_conv (Zp.ext v4)
 have h29601:=(Zq.ext v4).hollow (n:=4) rfl
 refine RW.callFM (R:=fun e w45=>e=.returned (.tuple #[])∧w38.heap.size≤w45.heap.size∧Ow kDeviceO 40 w45.heap (okL [(va,some w24.heap.size,some 40)]) (okL [(va,some w24.heap.size,some 105)]) vT vU vE∧Ow kTableO 26 w45.heap (okL [(va,some w24.heap.size,some 26)]) (okL [(va,some w24.heap.size,some 66)]) vV vW vF∧Ow kEntry 66 w45.heap (okL [(va,some w24.heap.size,some 66)]) (okL []) v1 v2 vG∧Ext w w45∧Ext w6 w45∧Ext w15 w45∧Box w45.heap b9 30 [.slice vT vE.length vU,.slice vV vF.length vW,iv vX,iv vY,iv vZ,iv v0,.slice v1 vG.length v2,iv v3]∧l10_MoveExact.j6 k vb vi vj vn vo vp vq vk vr vv vw vH vI vJ vK vx vL vM vE vF vX vY vZ v0 vG v3 (l10_MoveExact.l0 p0 k n1)=some r) ent111 ⟨rfl,rfl,rfl,rfl⟩ rfl rfl rfl ?_ ?_
 refine cst Tryz.func111 28 ?_
 refine CW.seq (CW.lex [.X] rfl (RW.bx fun b10 w46 x38 sx38 l11 ltb10 h29701=>?_))
 refine RW.done (NW.next (CW.seq (CW.lex [.W,.L,.M] rfl (pu 1 rfl (RW.lb tk [.slice vl ve.length vm] h29701 0 ?_)))))
 refine RW.callKM ent139 ⟨rfl,rfl,rfl,rfl⟩ rfl rfl rfl ?_
 refine cst Tryz.func139 25 ?_
 refine CW.seq (CW.lw 1 rfl (pu 1 rfl (RW.done (NW.next (CW.block ?_)))))
 refine CW.loop (fun n2 a w47=>∃(vh:List Device) (vu:Int),Sat 25 [(0,.slice vl vh.length vm),(2,iv vu)] a∧w46.heap.size≤w47.heap.size∧Ow kDeviceH 40 w47.heap (okL [(w23.heap.size,some va,some 40)]) (okL [(w23.heap.size,some va,some 105)]) vl vm vh∧Ow kDeviceO 40 w47.heap (okL [(va,some w24.heap.size,some 40)]) (okL [(va,some w24.heap.size,some 105)]) vT vU vE∧Ow kTableO 26 w47.heap (okL [(va,some w24.heap.size,some 26)]) (okL [(va,some w24.heap.size,some 66)]) vV vW vF∧Ow kEntry 66 w47.heap (okL [(va,some w24.heap.size,some 66)]) (okL []) v1 v2 vG∧Ow kTableH 26 w47.heap (okL [(w23.heap.size,some va,some 26)]) (okL [(w23.heap.size,some va,some 66)]) vy vz vd∧Ow (Kd.any Entry 4) 66 w47.heap (okL [(w23.heap.size,some va,some 66)]) (okL []) vf vg vc∧Ext w w47∧Ext w6 w47∧Ext w15 w47∧vh.length=ve.length∧Box w47.heap b9 30 [.slice vT vE.length vU,.slice vV vF.length vW,iv vX,iv vY,iv vZ,iv v0,.slice v1 vG.length v2,iv v3]∧Box w47.heap b10 30 [.slice vl ve.length vm,.slice vy vd.length vz,iv vA,iv vB,iv vs,iv vt,.slice vf vc.length vg,iv vC]∧l10_MoveExact.l1 k vb vi vj vn vo vp vq vk vr vv vw vH vI vJ vK vx vL vM vd vc vE vF vX vY vZ v0 vG v3 (l10_MoveExact.l0 p0 k n1) n2 vh vu=some r) k ?_ ?_
 have h29801:=h29401.ext x38
 have h29901:=(h23701.ext v4).ext x38
 have h30001:=(h23801.ext v4).ext x38
 have h30101:=(h23901.ext v4).ext x38
 have h30201:=h29501.ext x38
 have h30301:=h29601.ext x38
 have h30401:=QJ.tr x38
 have h30501:=zG.tr x38
 have h30601:=zk.tr x38
 have h30701:=(Yl.ext v4).ext x38
 exact fun a ha=>⟨ve,0,ha.sb,by omega,(h29801.sb),h29901,h30001,h30101,h30201,h30301,h30401,h30501,h30601,(by (try simp only [List.length_set]) <;>omega),h30701,h29701,H⟩
 rintro n2 a w47 ⟨vh,vu,hS,hle,QK,Ym,Yn,Yo,QL,QM,QN,QO,QP,YT,QQ,Yp,H⟩ hp
 obtain _|n2:=n2
 cases H
 rw [l10_MoveExact.l1] at H
 refine CW.go hp hS ?_
 have xt4:Ext w47 w47:=Upd.refl _ _
 refine CW.seq (CW.seq (CW.lw 4 rfl (pu 4 rfl (RW.done (NW.next (CW.i H (fun c16 H=>?_) fun c16 H=>?_))))))
 refine CW.skip (NW.next (CW.seq (CW.block (CW.seq (CW.lex [.W,.W,.W,.W,.L,.M] rfl (pu 2 rfl ?_))))))
 obtain ⟨g2,H⟩:=guard_some H
 obtain ⟨ad2,A33,c_33,A34,c_34,e2,a2,h30801,h30901⟩:=kDeviceH_ato QK g2.1 g2.2
 refine RW.ix tk g2 e2 ?_
 refine pu 1 rfl (RW.ld tk [.slice A33 ((rd vh vu).Free).length c_33] ((a2.fld 2).take 1 rfl) ?_)
 refine RW.callKM ent154 ⟨rfl,rfl,rfl,rfl⟩ rfl rfl rfl ?_
 refine cst Tryz.func154 13 ?_
 refine CW.seq (CW.lw 1 rfl (pu 1 rfl (RW.done (NW.next (CW.block ?_)))))
 refine CW.loop (fun n3 a w48=>∃(zd:List Seg) (ze:Int),Sat 13 [(0,.slice A33 zd.length c_33),(2,iv ze)] a∧w47.heap.size≤w48.heap.size∧Ow (Kd.any Seg 1) 105 w48.heap (okL [(w23.heap.size,some va,some 105)]) (okL [(w23.heap.size,some va,some 105)]) A33 c_33 zd∧Ow kDeviceO 40 w48.heap (okL [(va,some w24.heap.size,some 40)]) (okL [(va,some w24.heap.size,some 105)]) vT vU vE∧Ow kTableO 26 w48.heap (okL [(va,some w24.heap.size,some 26)]) (okL [(va,some w24.heap.size,some 66)]) vV vW vF∧Ow kEntry 66 w48.heap (okL [(va,some w24.heap.size,some 66)]) (okL []) v1 v2 vG∧Ow kTableH 26 w48.heap (okL [(w23.heap.size,some va,some 26)]) (okL [(w23.heap.size,some va,some 66)]) vy vz vd∧Ow (Kd.any Entry 4) 66 w48.heap (okL [(w23.heap.size,some va,some 66)]) (okL []) vf vg vc∧Ow kDeviceH 40 w48.heap (okL [(w23.heap.size,some va,some 40)]) (okL [(w23.heap.size,some va,some 105)]) vl vm vh∧Ext w w48∧Ext w6 w48∧Ext w15 w48∧zd.length=((rd vh vu).Free).length∧Box w48.heap b9 30 [.slice vT vE.length vU,.slice vV vF.length vW,iv vX,iv vY,iv vZ,iv v0,.slice v1 vG.length v2,iv v3]∧Box w48.heap b10 30 [.slice vl ve.length vm,.slice vy vd.length vz,iv vA,iv vB,iv vs,iv vt,.slice vf vc.length vg,iv vC]∧l10_MoveExact.l2 k vu vh (l10_MoveExact.l1 k vb vi vj vn vo vp vq vk vr vv vw vH vI vJ vK vx vL vM vd vc vE vF vX vY vZ v0 vG v3 (l10_MoveExact.l0 p0 k n1) n2) n3 zd ze=some r) k ?_ ?_
 exact fun a ha=>⟨((rd vh vu).Free),0,ha.sb,by omega,(h30801.sb),Ym,Yn,Yo,QL,QM,QK,QN,QO,QP,(by (try simp only [List.length_set]) <;>omega),QQ,Yp,H⟩
 rintro n3 a w48 ⟨zd,ze,hS,hle,QR,Yq,Yr,Ys,QS,QT,Qk,QU,QV,QW,YU,QX,Yt,H⟩ hp
 obtain _|n3:=n3
 cases H
 rw [l10_MoveExact.l2] at H
 refine CW.go hp hS ?_
 have xt5:Ext w48 w48:=Upd.refl _ _
 refine CW.seq (CW.seq (CW.lw 4 rfl (pu 4 rfl (RW.done (NW.next (CW.i H (fun c17 H=>?_) fun c17 H=>?_))))))
 refine CW.skip (NW.next (CW.seq (CW.block (CW.lex [.W,.W,.W,.W,.M] rfl (pu 3 rfl ?_)))))
 obtain ⟨g3,H⟩:=guard_some H
 obtain ⟨ad3,_,e3,_,a3⟩:=QR.at_ g3.1 g3.2 default
 refine RW.ix tk g3 e3 ?_
 refine RW.storeElY0 (y:=(⟨(-9),0⟩:Seg)) (lv:=[]) tk QR (j:=ze.toNat) (by have:=g3;omega) default [iv (-9),iv 0] (fun cs ok' hr=>Kd.any_lay hr (Nat.le_of_ble_eq_true rfl) rfl) trivial ⟨rfl,rfl,rfl⟩ rfl rfl e3 rfl rfl rfl rfl rfl ?_
 rintro w49 x39 ⟨_,s1⟩ h31001
 have sx39:=x39.size
 have h31101:=h31001.sub (l':=[(w23.heap.size,some va,some 105)]) (li':=[(w23.heap.size,some va,some 105)]) ⟨(.inl ⟨by omega,by omega,rfl⟩),trivial⟩ ⟨(.inl ⟨by omega,by omega,rfl⟩),trivial⟩
 refine RW.tell 0 (v':=.slice A33 (zd.set ze.toNat (⟨(-9),0⟩:Seg)).length c_33) (by simp only [List.length_set]) rfl (RW.done ?_)
 refine NW.norm_block (NW.next ?_)
 refine CW.lw 3 rfl (pu 3 rfl (RW.done ?_))
 have h31201:=Yq.turnL x39 ⟨⟨.inl (nq rfl),trivial⟩,trivial⟩ ⟨⟨.inr (.inr (by omega)),trivial⟩,trivial⟩
 have h31301:=Yr.tL x39
 have h31401:=Ys.tL x39
 have h31501:=QS.kept s1 (by decide) (kTableH_kept s1)
 have h31601:=QT.any_kept s1
 have h31701:=Qk.kept s1 (by decide) (kDeviceH_kept s1)
 have h31801:=Ext.turn QU x39 ⟨by omega,trivial⟩
 have h31901:=Ext.turn QV x39 ⟨by omega,trivial⟩
 have h32001:=Ext.turn QW x39 ⟨by omega,trivial⟩
 have h32101:=QX.tL x39
 have h32201:=Yt.tL x39
 exact NW.J fun a ha=>⟨n3,Nat.lt_succ_self n3,(zd.set ze.toNat (⟨(-9),0⟩:Seg)),(w64 (ze+1)),ha.sb,by omega,(h31101.sb),h31201,h31301,h31401,h31501,h31601,h31701,h31801,h31901,h32001,(by (try simp only [List.length_set]) <;>omega),h32101,h32201,H⟩
 refine CW.exit ?_
 refine NW.exit_then (NW.exit_then (NW.exit_hit ?_))
 refine NW.end_ ?_
 refine NW.ret0 rfl ⟨_,rfl,?_⟩
 refine RW.done (NW.next (CW.seq (CW.lex [.W,.W,.W,.W,.L,.M] rfl (pu 2 rfl ?_))))
 obtain ⟨g4,H⟩:=guard_some H
 obtain ⟨ad4,A35,c_35,A36,c_36,e4,a4,h32301,h32401⟩:=kDeviceH_ato Qk g4.1 g4.2
 refine RW.ix tk g4 e4 ?_
 refine pu 1 rfl (RW.ld tk [.slice A36 ((rd vh vu).Late).length c_36] (a4.fld 3) ?_)
 refine RW.callKM ent154 ⟨rfl,rfl,rfl,rfl⟩ rfl rfl rfl ?_
 refine cst Tryz.func154 13 ?_
 refine CW.seq (CW.lw 1 rfl (pu 1 rfl (RW.done (NW.next (CW.block ?_)))))
 refine CW.loop (fun n4 a w50=>∃(zf:List Seg) (zg:Int),Sat 13 [(0,.slice A36 zf.length c_36),(2,iv zg)] a∧w48.heap.size≤w50.heap.size∧Ow (Kd.any Seg 1) 105 w50.heap (okL [(w23.heap.size,some va,some 105)]) (okL [(w23.heap.size,some va,some 105)]) A36 c_36 zf∧Ow kDeviceO 40 w50.heap (okL [(va,some w24.heap.size,some 40)]) (okL [(va,some w24.heap.size,some 105)]) vT vU vE∧Ow kTableO 26 w50.heap (okL [(va,some w24.heap.size,some 26)]) (okL [(va,some w24.heap.size,some 66)]) vV vW vF∧Ow kEntry 66 w50.heap (okL [(va,some w24.heap.size,some 66)]) (okL []) v1 v2 vG∧Ow kTableH 26 w50.heap (okL [(w23.heap.size,some va,some 26)]) (okL [(w23.heap.size,some va,some 66)]) vy vz vd∧Ow (Kd.any Entry 4) 66 w50.heap (okL [(w23.heap.size,some va,some 66)]) (okL []) vf vg vc∧Ow kDeviceH 40 w50.heap (okL [(w23.heap.size,some va,some 40)]) (okL [(w23.heap.size,some va,some 105)]) vl vm vh∧Ext w w50∧Ext w6 w50∧Ext w15 w50∧zf.length=((rd vh vu).Late).length∧Box w50.heap b9 30 [.slice vT vE.length vU,.slice vV vF.length vW,iv vX,iv vY,iv vZ,iv v0,.slice v1 vG.length v2,iv v3]∧Box w50.heap b10 30 [.slice vl ve.length vm,.slice vy vd.length vz,iv vA,iv vB,iv vs,iv vt,.slice vf vc.length vg,iv vC]∧l10_MoveExact.l3 vu vh (l10_MoveExact.l1 k vb vi vj vn vo vp vq vk vr vv vw vH vI vJ vK vx vL vM vd vc vE vF vX vY vZ v0 vG v3 (l10_MoveExact.l0 p0 k n1) n2) n4 zf zg=some r) k ?_ ?_
 exact fun a ha=>⟨((rd vh vu).Late),0,ha.sb,by omega,(h32401.sb),Yq,Yr,Ys,QS,QT,Qk,QU,QV,QW,(by (try simp only [List.length_set]) <;>omega),QX,Yt,H⟩
 rintro n4 a w50 ⟨zf,zg,hS,hle,QY,Yu,Yv,Yw,QZ,Q0,Ql,Q1,Q2,Q3,YV,Q4,Yx,H⟩ hp
 obtain _|n4:=n4
 cases H
 rw [l10_MoveExact.l3] at H
 refine CW.go hp hS ?_
 have xt6:Ext w50 w50:=Upd.refl _ _
 refine CW.seq (CW.seq (CW.lw 4 rfl (pu 4 rfl (RW.done (NW.next (CW.i H (fun c18 H=>?_) fun c18 H=>?_))))))
 refine CW.skip (NW.next (CW.seq (CW.block (CW.lex [.W,.W,.W,.W,.M] rfl (pu 3 rfl ?_)))))
 obtain ⟨g5,H⟩:=guard_some H
 obtain ⟨ad5,_,e5,_,a5⟩:=QY.at_ g5.1 g5.2 default
 refine RW.ix tk g5 e5 ?_
 refine RW.storeElY0 (y:=(⟨(-9),0⟩:Seg)) (lv:=[]) tk QY (j:=zg.toNat) (by have:=g5;omega) default [iv (-9),iv 0] (fun cs ok' hr=>Kd.any_lay hr (Nat.le_of_ble_eq_true rfl) rfl) trivial ⟨rfl,rfl,rfl⟩ rfl rfl e5 rfl rfl rfl rfl rfl ?_
 rintro w51 x40 ⟨_,s2⟩ h32501
 have sx40:=x40.size
 have h32601:=h32501.sub (l':=[(w23.heap.size,some va,some 105)]) (li':=[(w23.heap.size,some va,some 105)]) ⟨(.inl ⟨by omega,by omega,rfl⟩),trivial⟩ ⟨(.inl ⟨by omega,by omega,rfl⟩),trivial⟩
 refine RW.tell 0 (v':=.slice A36 (zf.set zg.toNat (⟨(-9),0⟩:Seg)).length c_36) (by simp only [List.length_set]) rfl (RW.done ?_)
 refine NW.norm_block (NW.next ?_)
 refine CW.lw 3 rfl (pu 3 rfl (RW.done ?_))
 have h32701:=Yu.turnL x40 ⟨⟨.inl (nq rfl),trivial⟩,trivial⟩ ⟨⟨.inr (.inr (by omega)),trivial⟩,trivial⟩
 have h32801:=Yv.tL x40
 have h32901:=Yw.tL x40
 have h33001:=QZ.kept s2 (by decide) (kTableH_kept s2)
 have h33101:=Q0.any_kept s2
 have h33201:=Ql.kept s2 (by decide) (kDeviceH_kept s2)
 have h33301:=Ext.turn Q1 x40 ⟨by omega,trivial⟩
 have h33401:=Ext.turn Q2 x40 ⟨by omega,trivial⟩
 have h33501:=Ext.turn Q3 x40 ⟨by omega,trivial⟩
 have h33601:=Q4.tL x40
 have h33701:=Yx.tL x40
 exact NW.J fun a ha=>⟨n4,Nat.lt_succ_self n4,(zf.set zg.toNat (⟨(-9),0⟩:Seg)),(w64 (zg+1)),ha.sb,by omega,(h32601.sb),h32701,h32801,h32901,h33001,h33101,h33201,h33301,h33401,h33501,(by (try simp only [List.length_set]) <;>omega),h33601,h33701,H⟩
 refine CW.exit ?_
 refine NW.exit_then (NW.exit_then (NW.exit_hit ?_))
 refine NW.end_ ?_
 refine NW.ret0 rfl ⟨_,rfl,?_⟩
 refine RW.done (NW.next (CW.lex [.W,.W,.W,.W,.M] rfl (pu 3 rfl ?_)))
 obtain ⟨g6,H⟩:=guard_some H
 obtain ⟨ad6,A37,c_37,A38,c_38,e6,a6,h33801,h33901⟩:=kDeviceH_ato Ql g6.1 g6.2
 refine RW.ix tk g6 e6 ?_
 refine RW.storeElL0 (y:=(⟨(-9),0,([]:List Seg),([]:List Seg)⟩:Device)) (lv:=[]) tk Ql (j:=vu.toNat) (by have:=g6;omega) default [iv (-9),iv 0,.slice none 0 0,.slice none 0 0] (fun cs ok' hr=>by obtain ⟨qa1,qc1,qa2,qc2,rfl,q1,q2⟩:=kDeviceH_open hr;exact ⟨by simp,kDeviceH_mk (⟨(-9),0,([]:List Seg),([]:List Seg)⟩:Device) Ow.nil Ow.nil⟩) trivial ⟨rfl,rfl,rfl⟩ rfl rfl e6 rfl rfl rfl rfl rfl ?_
 intro w52 x41 h34001
 have sx41:=x41.size
 have h34101:=h34001.sub (l':=[(w23.heap.size,some va,some 40)]) (li':=[(w23.heap.size,some va,some 105)]) ⟨(.inl ⟨by omega,by omega,rfl⟩),trivial⟩ ⟨(.inl ⟨by omega,by omega,rfl⟩),trivial⟩
 refine RW.tell 0 (v':=.slice vl (vh.set vu.toNat (⟨(-9),0,([]:List Seg),([]:List Seg)⟩:Device)).length vm) (by simp only [List.length_set]) rfl (RW.done ?_)
 refine NW.norm_block (NW.next ?_)
 refine CW.lw 3 rfl (pu 3 rfl (RW.done ?_))
 have h34201:=Yu.turnL x41 ⟨⟨.inr (.inr (by omega)),trivial⟩,trivial⟩ ⟨⟨.inl (nq rfl),trivial⟩,trivial⟩
 have h34301:=Yv.tL x41
 have h34401:=Yw.tL x41
 have h34501:=QZ.tL x41
 have h34601:=Q0.tL x41
 have h34701:=Ext.turn Q1 x41 ⟨by omega,trivial⟩
 have h34801:=Ext.turn Q2 x41 ⟨by omega,trivial⟩
 have h34901:=Ext.turn Q3 x41 ⟨by omega,trivial⟩
 have h35001:=Q4.tL x41
 have h35101:=Yx.tL x41
 exact NW.J fun a ha=>⟨n2,Nat.lt_succ_self n2,(vh.set vu.toNat (⟨(-9),0,([]:List Seg),([]:List Seg)⟩:Device)),(w64 (vu+1)),ha.sb,by omega,(h34101.sb),h34201,h34301,h34401,h34501,h34601,h34701,h34801,h34901,(by (try simp only [List.length_set]) <;>omega),h35001,h35101,H⟩
 refine CW.exit ?_
 refine NW.exit_then (NW.exit_then (NW.exit_hit ?_))
 refine NW.end_ ?_
 refine NW.ret0 rfl ⟨_,rfl,?_⟩
 refine RW.done (NW.next (CW.seq (CW.seq (CW.lw 1 rfl (pu 1 rfl (RW.done (NW.next ?_)))))))
 refine CW.block ?_
 refine CW.loop (fun n5 a w53=>∃(vD:Int) (v6:List Table) (zL:Option Addr) (zM:Nat),Sat 28 [(1,.pointer (some ⟨b10,0,none⟩)),(2,iv vD)] a∧w47.heap.size≤w53.heap.size∧Ow kTableH 26 w53.heap (okL [(w23.heap.size,some va,some 26)]) (okL [(w23.heap.size,some va,some 66)]) zL zM v6∧Ow (Kd.any Entry 4) 66 w53.heap (okL [(w23.heap.size,some va,some 66)]) (okL []) vf vg vc∧Ow kDeviceO 40 w53.heap (okL [(va,some w24.heap.size,some 40)]) (okL [(va,some w24.heap.size,some 105)]) vT vU vE∧Ow kTableO 26 w53.heap (okL [(va,some w24.heap.size,some 26)]) (okL [(va,some w24.heap.size,some 66)]) vV vW vF∧Ow kEntry 66 w53.heap (okL [(va,some w24.heap.size,some 66)]) (okL []) v1 v2 vG∧Ext w w53∧Ext w6 w53∧Ext w15 w53∧Box w53.heap b10 30 [.slice vl ve.length vm,.slice zL v6.length zM,iv vA,iv vB,iv vs,iv vt,.slice vf vc.length vg,iv vC]∧Box w53.heap b9 30 [.slice vT vE.length vU,.slice vV vF.length vW,iv vX,iv vY,iv vZ,iv v0,.slice v1 vG.length v2,iv v3]∧l10_MoveExact.l4 k vb vi vj vn vo vp vq vk vr vv vw vH vI vJ vK vx vL vM vc vE vF vX vY vZ v0 vG v3 (l10_MoveExact.l0 p0 k n1) n5 vD v6=some r) k ?_ ?_
 exact fun a ha=>⟨0,vd,vy,vz,ha.sb,by omega,(QL.sb),QM,Ym,Yn,Yo,QN,QO,QP,Yp,QQ,H⟩
 rintro n5 a w53 ⟨vD,v6,zL,zM,hS,hle,Yy,Q5,Yz,YA,YB,Q6,Q7,Q8,Zr,Qm,H⟩ hp
 obtain _|n5:=n5
 cases H
 rw [l10_MoveExact.l4] at H
 refine CW.go hp hS ?_
 have xt7:Ext w53 w53:=Upd.refl _ _
 refine CW.seq (CW.seq (CW.lex [.W,.W,.L,.W,.W] rfl (pu 2 rfl (RW.lb tk [.slice zL v6.length zM] Zr 1 ?_))))
 refine pu 2 rfl (RW.done (NW.next (CW.i H (fun c19 H=>?_) fun c19 H=>?_)))
 refine CW.skip (NW.next (CW.seq (CW.block (CW.seq (CW.lex [.W,.L,.W,.W,.L,.M] rfl (pu 1 rfl (RW.lb tk [.slice zL v6.length zM] Zr 1 ?_)))))))
 refine pu 1 rfl ?_
 obtain ⟨g7,H⟩:=guard_some H
 obtain ⟨ad7,A39,c_39,e7,a7,h35201⟩:=kTableH_ato Yy g7.1 g7.2
 refine RW.ix tk g7 e7 ?_
 refine RW.ld tk _ a7 ?_
 refine RW.callKM ent140 ⟨rfl,rfl,rfl,rfl⟩ rfl rfl rfl ?_
 refine cst Tryz.func140 15 ?_
 refine CW.seq (CW.lex [.X] rfl (RW.bx fun b11 w54 x42 sx42 l19 ltb11 h35301=>?_))
 refine RW.done (NW.next (CW.seq (CW.lw 1 rfl (pu 1 rfl (RW.done (NW.next (CW.block ?_)))))))
 refine CW.loop (fun n6 a w55=>∃(zh:Int) (Qd:List Entry) (Qs:Option Addr) (Qt:Nat),Sat 15 [(1,.pointer (some ⟨b11,0,none⟩)),(2,iv zh)] a∧w54.heap.size≤w55.heap.size∧Ow (Kd.any Entry 4) 66 w55.heap (okL [(w23.heap.size,some va,some 66)]) (okL [(w23.heap.size,some va,some 66)]) Qs Qt Qd∧Ow kDeviceO 40 w55.heap (okL [(va,some w24.heap.size,some 40)]) (okL [(va,some w24.heap.size,some 105)]) vT vU vE∧Ow kTableO 26 w55.heap (okL [(va,some w24.heap.size,some 26)]) (okL [(va,some w24.heap.size,some 66)]) vV vW vF∧Ow kEntry 66 w55.heap (okL [(va,some w24.heap.size,some 66)]) (okL []) v1 v2 vG∧Ow kTableH 26 w55.heap (okL [(w23.heap.size,some va,some 26)]) (okL [(w23.heap.size,some va,some 66)]) zL zM v6∧Ow (Kd.any Entry 4) 66 w55.heap (okL [(w23.heap.size,some va,some 66)]) (okL []) vf vg vc∧Ext w w55∧Ext w6 w55∧Ext w15 w55∧Box w55.heap b11 26 [iv ((rd v6 vD).Dev),iv ((rd v6 vD).Size),.slice Qs Qd.length Qt]∧Box w55.heap b9 30 [.slice vT vE.length vU,.slice vV vF.length vW,iv vX,iv vY,iv vZ,iv v0,.slice v1 vG.length v2,iv v3]∧Box w55.heap b10 30 [.slice vl ve.length vm,.slice zL v6.length zM,iv vA,iv vB,iv vs,iv vt,.slice vf vc.length vg,iv vC]∧l10_MoveExact.l5 vD v6 (l10_MoveExact.l4 k vb vi vj vn vo vp vq vk vr vv vw vH vI vJ vK vx vL vM vc vE vF vX vY vZ v0 vG v3 (l10_MoveExact.l0 p0 k n1) n5) n6 zh Qd=some r) k ?_ ?_
 have h35401:=h35201.ext x42
 have h35501:=Yz.ext x42
 have h35601:=YA.ext x42
 have h35701:=YB.ext x42
 have h35801:=Yy.ext x42
 have h35901:=Q5.ext x42
 have h36001:=Q6.tr x42
 have h36101:=Q7.tr x42
 have h36201:=Q8.tr x42
 have h36301:=Qm.ext x42
 have h36401:=Zr.ext x42
 exact fun a ha=>⟨0,((rd v6 vD).List_),A39,c_39,ha.sb,by omega,(h35401.sb),h35501,h35601,h35701,h35801,h35901,h36001,h36101,h36201,h35301,h36301,h36401,H⟩
 rintro n6 a w55 ⟨zh,Qd,Qs,Qt,hS,hle,YC,YD,YE,YF,ZM,Q9,Za,Zb,Zc,ZN,Qz,Qp,H⟩ hp
 obtain _|n6:=n6
 cases H
 rw [l10_MoveExact.l5] at H
 refine CW.go hp hS ?_
 have xt8:Ext w55 w55:=Upd.refl _ _
 refine CW.seq (CW.seq (CW.lex [.W,.W,.L,.W,.W] rfl (pu 2 rfl (RW.lb tk [.slice Qs Qd.length Qt] ZN 2 ?_))))
 refine pu 2 rfl (RW.done (NW.next (CW.i H (fun c20 H=>?_) fun c20 H=>?_)))
 refine CW.skip (NW.next (CW.seq (CW.block (CW.lex [.W,.L,.W,.W,.W,.M] rfl (pu 1 rfl (RW.lb tk [.slice Qs Qd.length Qt] ZN 2 ?_))))))
 refine pu 2 rfl ?_
 obtain ⟨g8,H⟩:=guard_some H
 obtain ⟨ad8,_,e8,_,a8⟩:=YC.at_ g8.1 g8.2 default
 refine RW.ix tk g8 e8 ?_
 refine RW.storeElY0 (y:=(⟨(-9),0,0,0,0⟩:Entry)) (lv:=[]) tk YC (j:=zh.toNat) (by have:=g8;omega) default [iv (-9),iv 0,iv 0,iv 0,iv 0] (fun cs ok' hr=>Kd.any_lay hr (Nat.le_of_ble_eq_true rfl) rfl) trivial ⟨rfl,rfl,rfl⟩ rfl rfl e8 rfl rfl rfl rfl rfl ?_
 rintro w56 x43 ⟨_,s3⟩ h36501
 have sx43:=x43.size
 have h36601:=h36501.sub (l':=[(w23.heap.size,some va,some 66)]) (li':=[(w23.heap.size,some va,some 66)]) ⟨(.inl ⟨by omega,by omega,rfl⟩),trivial⟩ ⟨(.inl ⟨by omega,by omega,rfl⟩),trivial⟩
 have h36701:=ZN.tL x43
 have h36801:Box w56.heap b11 26 [iv ((rd v6 vD).Dev),iv ((rd v6 vD).Size),.slice Qs (Qd.set zh.toNat (⟨(-9),0,0,0,0⟩:Entry)).length Qt]:=by simpa only [List.length_set] using h36701
 refine RW.done ?_
 refine NW.norm_block (NW.next ?_)
 refine CW.lw 3 rfl (pu 3 rfl (RW.done ?_))
 have h36901:=YD.tL x43
 have h37001:=YE.turnL x43 ⟨⟨.inl (nq rfl),trivial⟩,trivial⟩ ⟨⟨.inr (.inr (by omega)),trivial⟩,trivial⟩
 have h37101:=YF.turnL x43 ⟨⟨.inr (.inr (by omega)),trivial⟩,trivial⟩ trivial
 have h37201:=ZM.kept s3 (by decide) (kTableH_kept s3)
 have h37301:=Q9.any_kept s3
 have h37401:=Ext.turn Za x43 ⟨by omega,trivial⟩
 have h37501:=Ext.turn Zb x43 ⟨by omega,trivial⟩
 have h37601:=Ext.turn Zc x43 ⟨by omega,trivial⟩
 have h37701:=Qz.tL x43
 have h37801:=Qp.tL x43
 exact NW.J fun a ha=>⟨n6,Nat.lt_succ_self n6,(w64 (zh+1)),(Qd.set zh.toNat (⟨(-9),0,0,0,0⟩:Entry)),Qs,Qt,ha.sb,by omega,(h36601.sb),h36901,h37001,h37101,h37201,h37301,h37401,h37501,h37601,h36801,h37701,h37801,H⟩
 refine CW.exit ?_
 refine NW.exit_then (NW.exit_then (NW.exit_hit ?_))
 refine NW.end_ ?_
 refine NW.ret0 rfl ⟨_,rfl,?_⟩
 refine RW.done (NW.next (CW.lex [.W,.L,.W,.W,.W,.M] rfl (pu 1 rfl (RW.lb tk [.slice zL v6.length zM] Qp 1 ?_))))
 refine pu 2 rfl ?_
 obtain ⟨g9,H⟩:=guard_some H
 obtain ⟨ad9,A40,c_40,e9,a9,h37901⟩:=kTableH_ato ZM g9.1 g9.2
 refine RW.ix tk g9 e9 ?_
 refine RW.storeElL0 (y:=(⟨(-9),0,([]:List Entry)⟩:Table)) (lv:=[]) tk ZM (j:=vD.toNat) (by have:=g9;omega) default [iv (-9),iv 0,.slice none 0 0] (fun cs ok' hr=>by obtain ⟨qa1,qc1,rfl,q1⟩:=kTableH_open hr;exact ⟨by simp,kTableH_mk (⟨(-9),0,([]:List Entry)⟩:Table) Ow.nil⟩) trivial ⟨rfl,rfl,rfl⟩ rfl rfl e9 rfl rfl rfl rfl rfl ?_
 intro w57 x44 h38001
 have sx44:=x44.size
 have h38101:=h38001.sub (l':=[(w23.heap.size,some va,some 26)]) (li':=[(w23.heap.size,some va,some 66)]) ⟨(.inl ⟨by omega,by omega,rfl⟩),trivial⟩ ⟨(.inl ⟨by omega,by omega,rfl⟩),trivial⟩
 have h38201:=Qp.tL x44
 have h38301:Box w57.heap b10 30 [.slice vl ve.length vm,.slice zL (v6.set vD.toNat (⟨(-9),0,([]:List Entry)⟩:Table)).length zM,iv vA,iv vB,iv vs,iv vt,.slice vf vc.length vg,iv vC]:=by simpa only [List.length_set] using h38201
 refine RW.done ?_
 refine NW.norm_block (NW.next ?_)
 refine CW.lw 3 rfl (pu 3 rfl (RW.done ?_))
 have h38401:=Q9.tL x44
 have h38501:=YD.tL x44
 have h38601:=YE.turnL x44 ⟨⟨.inr (.inr (by omega)),trivial⟩,trivial⟩ ⟨⟨.inl (nq rfl),trivial⟩,trivial⟩
 have h38701:=YF.tL x44
 have h38801:=Ext.turn Za x44 ⟨by omega,trivial⟩
 have h38901:=Ext.turn Zb x44 ⟨by omega,trivial⟩
 have h39001:=Ext.turn Zc x44 ⟨by omega,trivial⟩
 have h39101:=Qz.tL x44
 exact NW.J fun a ha=>⟨n5,Nat.lt_succ_self n5,(w64 (vD+1)),(v6.set vD.toNat (⟨(-9),0,([]:List Entry)⟩:Table)),zL,zM,ha.sb,by omega,(h38101.sb),h38401,h38501,h38601,h38701,h38801,h38901,h39001,h38301,h39101,H⟩
 refine CW.exit ?_
 refine NW.exit_then (NW.exit_then (NW.exit_hit ?_))
 refine NW.next (CW.lex [.W,.W,.L,.M] rfl (pu 2 rfl (RW.lb tk [iv vs,iv vt,.slice vf vc.length vg] Zr 4 ?_)))
 refine RW.callKM ent140 ⟨rfl,rfl,rfl,rfl⟩ rfl rfl rfl ?_
 refine cst Tryz.func140 15 ?_
 refine CW.seq (CW.lex [.X] rfl (RW.bx fun b12 w58 x45 sx45 l21 ltb12 h39201=>?_))
 refine RW.done (NW.next (CW.seq (CW.lw 1 rfl (pu 1 rfl (RW.done (NW.next (CW.block ?_)))))))
 refine CW.loop (fun n7 a w59=>∃(zi:Int) (Qf:List Entry) (Qu:Option Addr) (Qv:Nat),Sat 15 [(1,.pointer (some ⟨b12,0,none⟩)),(2,iv zi)] a∧w58.heap.size≤w59.heap.size∧Ow (Kd.any Entry 4) 66 w59.heap (okL [(w23.heap.size,some va,some 66)]) (okL []) Qu Qv Qf∧Ow kDeviceO 40 w59.heap (okL [(va,some w24.heap.size,some 40)]) (okL [(va,some w24.heap.size,some 105)]) vT vU vE∧Ow kTableO 26 w59.heap (okL [(va,some w24.heap.size,some 26)]) (okL [(va,some w24.heap.size,some 66)]) vV vW vF∧Ow kEntry 66 w59.heap (okL [(va,some w24.heap.size,some 66)]) (okL []) v1 v2 vG∧Ext w w59∧Ext w6 w59∧Ext w15 w59∧Box w59.heap b12 26 [iv vs,iv vt,.slice Qu Qf.length Qv]∧Box w59.heap b9 30 [.slice vT vE.length vU,.slice vV vF.length vW,iv vX,iv vY,iv vZ,iv v0,.slice v1 vG.length v2,iv v3]∧l10_MoveExact.l6 k vb vi vj vn vo vp vq vk vr vv vw vH vI vJ vK vx vL vM vE vF vX vY vZ v0 vG v3 (l10_MoveExact.l0 p0 k n1) n7 zi Qf=some r) k ?_ ?_
 have h39301:=Q5.ext x45
 have h39401:=Yz.ext x45
 have h39501:=YA.ext x45
 have h39601:=YB.ext x45
 have h39701:=Q6.tr x45
 have h39801:=Q7.tr x45
 have h39901:=Q8.tr x45
 have h40001:=Qm.ext x45
 exact fun a ha=>⟨0,vc,vf,vg,ha.sb,by omega,(h39301.sb),h39401,h39501,h39601,h39701,h39801,h39901,h39201,h40001,H⟩
 rintro n7 a w59 ⟨zi,Qf,Qu,Qv,hS,hle,YG,YH,YI,YJ,Zd,Ze,Zf,ZO,YK,H⟩ hp
 obtain _|n7:=n7
 cases H
 rw [l10_MoveExact.l6] at H
 refine CW.go hp hS ?_
 have xt9:Ext w59 w59:=Upd.refl _ _
 refine CW.seq (CW.seq (CW.lex [.W,.W,.L,.W,.W] rfl (pu 2 rfl (RW.lb tk [.slice Qu Qf.length Qv] ZO 2 ?_))))
 refine pu 2 rfl (RW.done (NW.next (CW.i H (fun c21 H=>?_) fun c21 H=>?_)))
 refine CW.skip (NW.next (CW.seq (CW.block (CW.lex [.W,.L,.W,.W,.W,.M] rfl (pu 1 rfl (RW.lb tk [.slice Qu Qf.length Qv] ZO 2 ?_))))))
 refine pu 2 rfl ?_
 obtain ⟨g10,H⟩:=guard_some H
 obtain ⟨ad10,_,e10,_,a10⟩:=YG.at_ g10.1 g10.2 default
 refine RW.ix tk g10 e10 ?_
 refine RW.storeElY0 (y:=(⟨(-9),0,0,0,0⟩:Entry)) (lv:=[]) tk YG (j:=zi.toNat) (by have:=g10;omega) default [iv (-9),iv 0,iv 0,iv 0,iv 0] (fun cs ok' hr=>Kd.any_lay hr (Nat.le_of_ble_eq_true rfl) rfl) trivial ⟨rfl,rfl,rfl⟩ rfl rfl e10 rfl rfl rfl rfl rfl ?_
 rintro w60 x46 ⟨_,s4⟩ h40101
 have sx46:=x46.size
 have h40201:=h40101.sub (l':=[(w23.heap.size,some va,some 66)]) (li':=[]) ⟨(.inl ⟨by omega,by omega,rfl⟩),trivial⟩ trivial
 have h40301:=ZO.tL x46
 have h40401:Box w60.heap b12 26 [iv vs,iv vt,.slice Qu (Qf.set zi.toNat (⟨(-9),0,0,0,0⟩:Entry)).length Qv]:=by simpa only [List.length_set] using h40301
 refine RW.done ?_
 refine NW.norm_block (NW.next ?_)
 refine CW.lw 3 rfl (pu 3 rfl (RW.done ?_))
 have h40501:=YH.tL x46
 have h40601:=YI.turnL x46 ⟨⟨.inl (nq rfl),trivial⟩,trivial⟩ ⟨⟨.inr (.inr (by omega)),trivial⟩,trivial⟩
 have h40701:=YJ.turnL x46 ⟨⟨.inr (.inr (by omega)),trivial⟩,trivial⟩ trivial
 have h40801:=Ext.turn Zd x46 ⟨by omega,trivial⟩
 have h40901:=Ext.turn Ze x46 ⟨by omega,trivial⟩
 have h41001:=Ext.turn Zf x46 ⟨by omega,trivial⟩
 have h41101:=YK.tL x46
 exact NW.J fun a ha=>⟨n7,Nat.lt_succ_self n7,(w64 (zi+1)),(Qf.set zi.toNat (⟨(-9),0,0,0,0⟩:Entry)),Qu,Qv,ha.sb,by omega,(h40201.sb),h40501,h40601,h40701,h40801,h40901,h41001,h40401,h41101,H⟩
 refine CW.exit ?_
 refine NW.exit_then (NW.exit_then (NW.exit_hit ?_))
 refine NW.end_ ?_
 refine NW.ret0 rfl ⟨_,rfl,?_⟩
 refine RW.done (NW.end_ ?_)
 exact NW.ret0 rfl ⟨rfl,by omega,YH,YI,YJ,Zd,Ze,Zf,YK,H⟩
 rintro _ w45 ⟨rfl,hle,Y3,Y4,Y5,ZG,vQ,vO,Y6,H⟩
 refine ⟨_,rfl,?_⟩
 unfold l10_MoveExact.j6 at H
 have xt10:Ext w45 w45:=Upd.refl _ _
 refine RW.done (NW.next (CW.seq (CW.seq (CW.lex [.L,.L,.X,.W] rfl (RW.lw tk (z2.ext vO) ?_)))))
 refine RW.lw tk (z1.ext vO) ?_
 refine RW.cp H ent14 (fun _ h=>r0_EqPool.calls h ((h7401.ext vO).all.to kDevice_ro rfl) (h7401.ext vO).len ((h7501.ext vO).all.to kTable_ro rfl) (h7501.ext vO).len (h7601.ext vO).all (h7601.ext vO).len ((h31.ext vQ).all.to kDevice_ro rfl) (h31.ext vQ).len ((h32.ext vQ).all.to kTable_ro rfl) (h32.ext vQ).len (h33.ext vQ).all (h33.ext vQ).len) fun y18 w61 x47 sx47 H=>?_
 refine pu 1 rfl (RW.done (NW.next ?_))
 have j62:=(Zg.ext vO).ext x47
 have j63:=ZG.tr x47
 have j64:=vQ.tr x47
 have j65:=(z0.ext vO).ext x47
 have j66:=(z1.ext vO).ext x47
 have j67:=(h31.ext vQ).ext x47
 have j68:=(h32.ext vQ).ext x47
 have j69:=(h33.ext vQ).ext x47
 refine CW.n H (fun c22 H=>?_) fun c22 H=>?_
 refine CW.skip (NW.next (CW.seq (CW.seq (CW.lw 2 rfl (pu 2 rfl (RW.done (NW.next ?_)))))))
 refine CW.n H (fun c23 H=>?_) fun c23 H=>?_
 refine CW.skip (NW.next (CW.seq (CW.lex [.L,.X,.M,.W] rfl ?_)))
 have h41301:=Y6.ext x47
 refine RW.lw tk h41301 ?_
 have h41401:=Y3.ext x47
 have h41501:=Y4.ext x47
 have h41601:=Y5.ext x47
 obtain ⟨y19,h41701,H⟩:=bind_some H
 refine RW.cl ent44 (r0_CopyPool.calls h41701 (h41401.all.to kDevice_ro rfl) h41401.len (h41501.all.to kTable_ro rfl) h41501.len h41601.all h41601.len) ?_
 rintro _ w62 ⟨A41,c_41,A42,c_42,A43,c_43,rfl,x48,h41801,h41901,h42001⟩
 refine ⟨_,rfl,x48,?_⟩
 have sx48:=x48.size
 have h42101:Ow kDeviceO 40 w62.heap (okL [(w61.heap.size,some w62.heap.size,some 40)]) (okL [(w61.heap.size,some w62.heap.size,some 105)]) A41 c_41 y19.Devices:=h41801.close
 have h42201:Ow kTableO 26 w62.heap (okL [(w61.heap.size,some w62.heap.size,some 26)]) (okL [(w61.heap.size,some w62.heap.size,some 66)]) A42 c_42 y19.Tables:=h41901.close
 have h42301:Ow kEntry 66 w62.heap (okL [(w61.heap.size,some w62.heap.size,some 66)]) (okL []) A43 c_43 y19.Job.Table.List_:=h42001.close
 have h42401:=j62.ext x48
 refine RW.sf tk h42401 fun w63 x49 sx49 h42601=>?_
 refine pu 1 rfl (RW.done (NW.next (CW.ret ?_)))
 have h42701:=h42101.tB x49 h42401
 have h42801:=h42201.tB x49 h42401
 have h42901:=h42301.tB x49 h42401
 have h43001:=(j63.tr x48).tB x49
 have h43101:=(j64.tr x48).tB x49
 have h43201:=(j65.ext x48).tB x49
 exact NW.ret2 rfl (resOne_cell tk (h42601.at 0) rfl rfl rfl) (by rfl) ⟨y19.Devices,A41,c_41,y19.Tables,A42,c_42,y19.Job.Dev,y19.Job.At,y19.Job.Table.Dev,y19.Job.Table.Size,y19.Job.Table.List_,A43,c_43,y19.Next,true,rfl,by omega,(h42701.sub ⟨(.inr (.inl ⟨by omega,trivial,rfl⟩)),trivial⟩ ⟨(.inl ⟨by omega,trivial,rfl⟩),trivial⟩),(h42801.sub ⟨(.inr (.inl ⟨by omega,trivial,rfl⟩)),trivial⟩ ⟨(.inl ⟨by omega,trivial,rfl⟩),trivial⟩),(h42901.sub ⟨(.inr (.inl ⟨by omega,trivial,rfl⟩)),trivial⟩ trivial),h43001,h43101,h43201,H⟩
 refine CW.seq (CW.lex [.L,.M,.W] rfl (RW.lw tk j66 ?_))
 refine RW.sf tk j62 fun w65 x50 sx50 h43601=>?_
 refine pu 1 rfl (RW.done (NW.next (CW.ret (NW.ret_then ?_))))
 have h43701:=j67.tB x50 j62
 have h43801:=j68.tB x50 j62
 have h43901:=j69.tB x50 j62
 have h44001:=j63.tB x50
 have h44101:=j64.tB x50
 have h44201:=j65.tB x50
 exact NW.ret2 rfl (resOne_cell tk (h43601.at 0) rfl rfl rfl) (by rfl) ⟨vi,zp,zq,vj,zr,zs,vn,vo,vp,vq,vk,zt,zu,vr,true,rfl,by omega,(h43701.sb),(h43801.sb),(h43901.sb),h44001,h44101,h44201,H⟩
 refine CW.seq (CW.lex [.L,.M,.W] rfl (RW.lw tk j66 ?_))
 refine RW.sf tk j62 fun w66 x51 sx51 h44601=>?_
 refine pu 1 rfl (RW.done (NW.next (CW.ret (NW.ret_then ?_))))
 have h44701:=j67.tB x51 j62
 have h44801:=j68.tB x51 j62
 have h44901:=j69.tB x51 j62
 have h45001:=j63.tB x51
 have h45101:=j64.tB x51
 have h45201:=j65.tB x51
 exact NW.ret2 rfl (resOne_cell tk (h44601.at 0) rfl rfl rfl) (by rfl) ⟨vi,zp,zq,vj,zr,zs,vn,vo,vp,vq,vk,zt,zu,vr,false,rfl,by omega,(h44701.sb),(h44801.sb),(h44901.sb),h45001,h45101,h45201,H⟩
 rintro _ w11 ⟨zl,zx,zy,zm,zz,zA,zO,zP,zQ,zR,zn,zB,zC,zS,zT,rfl,hle,ZH,ZI,ZJ,ZK,ZL,Zs,H⟩
 refine ⟨_,rfl,?_⟩
 unfold l10_MoveExact.j2 at H
 have h45301:Ow kDeviceO 40 w11.heap (okL [(w2.heap.size,some w6.heap.size,some 40),(w10.heap.size,some w11.heap.size,some 40)]) (okL [(w2.heap.size,some w11.heap.size,some 105)]) zx zy zl:=ZH.close
 have h45401:Ow kTableO 26 w11.heap (okL [(w2.heap.size,some w6.heap.size,some 26),(w10.heap.size,some w11.heap.size,some 26)]) (okL [(w2.heap.size,some w11.heap.size,some 66)]) zz zA zm:=ZI.close
 have h45501:Ow kEntry 66 w11.heap (okL [(w2.heap.size,some w6.heap.size,some 66),(w10.heap.size,some w11.heap.size,some 66)]) (okL []) zB zC zn:=ZJ.close
 have xt11:Ext w11 w11:=Upd.refl _ _
 refine pu 3 rfl (RW.sf tk Zs fun w67 x52 sx52 h45701=>?_)
 refine pu 1 rfl (RW.done ?_)
 have h458:=h45301.tB x52 Zs
 have h459:=h45401.tB x52 Zs
 have h460:=h45501.tB x52 Zs
 have h461:=ZK.tB x52
 have h462:=ZL.tB x52
 exact NW.J fun a ha=>⟨zT,b3,zl,zx,zy,zm,zz,zA,zO,zP,zQ,zR,zn,zB,zC,zS,ha.sb,by omega,(h458.sub ⟨(.inl ⟨by omega,by omega,rfl⟩),⟨(.inr (.inl ⟨by omega,trivial,rfl⟩)),trivial⟩⟩ ⟨(.inl ⟨by omega,trivial,rfl⟩),trivial⟩),(h459.sub ⟨(.inl ⟨by omega,by omega,rfl⟩),⟨(.inr (.inl ⟨by omega,trivial,rfl⟩)),trivial⟩⟩ ⟨(.inl ⟨by omega,trivial,rfl⟩),trivial⟩),(h460.sub ⟨(.inl ⟨by omega,by omega,rfl⟩),⟨(.inr (.inl ⟨by omega,trivial,rfl⟩)),trivial⟩⟩ trivial),h461,h462,h45701,by omega,H⟩
 rintro a w8 ⟨Zv,Zi,Qw,QB,QC,Qx,QD,QE,Zj,Zk,Zl,Zm,Qy,QF,QG,Zn,hS,hle,Y7,Y8,Y9,YL,Zh,YM,Ja,H⟩ hp
 have Jb:=YM.lt
 unfold l10_MoveExact.j1 at H
 refine CW.go hp hS ?_
 have h463:Ow kDeviceO 40 w8.heap (okL [(w2.heap.size,some w6.heap.size,some 40),(w7.heap.size,some w8.heap.size,some 40)]) (okL [(w2.heap.size,some w8.heap.size,some 105)]) QB QC Qw:=Y7.close
 have h464:Ow kTableO 26 w8.heap (okL [(w2.heap.size,some w6.heap.size,some 26),(w7.heap.size,some w8.heap.size,some 26)]) (okL [(w2.heap.size,some w8.heap.size,some 66)]) QD QE Qx:=Y8.close
 have h465:Ow kEntry 66 w8.heap (okL [(w2.heap.size,some w6.heap.size,some 66),(w7.heap.size,some w8.heap.size,some 66)]) (okL []) QF QG Qy:=Y9.close
 have xt12:Ext w8 w8:=Upd.refl _ _
 refine CW.seq (CW.seq (CW.lw 2 rfl (pu 2 rfl (RW.done (NW.next (CW.n H (fun c24 H=>?_) fun c24 H=>?_))))))
 refine CW.skip (NW.next (CW.lex [.L,.M] rfl (RW.lw tk YM ?_)))
 refine RW.sf tk (QA.ext Zh) fun w68 x53 sx53 h467=>?_
 refine RW.done ?_
 refine NW.norm_block (NW.next ?_)
 refine CW.lw 3 rfl (pu 3 rfl (RW.done ?_))
 have h468:=h463.turnB x53 (QA.ext Zh) ⟨.inl (nq rfl),⟨.inl (nq rfl),trivial⟩⟩ ⟨.inl (nq rfl),trivial⟩
 have h469:=h464.turnB x53 (QA.ext Zh) ⟨.inl (nq rfl),⟨.inl (nq rfl),trivial⟩⟩ ⟨.inl (nq rfl),trivial⟩
 have h470:=h465.turnB x53 (QA.ext Zh) ⟨.inl (nq rfl),⟨.inl (nq rfl),trivial⟩⟩ trivial
 have h471:=YL.tB x53
 have h472:=(Zt.ext Zh).tB x53
 exact NW.J fun a ha=>⟨n1,Nat.lt_succ_self n1,(w64 (vb+1)),Qw,QB,QC,Qx,QD,QE,Zj,Zk,Zl,Zm,Qy,QF,QG,Zn,ha.sb,by omega,(h468.sub ⟨(.inl ⟨by omega,trivial,rfl⟩),⟨(.inl ⟨by omega,trivial,rfl⟩),trivial⟩⟩ ⟨(.inl ⟨by omega,trivial,rfl⟩),trivial⟩),(h469.sub ⟨(.inl ⟨by omega,trivial,rfl⟩),⟨(.inl ⟨by omega,trivial,rfl⟩),trivial⟩⟩ ⟨(.inl ⟨by omega,trivial,rfl⟩),trivial⟩),(h470.sub ⟨(.inl ⟨by omega,trivial,rfl⟩),⟨(.inl ⟨by omega,trivial,rfl⟩),trivial⟩⟩ trivial),h471,h472,h467,H⟩
 refine CW.seq (CW.lw 1 rfl (pu 1 rfl (RW.done (NW.next (CW.ret ?_)))))
 refine NW.ret_then (NW.ret_block (NW.ret_then (NW.ret_then (NW.ret_block (NW.ret_then ?_)))))
 obtain rfl:=Option.some.inj H
 exact NW.r1 ⟨rfl,YL⟩
 refine CW.exit ?_
 refine NW.exit_then (NW.exit_then (NW.exit_hit ?_))
 refine NW.next (CW.seq (CW.lex [.X,.W] rfl (RW.cp H ent9 (fun _ h=>l10_wakes.calls h (hG.ext zN)) fun y20 w69 x54 sx54 H=>?_)))
 refine pu 1 rfl (RW.done (NW.next (CW.ret ?_)))
 obtain rfl:=Option.some.inj H
 have h474:=zN.tr x54
 exact NW.r1 ⟨rfl,h474⟩
end Go.Proofs.YtnaajldlloglkaaGreatDoor.W
