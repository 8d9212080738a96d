/- Walks; printed by a program of the claim. -/
import Derived.Test.YtnaajldlloglkaaGreatDoorMoveW2
set_option linter.unusedVariables false
set_option linter.unusedSimpArgs false
set_option maxHeartbeats 20000000
set_option maxRecDepth 100000
namespace Go.Proofs.YtnaajldlloglkaaGreatDoor.W
open Go.H Go.Proofs
theorem move_Step.calls {k:Nat} {p0:Pool} {A1:Option Addr} {c_1:Nat} {A2:Option Addr} {c_2:Nat} {A3:Option Addr} {c_3:Nat} {p1:Int} {r:Pool×(List Pair)×Int} {w:World} (H:move_Step.f k p0 p1=some r) (hs1:Sl kDeviceR w.heap okAll A1 p0.Devices) (hl1:p0.Devices.length≤c_1) (hs2:Sl kTableR w.heap okAll A2 p0.Tables) (hl2:p0.Tables.length≤c_2) (hs3:Sl kEntry w.heap okAll A3 p0.Job.Table.List_) (hl3:p0.Job.Table.List_.length≤c_3) {gT:Nat} (hG:Box w.heap 0 gT (arrI .u8 64 tz)):
 Calls Tryz.prog 16 #[.agg #[.slice A1 p0.Devices.length c_1,.slice A2 p0.Tables.length c_2,iv p0.Job.Dev,iv p0.Job.At,iv p0.Job.Table.Dev,iv p0.Job.Table.Size,.slice A3 p0.Job.Table.List_.length c_3,iv p0.Next],iv p1] w fun e w'=>∃(B1:Option Addr) (d1:Nat) (B2:Option Addr) (d2:Nat) (B3:Option Addr) (d3:Nat) (B4:Option Addr) (d4:Nat),e=.returned (.tuple #[.agg #[.slice B1 r.1.Devices.length d1,.slice B2 r.1.Tables.length d2,iv r.1.Job.Dev,iv r.1.Job.At,iv r.1.Job.Table.Dev,iv r.1.Job.Table.Size,.slice B3 r.1.Job.Table.List_.length d3,iv r.1.Next],.slice B4 r.2.1.length d4,iv r.2.2])∧Ext w w'∧Ow kDeviceO 40 w'.heap (okL [(w.heap.size,none,some 40)]) (okL [(w.heap.size,none,some 105)]) B1 d1 r.1.Devices∧Ow kTableO 26 w'.heap (okL [(w.heap.size,none,some 26)]) (okL [(w.heap.size,none,some 66)]) B2 d2 r.1.Tables∧Ow kEntry 66 w'.heap (okL [(w.heap.size,none,some 66)]) (okL []) B3 d3 r.1.Job.Table.List_∧Ow kPair 124 w'.heap (okL [(w.heap.size,none,some 124)]) (okL []) B4 d4 r.2.1:=by
 have h1:Sl kDeviceR w.heap (okL [(0,some w.heap.size,none)]) A1 p0.Devices:=hs1.old _ rfl
 have h2:Sl kTableR w.heap (okL [(0,some w.heap.size,none)]) A2 p0.Tables:=hs2.old _ rfl
 have h3:Sl kEntry w.heap (okL [(0,some w.heap.size,none)]) A3 p0.Job.Table.List_:=hs3.old _ rfl
 have hG0:0<w.heap.size:=hG.lt
 have x0:Ext w w:=Upd.refl _ w
 unfold move_Step.f at H
 refine cst Tryz.func16 72 ?_
 refine CW.seq (CW.lex [.X,.X,.X,.W] rfl (RW.bx fun b1 w1 x1 sx1 l1 ltb1 h4=>?_))
 refine RW.al tk fun b2 w2 x2 sx2 l2 ltb2 h5=>?_
 refine RW.al tk fun b3 w3 x3 sx3 l3 ltb3 h6=>?_
 refine pu 1 rfl (RW.done (NW.next (CW.seq (CW.lex [.L,.X,.W,.W,.W,.W,.W] rfl ?_))))
 have h7:=(h4.ext x2).ext x3
 refine RW.lw tk h7 ?_
 have xc1:Ext w3 w3:=Upd.refl _ _
 refine RW.callK (.inl rfl) ent30 ⟨rfl,rfl,rfl,rfl⟩ rfl rfl rfl ?_
 refine cst Tryz.func30 11 ?_
 refine CW.seq (CW.lex [.X,.W,.W] rfl (RW.bx fun b4 w4 x4 sx4 l4 ltb4 h8=>?_))
 refine pu 2 rfl (RW.done (NW.next (CW.seq (CW.seq (CW.lex [.L,.X,.W] rfl (RW.lw tk h8 ?_))))))
 have h9:=(((h1.ext x1).ext x2).ext x3).ext x4
 have h10:=(((h2.ext x1).ext x2).ext x3).ext x4
 have h11:=(((h3.ext x1).ext x2).ext x3).ext x4
 refine RW.cp H ent53 (fun _ h=>chain_May.calls h h9.all hl1 h10.all hl2 h11.all hl3) fun y1 w5 x5 sx5 H=>?_
 refine pu 1 rfl (RW.done (NW.next ?_))
 have j1:=(xc1.tr x4).tr x5
 have j2:=((((x0.tr x1).tr x2).tr x3).tr x4).tr x5
 have j3:=((h5.ext x3).ext x4).ext x5
 have j4:=(h6.ext x4).ext x5
 refine CW.n H (fun c1 H=>?_) fun c1 H=>?_
 refine CW.skip (NW.next (CW.seq (CW.lex [.L,.X,.W,.X,.W,.W] rfl ?_)))
 have h13:=h8.ext x5
 refine RW.lw tk h13 ?_
 have h14:=h9.ext x5
 have h15:=h10.ext x5
 have h16:=h11.ext x5
 obtain ⟨y2,h17,H⟩:=bind_some H
 refine RW.cl ent54 (chain_Own.calls h17 h14.all hl1 h15.all hl2 h16.all hl3) ?_
 rintro _ w6 ⟨mid1,A4,c_4,A5,c_5,A6,c_6,rfl,x6,lomid1,himid1,h18,h19,h20⟩
 refine ⟨_,rfl,x6,?_⟩
 have sx6:=x6.size
 have h21:Ow kDeviceO 40 w6.heap (okL [(w5.heap.size,some w6.heap.size,some 40)]) (okL [(w5.heap.size,some w6.heap.size,some 105)]) A4 c_4 y2.Devices:=h18.close
 have h22:Ow kTableO 26 w6.heap (okL [(w5.heap.size,some w6.heap.size,some 26)]) (okL [(mid1,some w6.heap.size,some 66)]) A5 c_5 y2.Tables:=h19.close
 have h23:Ow kEntry 66 w6.heap (okL [(w5.heap.size,some mid1,some 66)]) (okL []) A6 c_6 y2.Job.Table.List_:=h20.close
 refine pu 1 rfl (RW.bx fun b5 w7 x7 sx7 l5 ltb5 h24=>?_)
 refine pu 2 rfl (RW.done (NW.next (CW.ret ?_)))
 have h25:=(j1.tr x6).tr x7
 refine NW.ret2 rfl (by rfl) (by rfl) ⟨_,rfl,h25,?_⟩
 refine pu 5 rfl (RW.done (NW.next (CW.seq (CW.block ?_))))
 refine CW.seqJ (fun a w8=>∃(zg:Bool),Sat 72 [(1,iv p1),(4,.pointer (some ⟨b2,0,none⟩)),(5,.pointer (some ⟨b3,0,none⟩)),(7,.pointer (some ⟨b5,0,none⟩)),(14,.bool zg)] a∧w7.heap.size≤w8.heap.size∧Ow kDeviceO 40 w8.heap (okL [(w5.heap.size,some w6.heap.size,some 40)]) (okL [(w5.heap.size,some w6.heap.size,some 105)]) A4 c_4 y2.Devices∧Ow kTableO 26 w8.heap (okL [(w5.heap.size,some w6.heap.size,some 26)]) (okL [(mid1,some w6.heap.size,some 66)]) A5 c_5 y2.Tables∧Ow kEntry 66 w8.heap (okL [(w5.heap.size,some mid1,some 66)]) (okL []) A6 c_6 y2.Job.Table.List_∧Ext w w8∧Box w8.heap b2 30 [.slice none 0 0,.slice none 0 0,iv 0,iv 0,iv 0,iv 0,.slice none 0 0,iv 0]∧Box w8.heap b3 51 [.slice none 0 0]∧Box w8.heap b5 78 [.slice A4 y2.Devices.length c_4,.slice A5 y2.Tables.length c_5,iv y2.Job.Dev,iv y2.Job.At,iv y2.Job.Table.Dev,iv y2.Job.Table.Size,.slice A6 y2.Job.Table.List_.length c_6,iv y2.Next]∧move_Step.j0 p1 k y2 zg=some r) ?_ ?_
 refine CW.lw 11 rfl (pu 7 rfl ?_)
 have j5:=h21.ext x7
 have j6:=h22.ext x7
 have j7:=h23.ext x7
 have j8:=(j2.tr x6).tr x7
 have j9:=(j3.ext x6).ext x7
 have j10:=(j4.ext x6).ext x7
 refine RW.i 21 H (fun c2 H=>?_) fun c2 H=>?_
 refine pu 4 rfl (RW.done ?_)
 exact NW.J fun a ha=>⟨true,ha.sb,by omega,j5,j6,j7,j8,j9,j10,h24,H⟩
 refine pu 4 rfl (RW.done ?_)
 exact NW.J fun a ha=>⟨(decide (64<p1)),ha.sb,by omega,j5,j6,j7,j8,j9,j10,h24,H⟩
 rintro a w8 ⟨zg,hS,hle,zM,zN,zO,zh,v0,zi,zz,H⟩ hp
 unfold move_Step.j0 at H
 refine CW.go hp hS ?_
 have xt1:Ext w8 w8:=Upd.refl _ _
 refine CW.i H (fun c3 H=>?_) fun c3 H=>?_
 refine CW.seq (CW.lex [.L,.M,.M,.W] rfl (RW.lw tk v0 ?_))
 refine RW.sf tk v0 fun w9 x8 sx8 h39=>?_
 have h40:=zi.tB x8
 refine RW.sf tk h40 fun w10 x9 sx9 h42=>?_
 refine pu 1 rfl (RW.done (NW.next (CW.ret ?_)))
 refine NW.ret_block (NW.ret_then ?_)
 have h43:=h39.tB x9
 obtain rfl:=Option.some.inj H
 have h44:=(zh.tB x8).tB x9
 exact NW.ret3 rfl (resOne_cell tk (h43.at 0) rfl rfl rfl) (resOne_cell tk (h42.at 0) rfl rfl rfl) (by rfl) ⟨none,0,none,0,none,0,none,0,rfl,h44,Ow.nil,Ow.nil,Ow.nil,Ow.nil⟩
 refine CW.seq (CW.lex [.W,.W,.W,.W,.W,.L,.W,.W] rfl (pu 5 rfl (RW.lb tk [iv y2.Job.Dev] zz 2 ?_)))
 refine pu 2 rfl (RW.done (NW.next (CW.i H (fun c4 H=>?_) fun c4 H=>?_)))
 refine CW.seq (CW.lex [.L,.M,.M,.W] rfl (RW.lw tk v0 ?_))
 refine RW.sf tk v0 fun w11 x10 sx10 h46=>?_
 have h47:=zi.tB x10
 refine RW.sf tk h47 fun w12 x11 sx11 h49=>?_
 refine pu 1 rfl (RW.done (NW.next (CW.ret ?_)))
 refine NW.ret_block (NW.ret_then ?_)
 have h50:=h46.tB x11
 obtain rfl:=Option.some.inj H
 have h51:=(zh.tB x10).tB x11
 exact NW.ret3 rfl (resOne_cell tk (h50.at 0) rfl rfl rfl) (resOne_cell tk (h49.at 0) rfl rfl rfl) (by rfl) ⟨none,0,none,0,none,0,none,0,rfl,h51,Ow.nil,Ow.nil,Ow.nil,Ow.nil⟩
 refine CW.skip ?_
 refine NW.norm_block (NW.next ?_)
 refine CW.seq (CW.block ?_)
 refine CW.loop (fun n1 a w13=>∃(vr:Int) (vi:List Pair) (vm:Option Addr) (vn:Nat) (vl:List Device) (vd:Option Addr) (ve:Nat) (vf:Int) (vb:List Entry) (vg:Option Addr) (vh:Nat),Sat 72 [(1,iv vr),(4,.pointer (some ⟨b2,0,none⟩)),(5,.pointer (some ⟨b3,0,none⟩)),(7,.pointer (some ⟨b5,0,none⟩))] a∧w8.heap.size≤w13.heap.size∧Ow kPair 124 w13.heap (okL [(w8.heap.size,none,some 124)]) (okL []) vm vn vi∧Ow kDeviceO 40 w13.heap (okL [(w5.heap.size,none,some 40)]) (okL [(w5.heap.size,none,some 105)]) vd ve vl∧Ow kEntry 66 w13.heap (okL [(w5.heap.size,some mid1,some 66),(w8.heap.size,none,some 66)]) (okL []) vg vh vb∧Ow kTableO 26 w13.heap (okL [(w5.heap.size,some w6.heap.size,some 26)]) (okL [(mid1,some w6.heap.size,some 66)]) A5 c_5 y2.Tables∧Ext w w13∧Box w13.heap b2 30 [.slice none 0 0,.slice none 0 0,iv 0,iv 0,iv 0,iv 0,.slice none 0 0,iv 0]∧Box w13.heap b3 51 [.slice vm vi.length vn]∧Box w13.heap b5 78 [.slice vd vl.length ve,.slice A5 y2.Tables.length c_5,iv y2.Job.Dev,iv vf,iv y2.Job.Table.Dev,iv y2.Job.Table.Size,.slice vg vb.length vh,iv y2.Next]∧move_Step.l0 k y2 n1 vr vi vl vf vb=some r) k ?_ ?_
 exact fun a ha=>⟨p1,([]:List Pair),none,0,y2.Devices,A4,c_4,y2.Job.At,y2.Job.Table.List_,A6,c_6,ha.sb,by omega,Ow.nil,(zM.sb),(zO.sb),zN,zh,v0,zi,zz,H⟩
 rintro n1 a w13 ⟨vr,vi,vm,vn,vl,vd,ve,vf,vb,vg,vh,hS,hle,zP,zQ,zR,zS,zT,zU,zV,zj,H⟩ hp
 obtain _|n1:=n1
 cases H
 rw [move_Step.l0] at H
 refine CW.go hp hS ?_
 have h52:Ow kPair 124 w13.heap (okL [(w8.heap.size,some w13.heap.size,some 124)]) (okL []) vm vn vi:=zP.close
 have h53:Ow kDeviceO 40 w13.heap (okL [(w5.heap.size,some w13.heap.size,some 40)]) (okL [(w5.heap.size,some w13.heap.size,some 105)]) vd ve vl:=zQ.close
 have h54:Ow kEntry 66 w13.heap (okL [(w5.heap.size,some mid1,some 66),(w8.heap.size,some w13.heap.size,some 66)]) (okL []) vg vh vb:=zR.close
 have xt2:Ext w13 w13:=Upd.refl _ _
 refine CW.seq ?_
 refine CW.seqJ (fun a w14=>∃(zk:Bool),Sat 72 [(1,iv vr),(4,.pointer (some ⟨b2,0,none⟩)),(5,.pointer (some ⟨b3,0,none⟩)),(7,.pointer (some ⟨b5,0,none⟩)),(52,.bool zk)] a∧w13.heap.size≤w14.heap.size∧Ext w w14∧Ext w13 w14∧move_Step.j1 k y2 vr vi vl vf vb (move_Step.l0 k y2 n1) zk=some r) ?_ ?_
 refine CW.ord [0,1,3,7,15,31,63,127,255,7,519,1543,3591,7687,15879,32263,65535,131071] (ofL [(0,.W),(1,.W),(2,.W),(3,.W),(4,.W),(5,.W),(6,.W),(7,.W),(9,.W),(10,.W),(11,.W),(12,.W),(13,.W),(14,.W),(8,.L),(15,.L),(16,.W),(17,.W)] .nil) mixed (by kernel_rfl) ?_
 intro w15 x12
 have sx12:=x12.size
 refine pu 3 rfl ?_
 have j17:=zT.tr x12
 have j18:=xt2.tr x12
 refine RW.i 37 H (fun c5 H=>?_) fun c5 H=>?_
 refine pu 11 rfl ?_
 have h55:=zj.ext x12
 refine RW.lb tk [iv vf] h55 3 ?_
 refine RW.lb tk [iv y2.Job.Table.Size] h55 5 ?_
 refine pu 2 rfl (RW.done ?_)
 exact NW.J fun a ha=>⟨(decide (vf<y2.Job.Table.Size)),ha.sb,by omega,j17,j18,H⟩
 refine pu 15 rfl (RW.done ?_)
 exact NW.J fun a ha=>⟨false,ha.sb,by omega,j17,j18,H⟩
 rintro a w14 ⟨zk,hS,hle,vt,vF,H⟩ hp
 unfold move_Step.j1 at H
 refine CW.go hp hS ?_
 have j11:=h53.ext vF
 have j12:=zS.ext vF
 have j13:=h54.ext vF
 have j14:=h52.ext vF
 have j15:=zV.ext vF
 have j16:=zU.ext vF
 refine CW.i H (fun c6 H=>?_) fun c6 H=>?_
 refine CW.skip (NW.next (CW.seq (CW.block (CW.seq (CW.lex [.W,.M,.W] rfl (pu 1 rfl ?_))))))
 refine RW.callFM (R:=fun e w16=>∃(zl:Bool) (vP:List Pair) (v1:Option Addr) (v2:Nat) (vQ:List Device) (v3:Option Addr) (v4:Nat) (vR:List Entry) (v5:Option Addr) (v6:Nat),e=.returned (.bool zl)∧w14.heap.size≤w16.heap.size∧Ow kPair 124 w16.heap (okL [(w8.heap.size,none,some 124)]) (okL []) v1 v2 vP∧Ow kDeviceO 40 w16.heap (okL [(w5.heap.size,none,some 40)]) (okL [(w5.heap.size,none,some 105)]) v3 v4 vQ∧Ow kEntry 66 w16.heap (okL [(w5.heap.size,some mid1,some 66),(w8.heap.size,none,some 66)]) (okL []) v5 v6 vR∧Ow kTableO 26 w16.heap (okL [(w5.heap.size,some w6.heap.size,some 26)]) (okL [(mid1,some w6.heap.size,some 66)]) A5 c_5 y2.Tables∧Ext w w16∧Box w16.heap b2 30 [.slice none 0 0,.slice none 0 0,iv 0,iv 0,iv 0,iv 0,.slice none 0 0,iv 0]∧Box w16.heap b3 51 [.slice v1 vP.length v2]∧Box w16.heap b5 78 [.slice v3 vQ.length v4,.slice A5 y2.Tables.length c_5,iv y2.Job.Dev,iv (w64 (vf+1)),iv y2.Job.Table.Dev,iv y2.Job.Table.Size,.slice v5 vR.length v6,iv y2.Next]∧move_Step.j2 vr vf (move_Step.l0 k y2 n1) zl vP vQ vR=some r) ent46 ⟨rfl,rfl,rfl,rfl⟩ rfl rfl rfl ?_ ?_
 refine cst Tryz.func46 100 ?_
 refine CW.seq (CW.lw 1 rfl (pu 1 rfl (RW.done (NW.next (CW.seq (CW.ord [0,1,3,7,15,0,32,96,224,480,992,2047,4095,8191,8191,16383,65535] (ofL [(0,.W),(1,.W),(2,.W),(3,.W),(5,.W),(6,.W),(7,.W),(8,.W),(9,.W),(4,.L),(10,.L),(11,.X),(12,.W),(13,.W),(14,.W),(15,.W),(16,.W)] .nil) mixed (by kernel_rfl) ?_))))))
 intro w17 x13
 have sx13:=x13.size
 refine pu 9 rfl ?_
 have h60:=(zj.ext vF).ext x13
 refine RW.lb tk [.slice vd vl.length ve] h60 0 ?_
 refine RW.lb tk [iv y2.Job.Dev] h60 2 ?_
 have h61:=j11.ext x13
 refine RW.cp H ent31 (fun _ h=>room_Find.calls h (h61.all.to kDevice_ro rfl) h61.len) fun y3 w18 x14 sx14 H=>?_
 refine pu 5 rfl (RW.done (NW.next (CW.seq (CW.lex [.W,.W,.W,.W,.W,.L,.W] rfl (pu 5 rfl ?_)))))
 have h63:=h60.ext x14
 refine RW.lb tk [iv vf] h63 3 ?_
 refine pu 1 rfl (RW.done (NW.next (CW.seq (CW.lex [.W,.W,.W,.W,.W,.L,.W,.W,.W,.W,.W,.M] rfl (pu 5 rfl (RW.lb tk [iv vf] h63 3 ?_))))))
 refine pu 5 rfl (RW.sp tk h63 [.slice vd vl.length ve,.slice A5 y2.Tables.length c_5,iv y2.Job.Dev,iv (w64 (vf+1)),iv y2.Job.Table.Dev,iv y2.Job.Table.Size,.slice vg vb.length vh,iv y2.Next] fun w19 x15 sx15 h65=>?_)
 refine RW.done (NW.next (CW.seq (CW.seq (CW.lex [.W,.W,.W,.W,.L,.W,.W,.L,.X,.W,.X,.W] rfl (pu 4 rfl (RW.lb tk [.slice vd vl.length ve] h65 0 ?_))))))
 refine pu 1 rfl ?_
 obtain ⟨g1,H⟩:=guard_some H
 have h66:=(h61.ext x14).tB x15 h63
 obtain ⟨ad1,A7,c_7,A8,c_8,e1,a1,h67,h68⟩:=kDeviceO_ato h66 g1.1 g1.2
 refine RW.ix tk g1 e1 ?_
 refine RW.ld tk _ a1 ?_
 refine RW.cp H ent33 (fun _ h=>room_Busy.calls h h67.all h67.len h68.all h68.len) fun y4 w20 x16 sx16 H=>?_
 refine pu 1 rfl (RW.cp H ent63 (fun _ h=>seg_Set_Has.calls h) fun y5 w21 x17 sx17 H=>?_)
 refine pu 1 rfl (RW.done (NW.next ?_))
 have j19:=(h65.ext x16).ext x17
 have j20:=(h66.ext x16).ext x17
 have j21:=((((j12.ext x13).ext x14).tB x15 h63).ext x16).ext x17
 have j22:=((((j13.ext x13).ext x14).tB x15 h63).ext x16).ext x17
 have j23:=((((j14.ext x13).ext x14).tB x15 h63).ext x16).ext x17
 have j24:=((((vt.tr x13).tr x14).tB x15).tr x16).tr x17
 have j25:=((((j15.ext x13).ext x14).tB x15).ext x16).ext x17
 have j26:=((((j16.ext x13).ext x14).tB x15).ext x16).ext x17
 refine CW.n H (fun c7 H=>?_) fun c7 H=>?_
 refine CW.skip (NW.next (CW.seq (CW.ord [0,1,3,7,15,0,32,96,224,480,992,2047,4095,8191,8191,16383,65535] (ofL [(0,.W),(1,.W),(2,.W),(3,.W),(5,.W),(6,.W),(7,.W),(8,.W),(9,.W),(4,.L),(10,.L),(11,.M),(12,.W),(13,.W),(14,.W),(15,.W),(16,.W)] .nil) mixed (by kernel_rfl) ?_)))
 intro w22 x18
 have sx18:=x18.size
 refine pu 9 rfl ?_
 have h71:=j19.ext x18
 refine RW.lb tk [.slice vd vl.length ve] h71 0 ?_
 refine RW.lb tk [iv y2.Job.Dev] h71 2 ?_
 refine RW.callFM (R:=fun e w23=>∃(vj:List Ptr) (v7:Option Addr) (v8:Nat) (zm:Bool) (vq:List Device) (vu:Option Addr) (vv:Nat),e=.returned (.tuple #[.slice v7 vj.length v8,.bool zm])∧w22.heap.size≤w23.heap.size∧Ow kPtr 43 w23.heap (okL [(w22.heap.size,none,some 43)]) (okL []) v7 v8 vj∧Ow kDeviceO 40 w23.heap (okL [(w5.heap.size,none,some 40)]) (okL [(w5.heap.size,none,some 105)]) vu vv vq∧Ow kTableO 26 w23.heap (okL [(w5.heap.size,some w6.heap.size,some 26)]) (okL [(mid1,some w6.heap.size,some 66)]) A5 c_5 y2.Tables∧Ow kEntry 66 w23.heap (okL [(w5.heap.size,some mid1,some 66),(w8.heap.size,some w13.heap.size,some 66)]) (okL []) vg vh vb∧Ow kPair 124 w23.heap (okL [(w8.heap.size,some w13.heap.size,some 124)]) (okL []) vm vn vi∧Ext w w23∧Box w23.heap b5 78 [.slice vu vq.length vv,.slice A5 y2.Tables.length c_5,iv y2.Job.Dev,iv (w64 (vf+1)),iv y2.Job.Table.Dev,iv y2.Job.Table.Size,.slice vg vb.length vh,iv y2.Next]∧Box w23.heap b3 51 [.slice vm vi.length vn]∧Box w23.heap b2 30 [.slice none 0 0,.slice none 0 0,iv 0,iv 0,iv 0,iv 0,.slice none 0 0,iv 0]∧move_Step.j3 y2 vr vi vf vb (move_Step.l0 k y2 n1) vj zm vq=some r) ent71 ⟨rfl,rfl,rfl,rfl⟩ rfl rfl rfl ?_ ?_
 refine cst Tryz.func71 30 ?_
 refine CW.seq (CW.lw 2 rfl (pu 2 rfl (RW.done (NW.next (CW.seq (CW.seq (CW.lex [.W,.W,.X,.W,.W] rfl ?_)))))))
 refine pu 2 rfl ?_
 have h72:=j20.ext x18
 refine RW.cp H ent95 (fun _ h=>room_Free.calls h (h72.all.to kDevice_ro rfl) h72.len) fun y6 w24 x19 sx19 H=>?_
 refine pu 2 rfl (RW.done (NW.next ?_))
 have j27:=h72.ext x19
 have j28:=(j21.ext x18).ext x19
 have j29:=(j22.ext x18).ext x19
 have j30:=(j23.ext x18).ext x19
 have j31:=(j24.tr x18).tr x19
 have j32:=h71.ext x19
 have j33:=(j25.ext x18).ext x19
 have j34:=(j26.ext x18).ext x19
 refine CW.i H (fun c8 H=>?_) fun c8 H=>?_
 refine CW.seq (CW.lw 2 rfl (pu 2 rfl (RW.done (NW.next (CW.ret (NW.ret_then ?_))))))
 exact NW.ret2 rfl (by rfl) (by rfl) ⟨([]:List Ptr),none,0,false,vl,vd,ve,rfl,by omega,Ow.nil,(j27.sb),j28,j29,j30,j31,j32,j33,j34,H⟩
 refine CW.skip (NW.next (CW.seq (CW.seq (CW.lw 2 rfl (pu 2 rfl (RW.done (NW.next ?_)))))))
 refine CW.block ?_
 refine CW.loop (fun n2 a w25=>∃(vk:List Device) (vw:List Ptr) (vS:Option Addr) (vT:Nat) (v9:Int),Sat 30 [(0,.slice vd vk.length ve),(2,iv y2.Job.Dev),(6,.slice vS vw.length vT),(15,iv 1),(16,iv v9)] a∧w24.heap.size≤w25.heap.size∧Ow kDeviceO 40 w25.heap (okL [(w5.heap.size,none,some 40)]) (okL [(w5.heap.size,none,some 105)]) vd ve vk∧Ow kPtr 43 w25.heap (okL [(w24.heap.size,none,some 43)]) (okL []) vS vT vw∧Ow kPair 124 w25.heap (okL [(w8.heap.size,some w13.heap.size,some 124)]) (okL []) vm vn vi∧Ow kTableO 26 w25.heap (okL [(w5.heap.size,some w6.heap.size,some 26)]) (okL [(mid1,some w6.heap.size,some 66)]) A5 c_5 y2.Tables∧Ow kEntry 66 w25.heap (okL [(w5.heap.size,some mid1,some 66),(w8.heap.size,some w13.heap.size,some 66)]) (okL []) vg vh vb∧Ext w w25∧vk.length=vl.length∧Box w25.heap b2 30 [.slice none 0 0,.slice none 0 0,iv 0,iv 0,iv 0,iv 0,.slice none 0 0,iv 0]∧Box w25.heap b3 51 [.slice vm vi.length vn]∧Box w25.heap b5 78 [.slice vd vk.length ve,.slice A5 y2.Tables.length c_5,iv y2.Job.Dev,iv (w64 (vf+1)),iv y2.Job.Table.Dev,iv y2.Job.Table.Size,.slice vg vb.length vh,iv y2.Next]∧move_Step.l1 k y2 vr vi vf vb (move_Step.l0 k y2 n1) n2 vk vw v9=some r) k ?_ ?_
 exact fun a ha=>⟨vl,([]:List Ptr),none,0,0,ha.sb,by omega,(j27.sb),Ow.nil,j30,j28,j29,j31,(by (try simp only [List.length_set]) <;>omega),j34,j33,j32,H⟩
 rintro n2 a w25 ⟨vk,vw,vS,vT,v9,hS,hle,zW,zX,zA,zB,zC,zd,QF,zD,zE,zF,H⟩ hp
 obtain _|n2:=n2
 cases H
 rw [move_Step.l1] at H
 refine CW.go hp hS ?_
 have h90:Ow kDeviceO 40 w25.heap (okL [(w5.heap.size,some w25.heap.size,some 40)]) (okL [(w5.heap.size,some w25.heap.size,some 105)]) vd ve vk:=zW.close
 have h91:Ow kPtr 43 w25.heap (okL [(w24.heap.size,some w25.heap.size,some 43)]) (okL []) vS vT vw:=zX.close
 have xt3:Ext w25 w25:=Upd.refl _ _
 refine CW.seq (CW.lw 1 rfl (pu 1 rfl (RW.done (NW.next (CW.seq (CW.i H (fun c9 H=>?_) fun c9 H=>?_))))))
 refine CW.skip (NW.next (CW.seq (CW.block (CW.seq (CW.lex [.W,.W,.M,.W,.W,.W,.X,.M,.W] rfl (pu 2 rfl ?_))))))
 refine RW.callFM (R:=fun e w26=>∃(vB:List Device) (vH:Int) (vI:Int) (zn:Bool),e=.returned (.tuple #[.agg #[iv vH,iv vI],.bool zn])∧w25.heap.size≤w26.heap.size∧Ow kDeviceO 40 w26.heap (okL [(w5.heap.size,some w25.heap.size,some 40)]) (okL [(w5.heap.size,none,some 105)]) vd ve vB∧Ow kPtr 43 w26.heap (okL [(w24.heap.size,some w25.heap.size,some 43)]) (okL []) vS vT vw∧Ow kPair 124 w26.heap (okL [(w8.heap.size,some w13.heap.size,some 124)]) (okL []) vm vn vi∧Ow kTableO 26 w26.heap (okL [(w5.heap.size,some w6.heap.size,some 26)]) (okL [(mid1,some w6.heap.size,some 66)]) A5 c_5 y2.Tables∧Ow kEntry 66 w26.heap (okL [(w5.heap.size,some mid1,some 66),(w8.heap.size,some w13.heap.size,some 66)]) (okL []) vg vh vb∧Ext w w26∧vB.length=vk.length∧Box w26.heap b2 30 [.slice none 0 0,.slice none 0 0,iv 0,iv 0,iv 0,iv 0,.slice none 0 0,iv 0]∧Box w26.heap b3 51 [.slice vm vi.length vn]∧Box w26.heap b5 78 [.slice vd vB.length ve,.slice A5 y2.Tables.length c_5,iv y2.Job.Dev,iv (w64 (vf+1)),iv y2.Job.Table.Dev,iv y2.Job.Table.Size,.slice vg vb.length vh,iv y2.Next]∧move_Step.j4 vw v9 (move_Step.l1 k y2 vr vi vf vb (move_Step.l0 k y2 n1) n2) vB vH vI zn=some r) ent96 ⟨rfl,rfl,rfl,rfl⟩ rfl rfl rfl ?_ ?_
 refine cst Tryz.func96 39 ?_
 refine CW.seq (CW.lex [.X,.W] rfl (RW.al tk fun b6 w27 x20 sx20 l8 ltb6 h92=>?_))
 refine pu 1 rfl (RW.done (NW.next (CW.seq (CW.lex [.W,.W,.X,.W] rfl (pu 2 rfl ?_)))))
 have h93:=h90.ext x20
 refine RW.cp H ent128 (fun _ h=>room_emptiest.calls h (h93.all.to kDevice_ro rfl) h93.len) fun y7 w28 x21 sx21 H=>?_
 refine pu 1 rfl (RW.done (NW.next (CW.seq (CW.seq (CW.lw 2 rfl (pu 2 rfl (RW.done ?_)))))))
 refine NW.next ?_
 have j35:=h92.ext x21
 have j36:=h93.ext x21
 have j37:=(h91.ext x20).ext x21
 have j38:=(zA.ext x20).ext x21
 have j39:=(zB.ext x20).ext x21
 have j40:=(zC.ext x20).ext x21
 have j41:=(zD.ext x20).ext x21
 have j42:=(zE.ext x20).ext x21
 have j43:=(zF.ext x20).ext x21
 refine CW.i H (fun c10 H=>?_) fun c10 H=>?_
 refine CW.seq (CW.lex [.L,.M,.W] rfl (RW.lw tk j35 ?_))
 refine RW.sf tk j35 fun w29 x22 sx22 h97=>?_
 refine pu 1 rfl (RW.done (NW.next (CW.ret (NW.ret_then ?_))))
 have h98:=j36.tB x22 j35
 have h99:=j37.turnB x22 j35 ⟨.inr (by omega),trivial⟩ trivial
 have h100:=j38.tB x22 j35
 have h101:=j39.tB x22 j35
 have h102:=j40.tB x22 j35
 have h103:=((zd.tr x20).tr x21).tB x22
 have h104:=j41.tB x22
 have h105:=j42.tB x22
 have h106:=j43.tB x22
 exact NW.ret2 rfl (resOne_cell tk (h97.at 0) rfl rfl rfl) (by rfl) ⟨vk,0,0,false,rfl,by omega,(h98.sb),h99,h100,h101,h102,h103,(by (try simp only [List.length_set]) <;>omega),h104,h105,h106,H⟩
 refine CW.skip (NW.next (CW.seq (CW.lex [.W,.W,.W,.W,.L,.X,.W] rfl (pu 2 rfl ?_))))
 obtain ⟨g2,H⟩:=guard_some H
 obtain ⟨ad2,A9,c_9,A10,c_10,e2,a2,h108,h109⟩:=kDeviceO_ato j36 g2.1 g2.2
 refine RW.ix tk g2 e2 ?_
 refine pu 1 rfl (RW.ld tk [.slice A9 ((rd vk y7).Free).length c_9] ((a2.fld 2).take 1 rfl) ?_)
 refine RW.cp H ent57 (fun _ h=>seg_Make.calls h h108.all h108.len) fun y8 w30 x23 sx23 H=>?_
 refine pu 1 rfl (RW.done (NW.next (CW.seq (CW.ord [0,0,3,7,15,0,32,127,255] (ofL [(0,.W),(1,.W),(2,.W),(3,.W),(5,.W),(4,.L),(6,.X),(7,.W),(8,.M)] .nil) mixed (by kernel_rfl) ?_))))
 intro w31 x24
 have sx24:=x24.size
 refine pu 2 rfl ?_
 obtain ⟨g3,H⟩:=guard_some H
 have h111:=(j36.ext x23).ext x24
 obtain ⟨ad3,A11,c_11,A12,c_12,e3,a3,h112,h113⟩:=kDeviceO_ato h111 g3.1 g3.2
 refine RW.ix tk g3 e3 ?_
 refine pu 2 rfl (RW.ld tk [iv ((rd vk y7).ID)] ((a3.fld 0).take 1 rfl) ?_)
 have h114:=((((hG.ext zd).ext x20).ext x21).ext x23).ext x24
 refine RW.cp H ent90 (fun _ h=>seg_Set_Least.calls h h114) fun y9 w32 x25 sx25 H=>?_
 refine pu 1 rfl ?_
 have h116:=((j35.ext x23).ext x24).ext x25
 refine RW.sf tk h116 fun w33 x26 sx26 h118=>?_
 refine RW.done (NW.next (CW.seq (CW.lex [.W,.W,.W,.W,.L,.X,.W,.X,.W,.W,.M] rfl (pu 4 rfl (RW.lb tk [iv y9] h118 1 ?_)))))
 refine RW.cp H ent37 (fun _ h=>seg_One.calls h) fun y10 w34 x27 sx27 H=>?_
 refine pu 1 rfl ?_
 have h120:=((h114.ext x25).tB x26).ext x27
 obtain ⟨y11,h121,H⟩:=bind_some H
 refine RW.cl ent40 (seg_Set_Segs.calls h121 h120) ?_
 rintro _ w35 ⟨A13,c_13,rfl,x28,h122⟩
 refine ⟨_,rfl,x28,?_⟩
 have sx28:=x28.size
 have h123:Ow kSeg 105 w35.heap (okL [(w34.heap.size,some w35.heap.size,some 105)]) (okL []) A13 c_13 y11:=h122.close
 obtain ⟨g4,H⟩:=guard_some H
 have h124:=(((h111.ext x25).tB x26 h116).ext x27).ext x28
 obtain ⟨ad4,A14,c_14,A15,c_15,e4,a4,h125,h126⟩:=kDeviceO_ato h124 g4.1 g4.2
 refine RW.ix tk g4 e4 ?_
 refine pu 1 rfl ?_
 refine RW.storeElL (y:=(⟨(rd vk y7).ID,(rd vk y7).Size,y11,(rd vk y7).Late⟩:Device)) (lv:=[(w34.heap.size,some w35.heap.size,some 105)]) (k:=2) tk h124 (j:=y7.toNat) (by have:=g4;omega) default [.slice A13 y11.length c_13] (fun cs ok' hr=>by obtain ⟨qa1,qc1,qa2,qc2,rfl,q1,q2⟩:=kDeviceO_open hr;exact ⟨by simp,kDeviceO_mk (⟨(rd vk y7).ID,(rd vk y7).Size,y11,(rd vk y7).Late⟩:Device) (h123.mono (fun _ _ ho=>Or.inr (okL_sub (l:=[(w34.heap.size,some w35.heap.size,some 105)]) (l':=[(w34.heap.size,some w35.heap.size,some 105)]) ⟨(.inl ⟨by omega,by omega,rfl⟩),trivial⟩ ho)) (fun _ _ ho=>Or.inr (okL_sub (l:=[]) (l':=[(w34.heap.size,some w35.heap.size,some 105)]) trivial ho))) (q2.mono (fun _ _ ho=>Or.inl ho) (fun _ _ ho=>Or.inl ho))⟩) ⟨⟨.inl (nq rfl),trivial⟩,trivial⟩ ⟨rfl,rfl,rfl⟩ rfl rfl e4 rfl rfl rfl rfl rfl ?_
 intro w36 x29 h127
 have sx29:=x29.size
 have h128:=h127.close.sub (l':=[(w5.heap.size,some w25.heap.size,some 40)]) (li':=[(w5.heap.size,some w35.heap.size,some 105)]) ⟨(.inl ⟨by omega,by omega,rfl⟩),trivial⟩ ⟨(.inl ⟨by omega,by omega,rfl⟩),⟨(.inl ⟨by omega,by omega,rfl⟩),trivial⟩⟩
 have h129:=((((((j43.ext x23).ext x24).ext x25).tB x26).ext x27).ext x28).tL x29
 have h130:Box w36.heap b5 78 [.slice vd (vk.set y7.toNat (⟨(rd vk y7).ID,(rd vk y7).Size,y11,(rd vk y7).Late⟩:Device)).length ve,.slice A5 y2.Tables.length c_5,iv y2.Job.Dev,iv (w64 (vf+1)),iv y2.Job.Table.Dev,iv y2.Job.Table.Size,.slice vg vb.length vh,iv y2.Next]:=by simpa only [List.length_set] using h129
 refine RW.done (NW.next (CW.seq (CW.lex [.L,.M,.W] rfl ?_)))
 have h131:=((h118.ext x27).ext x28).tL x29
 refine RW.lw tk h131 ?_
 refine RW.sf tk h131 fun w37 x30 sx30 h133=>?_
 refine pu 1 rfl (RW.done (NW.next (CW.ret ?_)))
 have h134:=h128.tB x30 h131
 have h135:=(((((((j37.ext x23).ext x24).ext x25).turnB x26 h116 ⟨.inr (by omega),trivial⟩ trivial).ext x27).ext x28).tL x29).turnB x30 h131 ⟨.inr (by omega),trivial⟩ trivial
 have h136:=(((((((j38.ext x23).ext x24).ext x25).tB x26 h116).ext x27).ext x28).tL x29).tB x30 h131
 have h137:=(((((((j39.ext x23).ext x24).ext x25).tB x26 h116).ext x27).ext x28).tL x29).tB x30 h131
 have h138:=(((((((j40.ext x23).ext x24).ext x25).tB x26 h116).ext x27).ext x28).tL x29).tB x30 h131
 have h139:=(Ext.turn ((((((((zd.tr x20).tr x21).tr x23).tr x24).tr x25).tB x26).tr x27).tr x28) x29 ⟨by omega,trivial⟩).tB x30
 have h140:=(((((((j41.ext x23).ext x24).ext x25).tB x26).ext x27).ext x28).tL x29).tB x30
 have h141:=(((((((j42.ext x23).ext x24).ext x25).tB x26).ext x27).ext x28).tL x29).tB x30
 have h142:=h130.tB x30
 exact NW.ret2 rfl (resOne_cell tk (h133.at 0) rfl rfl rfl) (by rfl) ⟨(vk.set y7.toNat (⟨(rd vk y7).ID,(rd vk y7).Size,y11,(rd vk y7).Late⟩:Device)),((rd vk y7).ID),y9,true,rfl,by omega,(h134.sb),h135,h136,h137,h138,h139,(by (try simp only [List.length_set]) <;>omega),h140,h141,h142,H⟩
 rintro _ w26 ⟨vB,vH,vI,zn,rfl,hle,zY,zZ,z0,z1,z2,z3,QG,z4,z5,z6,H⟩
 refine ⟨_,rfl,?_⟩
 unfold move_Step.j4 at H
 have h143:Ow kDeviceO 40 w26.heap (okL [(w5.heap.size,some w25.heap.size,some 40)]) (okL [(w5.heap.size,some w26.heap.size,some 105)]) vd ve vB:=zY.close
 have xt4:Ext w26 w26:=Upd.refl _ _
 refine RW.tell 0 (v':=.slice vd vB.length ve) (show Value.slice vd vk.length ve=Value.slice vd vB.length ve from congrArg (fun n=>Value.slice vd n ve) (by (try simp only [List.length_set]) <;>omega)) rfl ?_
 refine pu 3 rfl (RW.al tk fun b7 w38 x31 sx31 l15 ltb7 h144=>?_)
 refine RW.sf tk h144 fun w39 x32 sx32 h146=>?_
 refine pu 1 rfl (RW.done (NW.next (CW.lex [.W,.L,.X,.M,.W] rfl (pu 1 rfl (RW.lw tk h146 ?_)))))
 refine RW.buildSlice (cs:=[iv vH,iv vI]) tk (.inl rfl) ⟨rfl,rfl,rfl,rfl⟩ rfl rfl rfl rfl rfl rfl rfl ?_
 intro b8 w40 x33 l16 h147
 have sx33:=x33.size
 have ltb8:=h147.lt
 have h148:=((zZ.ext x31).turnB x32 h144 ⟨.inr (by omega),trivial⟩ trivial).ext x33
 obtain ⟨g5,H⟩:=guard_some H
 refine RW.append1L (d:=kPtr) (v:=(⟨vH,vI⟩:Ptr)) (l:=[(w24.heap.size,some w25.heap.size,some 43)]) (li:=[]) (ly:=[]) (xs:=vw) tk h148 h147 (kPtr_mk (⟨vH,vI⟩:Ptr)) trivial (by simp only [maxLen];omega) g5 ⟨rfl,rfl,rfl,rfl⟩ rfl rfl rfl rfl rfl rfl rfl ?_
 intro A16 c_16 w41 x34 h149
 have sx34:=x34.size
 have h150:=h149.close.sub (l':=[(w24.heap.size,some w41.heap.size,some 43)]) (li':=[]) ⟨(.inl ⟨by omega,by omega,rfl⟩),⟨(.inl ⟨by omega,by omega,rfl⟩),trivial⟩⟩ trivial
 refine pu 1 rfl (RW.done ?_)
 refine NW.norm_block (NW.next ?_)
 refine CW.lw 2 rfl (pu 2 rfl (RW.done ?_))
 have h151:=(((h143.ext x31).tB x32 h144).ext x33).tL x34
 have h152:=(((z0.ext x31).tB x32 h144).ext x33).tL x34
 have h153:=(((z1.ext x31).tB x32 h144).ext x33).tL x34
 have h154:=(((z2.ext x31).tB x32 h144).ext x33).tL x34
 have h155:=Ext.turn (((z3.tr x31).tB x32).tr x33) x34 ⟨by omega,trivial⟩
 have h156:=(((z4.ext x31).tB x32).ext x33).tL x34
 have h157:=(((z5.ext x31).tB x32).ext x33).tL x34
 have h158:=(((z6.ext x31).tB x32).ext x33).tL x34
 exact NW.J fun a ha=>⟨n2,Nat.lt_succ_self n2,vB,(vw++[(⟨vH,vI⟩:Ptr)]),A16,c_16,(w64 (v9+1)),ha.sb,by omega,(h151.sb),(h150.sb),h152,h153,h154,h155,(by (try simp only [List.length_set]) <;>omega),h156,h157,h158,H⟩
 refine CW.exit ?_
 refine NW.exit_then (NW.exit_then (NW.exit_hit ?_))
 refine NW.next (CW.seq (CW.lw 3 rfl (pu 3 rfl (RW.done (NW.next (CW.ret ?_))))))
 exact NW.ret2 rfl (by rfl) (by rfl) ⟨vw,vS,vT,true,vk,vd,ve,rfl,by omega,(h91.sb),(h90.sb),zB,zC,zA,zd,zF,zE,zD,H⟩
 rintro _ w23 ⟨vj,v7,v8,zm,vq,vu,vv,rfl,hle,z7,z8,zo,vU,zp,zG,za,zq,zr,H⟩
 refine ⟨_,rfl,?_⟩
 unfold move_Step.j3 at H
 have h159:Ow kPtr 43 w23.heap (okL [(w22.heap.size,some w23.heap.size,some 43)]) (okL []) v7 v8 vj:=z7.close
 have h160:Ow kDeviceO 40 w23.heap (okL [(w5.heap.size,some w23.heap.size,some 40)]) (okL [(w5.heap.size,some w23.heap.size,some 105)]) vu vv vq:=z8.close
 have xt5:Ext w23 w23:=Upd.refl _ _
 refine pu 5 rfl (RW.done (NW.next (CW.seq (CW.seq (CW.lw 2 rfl (pu 2 rfl (RW.done ?_)))))))
 refine NW.next (CW.n H (fun c11 H=>?_) fun c11 H=>?_)
 refine CW.skip (NW.next (CW.seq (CW.ord [0,1,3,7,15,0,0,64,192,511] (ofL [(0,.W),(1,.W),(2,.W),(3,.W),(4,.W),(5,.W),(6,.W),(7,.W),(8,.L),(9,.M)] .nil) mixed (by kernel_rfl) ?_)))
 intro w42 x35
 have sx35:=x35.size
 refine pu 7 rfl ?_
 obtain ⟨g6,H⟩:=guard_some H
 have h161:=h159.ext x35
 obtain ⟨ad5,e5,a5⟩:=kPtr_at h161.slL g6.1 g6.2
 refine RW.ix tk g6 e5 ?_
 refine RW.ld tk _ a5 ?_
 refine RW.callFM (R:=fun e w43=>∃(vV:List Entry) (zb:Option Addr) (zc:Nat),e=.returned (.tuple #[])∧w42.heap.size≤w43.heap.size∧Ow kEntry 66 w43.heap (okL [(w5.heap.size,some mid1,some 66),(w8.heap.size,none,some 66)]) (okL []) zb zc vV∧Ow kDeviceO 40 w43.heap (okL [(w5.heap.size,some w23.heap.size,some 40)]) (okL [(w5.heap.size,some w23.heap.size,some 105)]) vu vv vq∧Ow kTableO 26 w43.heap (okL [(w5.heap.size,some w6.heap.size,some 26)]) (okL [(mid1,some w6.heap.size,some 66)]) A5 c_5 y2.Tables∧Ow kPair 124 w43.heap (okL [(w8.heap.size,some w13.heap.size,some 124)]) (okL []) vm vn vi∧Ow kPtr 43 w43.heap (okL [(w22.heap.size,some w23.heap.size,some 43)]) (okL []) v7 v8 vj∧Ext w w43∧Box w43.heap b5 78 [.slice vu vq.length vv,.slice A5 y2.Tables.length c_5,iv y2.Job.Dev,iv (w64 (vf+1)),iv y2.Job.Table.Dev,iv y2.Job.Table.Size,.slice zb vV.length zc,iv y2.Next]∧Box w43.heap b3 51 [.slice vm vi.length vn]∧Box w43.heap b2 30 [.slice none 0 0,.slice none 0 0,iv 0,iv 0,iv 0,iv 0,.slice none 0 0,iv 0]∧move_Step.j5 y2 vr vi vf vj vq (move_Step.l0 k y2 n1) vV=some r) ent72 ⟨rfl,rfl,rfl,rfl⟩ rfl rfl rfl ?_ ?_
 refine cst Tryz.func72 70 ?_
 refine CW.seq (CW.lex [.X] rfl (RW.bx fun b9 w44 x36 sx36 l17 ltb9 h162=>?_))
 refine RW.done (NW.next ?_)
 refine CW.seqJ (fun a w45=>Sat 70 [(0,.pointer (some ⟨b5,4,none⟩)),(1,iv vf),(5,.pointer (some ⟨b9,0,none⟩))] a∧w44.heap.size≤w45.heap.size∧Ext w w45∧Ext w23 w45∧Box w45.heap b9 43 [iv ((rd vj 0).Dev),iv ((rd vj 0).At)]∧move_Step.j6 y2 vr vi vf vb vj vq (move_Step.l0 k y2 n1)=some r) ?_ ?_
 refine CW.seq (CW.lex [.W,.W,.W,.L,.W,.W,.W] rfl (pu 3 rfl ?_))
 have h163:=(za.ext x35).ext x36
 refine RW.lb tk [.slice vg vb.length vh] h163 6 ?_
 refine pu 3 rfl (RW.done (NW.next (CW.seq (CW.lw 2 rfl (pu 2 rfl (RW.done (NW.next ?_)))))))
 have j44:=(zG.tr x35).tr x36
 have j45:=(xt5.tr x35).tr x36
 refine CW.i H (fun c12 H=>?_) fun c12 H=>?_
 refine CW.seq (CW.lex [.W,.W,.W,.L,.W,.W,.L,.X,.M] rfl (pu 3 rfl (RW.lb tk [.slice vg vb.length vh] h163 6 ?_)))
 refine pu 1 rfl ?_
 obtain ⟨g7,H⟩:=guard_some H
 have h164:=(vU.ext x35).ext x36
 obtain ⟨ad6,e6,a6⟩:=kEntry_at h164.slL g7.1 g7.2
 refine RW.ix tk g7 e6 ?_
 refine RW.ld tk _ a6 ?_
 refine RW.al tk fun b10 w46 x37 sx37 l18 ltb10 h165=>?_
 refine RW.sf tk h165 fun w47 x38 sx38 h167=>?_
 refine RW.done (NW.next ?_)
 refine CW.seqJ (fun a w48=>∃(zs:Bool),Sat 70 [(0,.pointer (some ⟨b5,4,none⟩)),(1,iv vf),(5,.pointer (some ⟨b9,0,none⟩)),(6,iv (w64 ((vb.length:Int)-1))),(43,.bool zs)] a∧w47.heap.size≤w48.heap.size∧Ext w w48∧Ext w23 w48∧Box w48.heap b9 43 [iv ((rd vj 0).Dev),iv ((rd vj 0).At)]∧move_Step.j7 y2 vr vi vf vb vj vq (move_Step.l0 k y2 n1) zs=some r) ?_ ?_
 refine CW.lex [.L,.X,.W,.W,.W,.W,.L,.W,.L,.W,.W,.W,.W,.L,.W,.L,.W,.W,.L,.W,.W] rfl (RW.lw tk h167 ?_)
 refine RW.cp H ent97 (fun _ h=>table_end.calls h) fun y12 w49 x39 sx39 H=>?_
 refine pu 3 rfl ?_
 have j46:=((h162.ext x37).tB x38).ext x39
 have j47:=((j44.tr x37).tB x38).tr x39
 have j48:=((j45.tr x37).tB x38).tr x39
 refine RW.i 27 H (fun c13 H=>?_) fun c13 H=>?_
 refine pu 1 rfl ?_
 have h169:=h167.ext x39
 refine RW.lb tk [iv ((rd vb (w64 ((vb.length:Int)-1))).Dev)] h169 2 ?_
 refine pu 1 rfl (RW.lb tk [iv ((rd vj 0).Dev)] j46 0 ?_)
 refine pu 3 rfl (RW.i 34 H (fun c14 H=>?_) fun c14 H=>?_)
 refine pu 1 rfl (RW.lb tk [iv ((rd vb (w64 ((vb.length:Int)-1))).To)] h169 3 ?_)
 refine pu 1 rfl (RW.lb tk [iv ((rd vb (w64 ((vb.length:Int)-1))).Len)] h169 1 ?_)
 refine pu 2 rfl (RW.lb tk [iv ((rd vj 0).At)] j46 1 ?_)
 refine pu 2 rfl (RW.done ?_)
 exact NW.J fun a ha=>⟨((w64 (((rd vb (w64 ((vb.length:Int)-1))).To)+((rd vb (w64 ((vb.length:Int)-1))).Len)))==((rd vj 0).At)),ha.sb,by omega,j47,j48,j46,H⟩
 refine pu 9 rfl (RW.done ?_)
 exact NW.J fun a ha=>⟨false,ha.sb,by omega,j47,j48,j46,H⟩
 refine pu 16 rfl (RW.done ?_)
 exact NW.J fun a ha=>⟨false,ha.sb,by omega,j47,j48,j46,H⟩
 rintro a w48 ⟨zs,hS,hle,zH,vs,z9,H⟩ hp
 unfold move_Step.j7 at H
 refine CW.go hp hS ?_
 have xt6:Ext w48 w48:=Upd.refl _ _
 refine CW.i H (fun c15 H=>?_) fun c15 H=>?_
 refine CW.seq (CW.lex [.W,.W,.W,.L,.W,.W,.W,.L,.W,.W,.W,.M] rfl (pu 3 rfl (RW.lb tk [.slice vg vb.length vh] (za.ext vs) 6 ?_)))
 refine pu 1 rfl ?_
 obtain ⟨g8,H⟩:=guard_some H
 obtain ⟨ad7,e7,a7⟩:=kEntry_at ((vU.ext vs).slL) g8.1 g8.2
 refine RW.ix tk g8 e7 ?_
 refine pu 1 rfl (RW.ld tk [iv ((rd vb (w64 ((vb.length:Int)-1))).Len)] ((a7.fld 1).take 1 rfl) ?_)
 refine pu 1 rfl ?_
 obtain ⟨g9,H⟩:=guard_some H
 obtain ⟨ad8,e8,a8⟩:=kEntry_at ((vU.ext vs).slL) g9.1 g9.2
 refine RW.ix tk g9 e8 ?_
 refine pu 1 rfl ?_
 refine RW.storeElL (y:=(⟨(rd vb (w64 ((vb.length:Int)-1))).From,w64 (((rd vb (w64 ((vb.length:Int)-1))).Len)+1),(rd vb (w64 ((vb.length:Int)-1))).Dev,(rd vb (w64 ((vb.length:Int)-1))).To,(rd vb (w64 ((vb.length:Int)-1))).Stale⟩:Entry)) (lv:=[]) (k:=1) tk (vU.ext vs) (j:=(w64 ((vb.length:Int)-1)).toNat) (by have:=g9;omega) default [iv (w64 (((rd vb (w64 ((vb.length:Int)-1))).Len)+1))] (fun cs ok' hr=>by obtain rfl:=kEntry_open hr;exact ⟨by simp,kEntry_mk (⟨(rd vb (w64 ((vb.length:Int)-1))).From,w64 (((rd vb (w64 ((vb.length:Int)-1))).Len)+1),(rd vb (w64 ((vb.length:Int)-1))).Dev,(rd vb (w64 ((vb.length:Int)-1))).To,(rd vb (w64 ((vb.length:Int)-1))).Stale⟩:Entry)⟩) trivial ⟨rfl,rfl,rfl⟩ rfl rfl e8 rfl rfl rfl rfl rfl ?_
 intro w50 x40 h178
 have sx40:=x40.size
 have h179:=h178.sub (l':=[(w5.heap.size,some mid1,some 66),(w8.heap.size,some w13.heap.size,some 66)]) (li':=[]) ⟨(.inl ⟨by omega,by omega,rfl⟩),⟨(.inr (.inl ⟨by omega,by omega,rfl⟩)),trivial⟩⟩ trivial
 have h180:=(za.ext vs).tL x40
 have h181:Box w50.heap b5 78 [.slice vu vq.length vv,.slice A5 y2.Tables.length c_5,iv y2.Job.Dev,iv (w64 (vf+1)),iv y2.Job.Table.Dev,iv y2.Job.Table.Size,.slice vg (vb.set (w64 ((vb.length:Int)-1)).toNat (⟨(rd vb (w64 ((vb.length:Int)-1))).From,w64 (((rd vb (w64 ((vb.length:Int)-1))).Len)+1),(rd vb (w64 ((vb.length:Int)-1))).Dev,(rd vb (w64 ((vb.length:Int)-1))).To,(rd vb (w64 ((vb.length:Int)-1))).Stale⟩:Entry)).length vh,iv y2.Next]:=by simpa only [List.length_set] using h180
 refine RW.done (NW.next (CW.ret (NW.ret_then ?_)))
 have h182:=(h160.ext vs).tL x40
 have h183:=(zo.ext vs).turnL x40 ⟨⟨.inl (nq rfl),⟨.inl (nq rfl),trivial⟩⟩,trivial⟩ ⟨⟨.inr (.inr (by omega)),⟨.inr (.inl (by omega)),trivial⟩⟩,trivial⟩
 have h184:=(zp.ext vs).tL x40
 have h185:=(h159.ext vs).tL x40
 have h186:=Ext.turn zH x40 ⟨by omega,⟨by omega,trivial⟩⟩
 have h187:=(zq.ext vs).tL x40
 have h188:=(zr.ext vs).tL x40
 exact NW.ret0 rfl ⟨(vb.set (w64 ((vb.length:Int)-1)).toNat (⟨(rd vb (w64 ((vb.length:Int)-1))).From,w64 (((rd vb (w64 ((vb.length:Int)-1))).Len)+1),(rd vb (w64 ((vb.length:Int)-1))).Dev,(rd vb (w64 ((vb.length:Int)-1))).To,(rd vb (w64 ((vb.length:Int)-1))).Stale⟩:Entry)),vg,vh,rfl,by omega,(h179.sub ⟨(.inl ⟨by omega,by omega,rfl⟩),⟨(.inr (.inl ⟨by omega,trivial,rfl⟩)),trivial⟩⟩ trivial),h182,h183,h184,h185,h186,h181,h187,h188,H⟩
 refine CW.skip ?_
 exact NW.J fun a ha=>⟨ha.sb,by omega,zH,vs,z9,H⟩
 refine CW.skip ?_
 exact NW.J fun a ha=>⟨ha.sb,by omega,j44,j45,h162,H⟩
 rintro a w45 ⟨hS,hle,Qa,vG,Qb,H⟩ hp
 unfold move_Step.j6 at H
 refine CW.go hp hS ?_
 have xt7:Ext w45 w45:=Upd.refl _ _
 refine CW.ord [0,0,2,6,14,0,0,64,0,256,992,2016,4094,8191,16383,32767] (ofL [(0,.W),(1,.W),(2,.W),(3,.W),(5,.W),(6,.W),(8,.W),(4,.L),(7,.L),(9,.L),(10,.W),(11,.X),(12,.M),(13,.W),(14,.W),(15,.M)] .nil) mixed (by kernel_rfl) ?_
 intro w51 x41
 have sx41:=x41.size
 refine pu 7 rfl ?_
 have h191:=(za.ext vG).ext x41
 refine RW.lb tk [.slice vg vb.length vh] h191 6 ?_
 have h192:=Qb.ext x41
 refine RW.lb tk [iv ((rd vj 0).Dev)] h192 0 ?_
 refine RW.lb tk [iv ((rd vj 0).At)] h192 1 ?_
 refine pu 1 rfl (RW.buildSlice (cs:=[iv vf,iv 1,iv ((rd vj 0).Dev),iv ((rd vj 0).At),iv 0]) tk (.inl rfl) ⟨rfl,rfl,rfl,rfl⟩ rfl rfl rfl rfl rfl rfl rfl ?_)
 intro b11 w52 x42 l19 h193
 have sx42:=x42.size
 have ltb11:=h193.lt
 have h194:=((vU.ext vG).ext x41).ext x42
 obtain ⟨g10,H⟩:=guard_some H
 refine RW.append1L (d:=kEntry) (v:=(⟨vf,1,(rd vj 0).Dev,(rd vj 0).At,0⟩:Entry)) (l:=[(w5.heap.size,some mid1,some 66),(w8.heap.size,some w13.heap.size,some 66)]) (li:=[]) (ly:=[]) (xs:=vb) tk h194 h193 (kEntry_mk (⟨vf,1,(rd vj 0).Dev,(rd vj 0).At,0⟩:Entry)) trivial (by simp only [maxLen];omega) g10 ⟨rfl,rfl,rfl,rfl⟩ rfl rfl rfl rfl rfl rfl rfl ?_
 intro A17 c_17 w53 x43 h195
 have sx43:=x43.size
 have h196:=h195.close.sub (l':=[(w5.heap.size,some mid1,some 66),(w8.heap.size,some w53.heap.size,some 66)]) (li':=[]) ⟨(.inl ⟨by omega,by omega,rfl⟩),⟨(.inr (.inl ⟨by omega,by omega,rfl⟩)),⟨(.inr (.inl ⟨by omega,by omega,rfl⟩)),trivial⟩⟩⟩ trivial
 refine pu 2 rfl ?_
 have h197:=(h191.ext x42).tL x43
 refine RW.sp tk h197 [.slice vu vq.length vv,.slice A5 y2.Tables.length c_5,iv y2.Job.Dev,iv (w64 (vf+1)),iv y2.Job.Table.Dev,iv y2.Job.Table.Size,.slice A17 (vb++[(⟨vf,1,(rd vj 0).Dev,(rd vj 0).At,0⟩:Entry)]).length c_17,iv y2.Next] fun w54 x44 sx44 h199=>?_
 refine RW.done (NW.end_ ?_)
 have h200:=h196.tB x44 h197
 have h201:=((((h160.ext vG).ext x41).ext x42).tL x43).tB x44 h197
 have h202:=((((zo.ext vG).ext x41).ext x42).turnL x43 ⟨⟨.inl (nq rfl),⟨.inl (nq rfl),trivial⟩⟩,trivial⟩ ⟨⟨.inr (.inr (by omega)),⟨.inr (.inl (by omega)),trivial⟩⟩,trivial⟩).tB x44 h197
 have h203:=((((zp.ext vG).ext x41).ext x42).tL x43).tB x44 h197
 have h204:=((((h159.ext vG).ext x41).ext x42).tL x43).tB x44 h197
 have h205:=(Ext.turn ((Qa.tr x41).tr x42) x43 ⟨by omega,⟨by omega,trivial⟩⟩).tB x44
 have h206:=((((zq.ext vG).ext x41).ext x42).tL x43).tB x44
 have h207:=((((zr.ext vG).ext x41).ext x42).tL x43).tB x44
 exact NW.ret0 rfl ⟨(vb++[(⟨vf,1,(rd vj 0).Dev,(rd vj 0).At,0⟩:Entry)]),A17,c_17,rfl,by omega,(h200.sub ⟨(.inl ⟨by omega,by omega,rfl⟩),⟨(.inr (.inl ⟨by omega,trivial,rfl⟩)),trivial⟩⟩ trivial),h201,h202,h203,h204,h205,h199,h206,h207,H⟩
 rintro _ w43 ⟨vV,zb,zc,rfl,hle,Qc,Qd,Qf,Qg,Qh,Qi,Qj,Qk,Ql,H⟩
 refine ⟨_,rfl,?_⟩
 unfold move_Step.j5 at H
 have h208:Ow kEntry 66 w43.heap (okL [(w5.heap.size,some mid1,some 66),(w8.heap.size,some w43.heap.size,some 66)]) (okL []) zb zc vV:=Qc.close
 have xt8:Ext w43 w43:=Upd.refl _ _
 refine RW.done (NW.next (CW.seq (CW.ord [0,0,2,6,0,16,48,112,240,496,0,2032,0,4096,12288,32752,65520,131070,262143,524287] (ofL [(0,.W),(1,.W),(2,.W),(4,.W),(5,.W),(6,.W),(7,.W),(8,.W),(10,.W),(12,.W),(13,.W),(3,.L),(9,.L),(11,.W),(14,.L),(15,.W),(16,.X),(17,.M),(18,.W),(19,.M)] .nil) mixed (by kernel_rfl) ?_)))
 intro w55 x45
 have sx45:=x45.size
 refine pu 10 rfl ?_
 obtain ⟨g11,H⟩:=guard_some H
 have h209:=Qh.ext x45
 obtain ⟨ad9,e9,a9⟩:=kPtr_at h209.slL g11.1 g11.2
 refine RW.ix tk g11 e9 ?_
 have h210:=Qk.ext x45
 refine RW.lw tk h210 ?_
 have h211:=Qj.ext x45
 refine RW.lb tk [iv y2.Job.Dev] h211 2 ?_
 refine pu 1 rfl (RW.ld tk _ a9 ?_)
 refine pu 1 rfl (RW.buildSlice (cs:=[iv y2.Job.Dev,iv vf,iv ((rd vj 0).Dev),iv ((rd vj 0).At)]) tk (.inl rfl) ⟨rfl,rfl,rfl,rfl⟩ rfl rfl rfl rfl rfl rfl rfl ?_)
 intro b12 w56 x46 l20 h212
 have sx46:=x46.size
 have ltb12:=h212.lt
 have h213:=(Qg.ext x45).ext x46
 obtain ⟨g12,H⟩:=guard_some H
 refine RW.append1L (d:=kPair) (v:=(⟨(⟨y2.Job.Dev,vf⟩:Ptr),(rd vj 0)⟩:Pair)) (l:=[(w8.heap.size,some w13.heap.size,some 124)]) (li:=[]) (ly:=[]) (xs:=vi) tk h213 h212 (kPair_mk (⟨(⟨y2.Job.Dev,vf⟩:Ptr),(rd vj 0)⟩:Pair)) trivial (by simp only [maxLen];omega) g12 ⟨rfl,rfl,rfl,rfl⟩ rfl rfl rfl rfl rfl rfl rfl ?_
 intro A18 c_18 w57 x47 h214
 have sx47:=x47.size
 have h215:=h214.close.sub (l':=[(w8.heap.size,some w57.heap.size,some 124)]) (li':=[]) ⟨(.inl ⟨by omega,by omega,rfl⟩),⟨(.inl ⟨by omega,by omega,rfl⟩),trivial⟩⟩ trivial
 refine pu 1 rfl ?_
 have h216:=(h210.ext x46).tL x47
 refine RW.sf tk h216 fun w58 x48 sx48 h218=>?_
 refine RW.done (NW.next (CW.seq (CW.lw 1 rfl (pu 1 rfl (RW.done (NW.next (CW.ret ?_)))))))
 have h219:=h215.tB x48 h216
 have h220:=(((Qd.ext x45).ext x46).tL x47).tB x48 h216
 have h221:=(((h208.ext x45).ext x46).tL x47).tB x48 h216
 have h222:=(((Qf.ext x45).ext x46).tL x47).tB x48 h216
 have h223:=(Ext.turn ((Qi.tr x45).tr x46) x47 ⟨by omega,trivial⟩).tB x48
 have h224:=(((Ql.ext x45).ext x46).tL x47).tB x48
 have h225:=((h211.ext x46).tL x47).tB x48
 exact NW.r1 ⟨true,(vi++[(⟨(⟨y2.Job.Dev,vf⟩:Ptr),(rd vj 0)⟩:Pair)]),A18,c_18,vq,vu,vv,vV,zb,zc,rfl,by omega,(h219.sb),(h220.sb),(h221.sub ⟨(.inl ⟨by omega,by omega,rfl⟩),⟨(.inr (.inl ⟨by omega,trivial,rfl⟩)),trivial⟩⟩ trivial),h222,h223,h224,h218,h225,H⟩
 refine CW.seq (CW.lw 1 rfl (pu 1 rfl (RW.done (NW.next (CW.ret (NW.ret_then ?_))))))
 exact NW.r1 ⟨false,vi,vm,vn,vq,vu,vv,vb,vg,vh,rfl,by omega,(zp.sb),(h160.sb),(vU.sub ⟨(.inl ⟨by omega,by omega,rfl⟩),⟨(.inr (.inl ⟨by omega,trivial,rfl⟩)),trivial⟩⟩ trivial),zo,zG,zr,zq,za,H⟩
 refine CW.seq (CW.lw 1 rfl (pu 1 rfl (RW.done (NW.next (CW.ret (NW.ret_then ?_))))))
 exact NW.r1 ⟨true,vi,vm,vn,vl,vd,ve,vb,vg,vh,rfl,by omega,(j23.sb),(j20.sb),(j22.sub ⟨(.inl ⟨by omega,by omega,rfl⟩),⟨(.inr (.inl ⟨by omega,trivial,rfl⟩)),trivial⟩⟩ trivial),j21,j24,j26,j25,j19,H⟩
 rintro _ w16 ⟨zl,vP,v1,v2,vQ,v3,v4,vR,v5,v6,rfl,hle,Qm,Qn,Qo,Qp,zI,zt,zJ,Qq,H⟩
 refine ⟨_,rfl,?_⟩
 unfold move_Step.j2 at H
 have h234:Ow kPair 124 w16.heap (okL [(w8.heap.size,some w16.heap.size,some 124)]) (okL []) v1 v2 vP:=Qm.close
 have h235:Ow kDeviceO 40 w16.heap (okL [(w5.heap.size,some w16.heap.size,some 40)]) (okL [(w5.heap.size,some w16.heap.size,some 105)]) v3 v4 vQ:=Qn.close
 have h236:Ow kEntry 66 w16.heap (okL [(w5.heap.size,some mid1,some 66),(w8.heap.size,some w16.heap.size,some 66)]) (okL []) v5 v6 vR:=Qo.close
 have xt9:Ext w16 w16:=Upd.refl _ _
 refine pu 1 rfl (RW.done (NW.next (CW.n H (fun c16 H=>?_) fun c16 H=>?_)))
 refine CW.skip ?_
 refine NW.norm_block (NW.next ?_)
 refine CW.lw 3 rfl (pu 3 rfl (RW.done ?_))
 exact NW.J fun a ha=>⟨n1,Nat.lt_succ_self n1,(w64 (vr-1)),vP,v1,v2,vQ,v3,v4,(w64 (vf+1)),vR,v5,v6,ha.sb,by omega,(h234.sb),(h235.sb),(h236.sub ⟨(.inl ⟨by omega,by omega,rfl⟩),⟨(.inr (.inl ⟨by omega,trivial,rfl⟩)),trivial⟩⟩ trivial),Qp,zI,zt,zJ,Qq,H⟩
 refine CW.seq (CW.lex [.L,.M,.M,.W] rfl (RW.lw tk zt ?_))
 refine RW.sf tk zt fun w59 x49 sx49 h238=>?_
 have h239:=zJ.tB x49
 refine RW.sf tk h239 fun w60 x50 sx50 h241=>?_
 refine pu 1 rfl (RW.done (NW.next (CW.ret ?_)))
 refine NW.ret_block (NW.ret_then (NW.ret_then (NW.ret_block (NW.ret_then ?_))))
 have h242:=h238.tB x50
 obtain rfl:=Option.some.inj H
 have h243:=(zI.tB x49).tB x50
 exact NW.ret3 rfl (resOne_cell tk (h242.at 0) rfl rfl rfl) (resOne_cell tk (h241.at 0) rfl rfl rfl) (by rfl) ⟨none,0,none,0,none,0,none,0,rfl,h243,Ow.nil,Ow.nil,Ow.nil,Ow.nil⟩
 refine CW.exit ?_
 refine NW.exit_then (NW.exit_then (NW.exit_hit ?_))
 refine NW.next (CW.seq (CW.lex [.W,.M] rfl (pu 1 rfl ?_)))
 refine RW.callFM (R:=fun e w61=>∃(vx:List Device) (vo:Option Addr) (vp:Nat) (vy:List Table) (vz:Option Addr) (vA:Nat) (vJ:Int) (vK:Int) (vL:Int) (vM:Int) (vC:List Entry) (vD:Option Addr) (vE:Nat),e=.returned (.tuple #[])∧w14.heap.size≤w61.heap.size∧Ow kPair 124 w61.heap (okL [(w8.heap.size,some w13.heap.size,some 124)]) (okL []) vm vn vi∧Ow kDeviceO 40 w61.heap (okL [(w5.heap.size,some w13.heap.size,some 40)]) (okL [(w5.heap.size,none,some 105)]) vo vp vx∧Ow kTableO 26 w61.heap (okL [(w5.heap.size,none,some 26)]) (okL [(w5.heap.size,none,some 66)]) vz vA vy∧Ow kEntry 66 w61.heap (okL [(w5.heap.size,some mid1,some 66),(w8.heap.size,some w13.heap.size,some 66)]) (okL []) vD vE vC∧Ext w w61∧Box w61.heap b2 30 [.slice none 0 0,.slice none 0 0,iv 0,iv 0,iv 0,iv 0,.slice none 0 0,iv 0]∧Box w61.heap b3 51 [.slice vm vi.length vn]∧Box w61.heap b5 78 [.slice vo vx.length vp,.slice vz vy.length vA,iv vJ,iv vK,iv vL,iv vM,.slice vD vC.length vE,iv y2.Next]∧move_Step.j8 k y2 vi vx vy vJ vK vL vM vC=some r) ent47 ⟨rfl,rfl,rfl,rfl⟩ rfl rfl rfl ?_ ?_
 refine cst Tryz.func47 85 ?_
 refine CW.seq (CW.seq (CW.ord [0,1,3,7,15,31,0,64,192,448,960,1984,4032,8191] (ofL [(0,.W),(1,.W),(2,.W),(3,.W),(4,.W),(6,.W),(7,.W),(8,.W),(9,.W),(10,.W),(11,.W),(5,.L),(12,.L),(13,.W)] .nil) mixed (by kernel_rfl) ?_))
 intro w62 x51
 have sx51:=x51.size
 refine pu 11 rfl ?_
 have h244:=(zj.ext vF).ext x51
 refine RW.lb tk [iv vf] h244 3 ?_
 refine RW.lb tk [iv y2.Job.Table.Size] h244 5 ?_
 refine pu 1 rfl (RW.done (NW.next ?_))
 have j49:=j14.ext x51
 have j50:=j11.ext x51
 have j51:=j12.ext x51
 have j52:=j13.ext x51
 have j53:=j16.ext x51
 have j54:=j15.ext x51
 refine CW.i H (fun c17 H=>?_) fun c17 H=>?_
 refine CW.ret (NW.ret_then ?_)
 have h249:=vt.tr x51
 exact NW.ret0 rfl ⟨vl,vd,ve,y2.Tables,A5,c_5,y2.Job.Dev,vf,y2.Job.Table.Dev,y2.Job.Table.Size,vb,vg,vh,rfl,by omega,j49,(j50.sb),(j51.sb),(j52.sub ⟨(.inl ⟨by omega,by omega,rfl⟩),⟨(.inr (.inl ⟨by omega,by omega,rfl⟩)),trivial⟩⟩ trivial),h249,j53,j54,h244,H⟩
 refine CW.skip (NW.next (CW.seq (CW.ord [0,1,3,7,15,0,32,96,224,480,992,2047,4095,8191,8191,16383,65535] (ofL [(0,.W),(1,.W),(2,.W),(3,.W),(5,.W),(6,.W),(7,.W),(8,.W),(9,.W),(4,.L),(10,.L),(11,.X),(12,.W),(13,.W),(14,.W),(15,.W),(16,.W)] .nil) mixed (by kernel_rfl) ?_)))
 intro w63 x52
 have sx52:=x52.size
 refine pu 9 rfl ?_
 have h252:=h244.ext x52
 refine RW.lb tk [.slice vd vl.length ve] h252 0 ?_
 refine RW.lb tk [iv y2.Job.Dev] h252 2 ?_
 have h253:=j50.ext x52
 refine RW.cp H ent31 (fun _ h=>room_Find.calls h (h253.all.to kDevice_ro rfl) h253.len) fun y13 w65 x53 sx53 H=>?_
 refine pu 5 rfl (RW.done (NW.next (CW.seq (CW.ord [0,1,3,7,0,16,48,112,240,496,1023,2047,4095,4095,8191,32767] (ofL [(0,.W),(1,.W),(2,.W),(4,.W),(5,.W),(6,.W),(7,.W),(8,.W),(3,.L),(9,.L),(10,.X),(11,.W),(12,.W),(13,.W),(14,.W),(15,.W)] .nil) mixed (by kernel_rfl) ?_))))
 intro w66 x54
 have sx54:=x54.size
 refine pu 8 rfl ?_
 have h255:=(h252.ext x53).ext x54
 refine RW.lw tk h255 ?_
 refine RW.lb tk [iv y2.Job.Dev] h255 2 ?_
 have h256:=(h253.ext x53).ext x54
 have h257:=((j51.ext x52).ext x53).ext x54
 have h258:=((j52.ext x52).ext x53).ext x54
 refine RW.cp H ent60 (fun _ h=>chain_Find.calls h (h256.all.to kDevice_ro rfl) h256.len (h257.all.to kTable_ro rfl) h257.len h258.all h258.len) fun y14 w67 x55 sx55 H=>?_
 refine pu 5 rfl (RW.done (NW.next ?_))
 refine CW.seqJ (fun a w68=>∃(vN:List Device) (vW:Option Addr) (vX:Nat) (vO:List Table) (vY:Option Addr) (vZ:Nat),Sat 85 [(0,.pointer (some ⟨b5,0,none⟩))] a∧w67.heap.size≤w68.heap.size∧Ow kDeviceO 40 w68.heap (okL [(w5.heap.size,some w13.heap.size,some 40)]) (okL [(w5.heap.size,none,some 105)]) vW vX vN∧Ow kTableO 26 w68.heap (okL [(w5.heap.size,none,some 26)]) (okL [(w5.heap.size,none,some 66)]) vY vZ vO∧Ow kEntry 66 w68.heap (okL [(w5.heap.size,some mid1,some 66),(w8.heap.size,some w13.heap.size,some 66)]) (okL []) vg vh vb∧Ow kPair 124 w68.heap (okL [(w8.heap.size,some w13.heap.size,some 124)]) (okL []) vm vn vi∧Ext w w68∧Box w68.heap b5 78 [.slice vW vN.length vX,.slice vY vO.length vZ,iv y2.Job.Dev,iv vf,iv y2.Job.Table.Dev,iv y2.Job.Table.Size,.slice vg vb.length vh,iv y2.Next]∧Box w68.heap b2 30 [.slice none 0 0,.slice none 0 0,iv 0,iv 0,iv 0,iv 0,.slice none 0 0,iv 0]∧Box w68.heap b3 51 [.slice vm vi.length vn]∧move_Step.j9 k y2 vi vN vO=some r) ?_ ?_
 refine CW.ord [0,0,0,4,12,28,60,0,0,256,1020,0,2048,6144,14336,30720,0,0,131072,393216,917504,1966080,4063232,8257536,16777212,33554429,67108861,134217725,268435453,536870911,1073741823,2147483647,4294967295] (ofL [(0,.W),(1,.W),(2,.W),(3,.W),(4,.W),(5,.W),(7,.W),(8,.W),(9,.W),(11,.W),(12,.W),(13,.W),(14,.W),(16,.W),(17,.W),(18,.W),(19,.W),(20,.W),(21,.W),(6,.L)] (.three 10 .M (ofL [(15,.L),(22,.L),(23,.X),(24,.M),(25,.W),(26,.W),(27,.W),(28,.M),(29,.W),(30,.W),(31,.W),(32,.M)] .nil) 15 .L (ofL [] (.two 10 .M (ofL [(22,.L),(23,.X),(24,.M),(25,.W),(26,.W),(27,.W),(28,.M),(29,.W),(30,.W),(31,.W),(32,.M)] .nil) 22 .L (ofL [] (.two 10 .M (ofL [(23,.X),(24,.M),(25,.W),(26,.W),(27,.W),(28,.M),(29,.W),(30,.W),(31,.W),(32,.M)] .nil) 23 .X (ofL [(10,.M),(24,.M),(25,.W),(26,.W),(27,.W),(28,.M),(29,.W),(30,.W),(31,.W),(32,.M)] .nil))))) 22 .L (ofL [] (.three 10 .M (ofL [(15,.L),(23,.X),(24,.M),(25,.W),(26,.W),(27,.W),(28,.M),(29,.W),(30,.W),(31,.W),(32,.M)] .nil) 15 .L (ofL [] (.two 10 .M (ofL [(23,.X),(24,.M),(25,.W),(26,.W),(27,.W),(28,.M),(29,.W),(30,.W),(31,.W),(32,.M)] .nil) 23 .X (ofL [(10,.M),(24,.M),(25,.W),(26,.W),(27,.W),(28,.M),(29,.W),(30,.W),(31,.W),(32,.M)] .nil))) 23 .X (ofL [] (.two 10 .M (ofL [(15,.L),(24,.M),(25,.W),(26,.W),(27,.W),(28,.M),(29,.W),(30,.W),(31,.W),(32,.M)] .nil) 15 .L (ofL [(10,.M),(24,.M),(25,.W),(26,.W),(27,.W),(28,.M),(29,.W),(30,.W),(31,.W),(32,.M)] .nil))))))) mixed (by kernel_rfl) ?_
 intro w69 x56
 have sx56:=x56.size
 refine pu 19 rfl ?_
 have h260:=(h255.ext x55).ext x56
 refine RW.lb tk [.slice vd vl.length ve] h260 0 ?_
 refine RW.three ?_ ?_ ?_
 have h261:=(h256.ext x55).ext x56
 obtain ⟨y15,h262,H⟩:=bind_some H
 refine RW.callFM (cap:=[]) ent73 ⟨rfl,rfl,rfl,rfl⟩ rfl rfl rfl (slices_Delete_Device.calls (l:=[(w5.heap.size,some w13.heap.size,some 40)]) (li:=[(w5.heap.size,some w13.heap.size,some 105)]) vd ve vl y13.1 (w64 (y13.1+1)) _ _ h261 h262) ?_
 rintro _ w70 ⟨rfl,x57,h263⟩
 refine ⟨_,rfl,?_⟩
 have sx57:=x57.size
 have h264:=h260.tL x57
 refine RW.lb tk [.slice A5 y2.Tables.length c_5] h264 1 ?_
 refine RW.lb tk [iv y2.Job.Table.Dev,iv y2.Job.Table.Size,.slice vg vb.length vh] h264 4 ?_
 refine RW.buildSlice (cs:=[iv y2.Job.Table.Dev,iv y2.Job.Table.Size,.slice vg vb.length vh]) tk (.inl rfl) ⟨rfl,rfl,rfl,rfl⟩ rfl rfl rfl rfl rfl rfl rfl ?_
 intro b13 w71 x58 l21 h265
 have sx58:=x58.size
 have ltb13:=h265.lt
 have h266:=(((h257.ext x55).ext x56).tL x57).ext x58
 have h267:=(((h258.ext x55).ext x56).tL x57).ext x58
 obtain ⟨y16,h268,H⟩:=bind_some H
 refine RW.callFM (cap:=[]) ent74 ⟨rfl,rfl,rfl,rfl⟩ rfl rfl rfl (slices_Insert_Table.calls (l:=[(w5.heap.size,some w6.heap.size,some 26)]) (li:=[(mid1,some w6.heap.size,some 66)]) (ly:=[(w5.heap.size,some mid1,some 66),(w8.heap.size,some w13.heap.size,some 66)]) A5 c_5 y2.Tables y14.1 (⟨y2.Job.Table.Dev,y2.Job.Table.Size,vb⟩:Table) _ _ _ _ h266 h265 (kTableO_mk (⟨y2.Job.Table.Dev,y2.Job.Table.Size,vb⟩:Table) (h267.sub (l':=[(w5.heap.size,some mid1,some 66),(w8.heap.size,some w13.heap.size,some 66)]) (li':=[(w5.heap.size,some mid1,some 66),(w8.heap.size,some w13.heap.size,some 66)]) ⟨(.inl ⟨by omega,by omega,rfl⟩),⟨(.inr (.inl ⟨by omega,by omega,rfl⟩)),trivial⟩⟩ trivial)) ⟨⟨.inl (nq rfl),trivial⟩,⟨⟨.inl (nq rfl),trivial⟩,trivial⟩⟩ ⟨.inr (by omega),trivial⟩ h268) ?_
 rintro _ w72 ⟨A19,c_19,rfl,x59,h269⟩
 refine ⟨_,rfl,?_⟩
 have sx59:=x59.size
 have h270:=h269.close.sub (l':=[(w5.heap.size,some w72.heap.size,some 26)]) (li':=[(mid1,some w13.heap.size,some 66),(w5.heap.size,some mid1,some 66)]) ⟨(.inl ⟨by omega,by omega,rfl⟩),⟨(.inl ⟨by omega,by omega,rfl⟩),trivial⟩⟩ ⟨(.inl ⟨by omega,by omega,rfl⟩),⟨(.inr (.inl ⟨by omega,by omega,rfl⟩)),⟨(.inl ⟨by omega,by omega,rfl⟩),trivial⟩⟩⟩
 refine pu 3 rfl ?_
 have h271:=(h264.ext x58).tL x59
 refine RW.sp tk h271 [.slice vd y15.length ve,.slice A5 y2.Tables.length c_5,iv y2.Job.Dev,iv vf,iv y2.Job.Table.Dev,iv y2.Job.Table.Size,.slice vg vb.length vh,iv y2.Next] fun w73 x60 sx60 h273=>?_
 refine pu 3 rfl (RW.sp tk h273 [.slice vd y15.length ve,.slice A19 y16.length c_19,iv y2.Job.Dev,iv vf,iv y2.Job.Table.Dev,iv y2.Job.Table.Size,.slice vg vb.length vh,iv y2.Next] fun w74 x61 sx61 h275=>?_)
 refine RW.done ?_
 have h276:=(((h263.ext x58).tL x59).tB x60 h271).tB x61 h273
 have h277:=(h270.tB x60 h271).tB x61 h273
 have h278:=((h267.tL x59).tB x60 h271).tB x61 h273
 have h279:=(((((((((j49.ext x52).ext x53).ext x54).ext x55).ext x56).tL x57).ext x58).tL x59).tB x60 h271).tB x61 h273
 have h280:=((Ext.turn ((Ext.turn ((((((vt.tr x51).tr x52).tr x53).tr x54).tr x55).tr x56) x57 ⟨by omega,trivial⟩).tr x58) x59 ⟨by omega,trivial⟩).tB x60).tB x61
 have h281:=(((((((((j53.ext x52).ext x53).ext x54).ext x55).ext x56).tL x57).ext x58).tL x59).tB x60).tB x61
 have h282:=(((((((((j54.ext x52).ext x53).ext x54).ext x55).ext x56).tL x57).ext x58).tL x59).tB x60).tB x61
 exact NW.J fun a ha=>⟨y15,vd,ve,y16,A19,c_19,ha.sb,by omega,(h276.sb),(h277.sub ⟨(.inl ⟨by omega,trivial,rfl⟩),trivial⟩ ⟨(.inl ⟨by omega,trivial,rfl⟩),⟨(.inl ⟨by omega,trivial,rfl⟩),trivial⟩⟩),h278,h279,h280,h275,h281,h282,H⟩
 refine RW.lb tk [.slice A5 y2.Tables.length c_5] h260 1 ?_
 refine RW.two ?_ ?_
 have h26101:=(h256.ext x55).ext x56
 obtain ⟨y15,h26201,H⟩:=bind_some H
 refine RW.callFM (cap:=[]) ent73 ⟨rfl,rfl,rfl,rfl⟩ rfl rfl rfl (slices_Delete_Device.calls (l:=[(w5.heap.size,some w13.heap.size,some 40)]) (li:=[(w5.heap.size,some w13.heap.size,some 105)]) vd ve vl y13.1 (w64 (y13.1+1)) _ _ h26101 h26201) ?_
 rintro _ w70 ⟨rfl,x57,h26301⟩
 refine ⟨_,rfl,?_⟩
 have sx57:=x57.size
 have h26401:=h260.tL x57
 refine RW.lb tk [iv y2.Job.Table.Dev,iv y2.Job.Table.Size,.slice vg vb.length vh] h26401 4 ?_
 refine RW.buildSlice (cs:=[iv y2.Job.Table.Dev,iv y2.Job.Table.Size,.slice vg vb.length vh]) tk (.inl rfl) ⟨rfl,rfl,rfl,rfl⟩ rfl rfl rfl rfl rfl rfl rfl ?_
 intro b13 w71 x58 l21 h26501
 have sx58:=x58.size
 have ltb13:=h26501.lt
 have h26601:=(((h257.ext x55).ext x56).tL x57).ext x58
 have h26701:=(((h258.ext x55).ext x56).tL x57).ext x58
 obtain ⟨y16,h26801,H⟩:=bind_some H
 refine RW.callFM (cap:=[]) ent74 ⟨rfl,rfl,rfl,rfl⟩ rfl rfl rfl (slices_Insert_Table.calls (l:=[(w5.heap.size,some w6.heap.size,some 26)]) (li:=[(mid1,some w6.heap.size,some 66)]) (ly:=[(w5.heap.size,some mid1,some 66),(w8.heap.size,some w13.heap.size,some 66)]) A5 c_5 y2.Tables y14.1 (⟨y2.Job.Table.Dev,y2.Job.Table.Size,vb⟩:Table) _ _ _ _ h26601 h26501 (kTableO_mk (⟨y2.Job.Table.Dev,y2.Job.Table.Size,vb⟩:Table) (h26701.sub (l':=[(w5.heap.size,some mid1,some 66),(w8.heap.size,some w13.heap.size,some 66)]) (li':=[(w5.heap.size,some mid1,some 66),(w8.heap.size,some w13.heap.size,some 66)]) ⟨(.inl ⟨by omega,by omega,rfl⟩),⟨(.inr (.inl ⟨by omega,by omega,rfl⟩)),trivial⟩⟩ trivial)) ⟨⟨.inl (nq rfl),trivial⟩,⟨⟨.inl (nq rfl),trivial⟩,trivial⟩⟩ ⟨.inr (by omega),trivial⟩ h26801) ?_
 rintro _ w72 ⟨A19,c_19,rfl,x59,h26901⟩
 refine ⟨_,rfl,?_⟩
 have sx59:=x59.size
 have h27001:=h26901.close.sub (l':=[(w5.heap.size,some w72.heap.size,some 26)]) (li':=[(mid1,some w13.heap.size,some 66),(w5.heap.size,some mid1,some 66)]) ⟨(.inl ⟨by omega,by omega,rfl⟩),⟨(.inl ⟨by omega,by omega,rfl⟩),trivial⟩⟩ ⟨(.inl ⟨by omega,by omega,rfl⟩),⟨(.inr (.inl ⟨by omega,by omega,rfl⟩)),⟨(.inl ⟨by omega,by omega,rfl⟩),trivial⟩⟩⟩
 refine pu 3 rfl ?_
 have h27101:=(h26401.ext x58).tL x59
 refine RW.sp tk h27101 [.slice vd y15.length ve,.slice A5 y2.Tables.length c_5,iv y2.Job.Dev,iv vf,iv y2.Job.Table.Dev,iv y2.Job.Table.Size,.slice vg vb.length vh,iv y2.Next] fun w73 x60 sx60 h27301=>?_
 refine pu 3 rfl (RW.sp tk h27301 [.slice vd y15.length ve,.slice A19 y16.length c_19,iv y2.Job.Dev,iv vf,iv y2.Job.Table.Dev,iv y2.Job.Table.Size,.slice vg vb.length vh,iv y2.Next] fun w74 x61 sx61 h27501=>?_)
 refine RW.done ?_
 have h27601:=(((h26301.ext x58).tL x59).tB x60 h27101).tB x61 h27301
 have h27701:=(h27001.tB x60 h27101).tB x61 h27301
 have h27801:=((h26701.tL x59).tB x60 h27101).tB x61 h27301
 have h27901:=(((((((((j49.ext x52).ext x53).ext x54).ext x55).ext x56).tL x57).ext x58).tL x59).tB x60 h27101).tB x61 h27301
 have h28001:=((Ext.turn ((Ext.turn ((((((vt.tr x51).tr x52).tr x53).tr x54).tr x55).tr x56) x57 ⟨by omega,trivial⟩).tr x58) x59 ⟨by omega,trivial⟩).tB x60).tB x61
 have h28101:=(((((((((j53.ext x52).ext x53).ext x54).ext x55).ext x56).tL x57).ext x58).tL x59).tB x60).tB x61
 have h28201:=(((((((((j54.ext x52).ext x53).ext x54).ext x55).ext x56).tL x57).ext x58).tL x59).tB x60).tB x61
 exact NW.J fun a ha=>⟨y15,vd,ve,y16,A19,c_19,ha.sb,by omega,(h27601.sb),(h27701.sub ⟨(.inl ⟨by omega,trivial,rfl⟩),trivial⟩ ⟨(.inl ⟨by omega,trivial,rfl⟩),⟨(.inl ⟨by omega,trivial,rfl⟩),trivial⟩⟩),h27801,h27901,h28001,h27501,h28101,h28201,H⟩
 refine RW.lb tk [iv y2.Job.Table.Dev,iv y2.Job.Table.Size,.slice vg vb.length vh] h260 4 ?_
 refine RW.two ?_ ?_
 have h26102:=(h256.ext x55).ext x56
 obtain ⟨y15,h26202,H⟩:=bind_some H
 refine RW.callFM (cap:=[]) ent73 ⟨rfl,rfl,rfl,rfl⟩ rfl rfl rfl (slices_Delete_Device.calls (l:=[(w5.heap.size,some w13.heap.size,some 40)]) (li:=[(w5.heap.size,some w13.heap.size,some 105)]) vd ve vl y13.1 (w64 (y13.1+1)) _ _ h26102 h26202) ?_
 rintro _ w70 ⟨rfl,x57,h26302⟩
 refine ⟨_,rfl,?_⟩
 have sx57:=x57.size
 refine RW.buildSlice (cs:=[iv y2.Job.Table.Dev,iv y2.Job.Table.Size,.slice vg vb.length vh]) tk (.inl rfl) ⟨rfl,rfl,rfl,rfl⟩ rfl rfl rfl rfl rfl rfl rfl ?_
 intro b13 w71 x58 l21 h26402
 have sx58:=x58.size
 have ltb13:=h26402.lt
 have h26502:=(((h257.ext x55).ext x56).tL x57).ext x58
 have h26602:=(((h258.ext x55).ext x56).tL x57).ext x58
 obtain ⟨y16,h26702,H⟩:=bind_some H
 refine RW.callFM (cap:=[]) ent74 ⟨rfl,rfl,rfl,rfl⟩ rfl rfl rfl (slices_Insert_Table.calls (l:=[(w5.heap.size,some w6.heap.size,some 26)]) (li:=[(mid1,some w6.heap.size,some 66)]) (ly:=[(w5.heap.size,some mid1,some 66),(w8.heap.size,some w13.heap.size,some 66)]) A5 c_5 y2.Tables y14.1 (⟨y2.Job.Table.Dev,y2.Job.Table.Size,vb⟩:Table) _ _ _ _ h26502 h26402 (kTableO_mk (⟨y2.Job.Table.Dev,y2.Job.Table.Size,vb⟩:Table) (h26602.sub (l':=[(w5.heap.size,some mid1,some 66),(w8.heap.size,some w13.heap.size,some 66)]) (li':=[(w5.heap.size,some mid1,some 66),(w8.heap.size,some w13.heap.size,some 66)]) ⟨(.inl ⟨by omega,by omega,rfl⟩),⟨(.inr (.inl ⟨by omega,by omega,rfl⟩)),trivial⟩⟩ trivial)) ⟨⟨.inl (nq rfl),trivial⟩,⟨⟨.inl (nq rfl),trivial⟩,trivial⟩⟩ ⟨.inr (by omega),trivial⟩ h26702) ?_
 rintro _ w72 ⟨A19,c_19,rfl,x59,h26802⟩
 refine ⟨_,rfl,?_⟩
 have sx59:=x59.size
 have h26902:=h26802.close.sub (l':=[(w5.heap.size,some w72.heap.size,some 26)]) (li':=[(mid1,some w13.heap.size,some 66),(w5.heap.size,some mid1,some 66)]) ⟨(.inl ⟨by omega,by omega,rfl⟩),⟨(.inl ⟨by omega,by omega,rfl⟩),trivial⟩⟩ ⟨(.inl ⟨by omega,by omega,rfl⟩),⟨(.inr (.inl ⟨by omega,by omega,rfl⟩)),⟨(.inl ⟨by omega,by omega,rfl⟩),trivial⟩⟩⟩
 refine pu 3 rfl ?_
 have h27002:=((h260.tL x57).ext x58).tL x59
 refine RW.sp tk h27002 [.slice vd y15.length ve,.slice A5 y2.Tables.length c_5,iv y2.Job.Dev,iv vf,iv y2.Job.Table.Dev,iv y2.Job.Table.Size,.slice vg vb.length vh,iv y2.Next] fun w73 x60 sx60 h27202=>?_
 refine pu 3 rfl (RW.sp tk h27202 [.slice vd y15.length ve,.slice A19 y16.length c_19,iv y2.Job.Dev,iv vf,iv y2.Job.Table.Dev,iv y2.Job.Table.Size,.slice vg vb.length vh,iv y2.Next] fun w74 x61 sx61 h27402=>?_)
 refine RW.done ?_
 have h27502:=(((h26302.ext x58).tL x59).tB x60 h27002).tB x61 h27202
 have h27602:=(h26902.tB x60 h27002).tB x61 h27202
 have h27702:=((h26602.tL x59).tB x60 h27002).tB x61 h27202
 have h27802:=(((((((((j49.ext x52).ext x53).ext x54).ext x55).ext x56).tL x57).ext x58).tL x59).tB x60 h27002).tB x61 h27202
 have h27902:=((Ext.turn ((Ext.turn ((((((vt.tr x51).tr x52).tr x53).tr x54).tr x55).tr x56) x57 ⟨by omega,trivial⟩).tr x58) x59 ⟨by omega,trivial⟩).tB x60).tB x61
 have h28002:=(((((((((j53.ext x52).ext x53).ext x54).ext x55).ext x56).tL x57).ext x58).tL x59).tB x60).tB x61
 have h28102:=(((((((((j54.ext x52).ext x53).ext x54).ext x55).ext x56).tL x57).ext x58).tL x59).tB x60).tB x61
 exact NW.J fun a ha=>⟨y15,vd,ve,y16,A19,c_19,ha.sb,by omega,(h27502.sb),(h27602.sub ⟨(.inl ⟨by omega,trivial,rfl⟩),trivial⟩ ⟨(.inl ⟨by omega,trivial,rfl⟩),⟨(.inl ⟨by omega,trivial,rfl⟩),trivial⟩⟩),h27702,h27802,h27902,h27402,h28002,h28102,H⟩
 refine RW.buildSlice (cs:=[iv y2.Job.Table.Dev,iv y2.Job.Table.Size,.slice vg vb.length vh]) tk (.inl rfl) ⟨rfl,rfl,rfl,rfl⟩ rfl rfl rfl rfl rfl rfl rfl ?_
 intro b13 w70 x57 l21 h26103
 have sx57:=x57.size
 have ltb13:=h26103.lt
 have h26203:=((h256.ext x55).ext x56).ext x57
 obtain ⟨y15,h26303,H⟩:=bind_some H
 refine RW.callFM (cap:=[]) ent73 ⟨rfl,rfl,rfl,rfl⟩ rfl rfl rfl (slices_Delete_Device.calls (l:=[(w5.heap.size,some w13.heap.size,some 40)]) (li:=[(w5.heap.size,some w13.heap.size,some 105)]) vd ve vl y13.1 (w64 (y13.1+1)) _ _ h26203 h26303) ?_
 rintro _ w71 ⟨rfl,x58,h26403⟩
 refine ⟨_,rfl,?_⟩
 have sx58:=x58.size
 have h26503:=(((h257.ext x55).ext x56).ext x57).tL x58
 have h26603:=(((h258.ext x55).ext x56).ext x57).tL x58
 have h26703:=h26103.tL x58
 obtain ⟨y16,h26803,H⟩:=bind_some H
 refine RW.callFM (cap:=[]) ent74 ⟨rfl,rfl,rfl,rfl⟩ rfl rfl rfl (slices_Insert_Table.calls (l:=[(w5.heap.size,some w6.heap.size,some 26)]) (li:=[(mid1,some w6.heap.size,some 66)]) (ly:=[(w5.heap.size,some mid1,some 66),(w8.heap.size,some w13.heap.size,some 66)]) A5 c_5 y2.Tables y14.1 (⟨y2.Job.Table.Dev,y2.Job.Table.Size,vb⟩:Table) _ _ _ _ h26503 h26703 (kTableO_mk (⟨y2.Job.Table.Dev,y2.Job.Table.Size,vb⟩:Table) (h26603.sub (l':=[(w5.heap.size,some mid1,some 66),(w8.heap.size,some w13.heap.size,some 66)]) (li':=[(w5.heap.size,some mid1,some 66),(w8.heap.size,some w13.heap.size,some 66)]) ⟨(.inl ⟨by omega,by omega,rfl⟩),⟨(.inr (.inl ⟨by omega,by omega,rfl⟩)),trivial⟩⟩ trivial)) ⟨⟨.inl (nq rfl),trivial⟩,⟨⟨.inl (nq rfl),trivial⟩,trivial⟩⟩ ⟨.inr (by omega),trivial⟩ h26803) ?_
 rintro _ w72 ⟨A19,c_19,rfl,x59,h26903⟩
 refine ⟨_,rfl,?_⟩
 have sx59:=x59.size
 have h27003:=h26903.close.sub (l':=[(w5.heap.size,some w72.heap.size,some 26)]) (li':=[(mid1,some w13.heap.size,some 66),(w5.heap.size,some mid1,some 66)]) ⟨(.inl ⟨by omega,by omega,rfl⟩),⟨(.inl ⟨by omega,by omega,rfl⟩),trivial⟩⟩ ⟨(.inl ⟨by omega,by omega,rfl⟩),⟨(.inr (.inl ⟨by omega,by omega,rfl⟩)),⟨(.inl ⟨by omega,by omega,rfl⟩),trivial⟩⟩⟩
 refine pu 3 rfl ?_
 have h27103:=((h260.ext x57).tL x58).tL x59
 refine RW.sp tk h27103 [.slice vd y15.length ve,.slice A5 y2.Tables.length c_5,iv y2.Job.Dev,iv vf,iv y2.Job.Table.Dev,iv y2.Job.Table.Size,.slice vg vb.length vh,iv y2.Next] fun w73 x60 sx60 h27303=>?_
 refine pu 3 rfl (RW.sp tk h27303 [.slice vd y15.length ve,.slice A19 y16.length c_19,iv y2.Job.Dev,iv vf,iv y2.Job.Table.Dev,iv y2.Job.Table.Size,.slice vg vb.length vh,iv y2.Next] fun w74 x61 sx61 h27503=>?_)
 refine RW.done ?_
 have h27603:=((h26403.tL x59).tB x60 h27103).tB x61 h27303
 have h27703:=(h27003.tB x60 h27103).tB x61 h27303
 have h27803:=((h26603.tL x59).tB x60 h27103).tB x61 h27303
 have h27903:=(((((((((j49.ext x52).ext x53).ext x54).ext x55).ext x56).ext x57).tL x58).tL x59).tB x60 h27103).tB x61 h27303
 have h28003:=((Ext.turn (Ext.turn (((((((vt.tr x51).tr x52).tr x53).tr x54).tr x55).tr x56).tr x57) x58 ⟨by omega,trivial⟩) x59 ⟨by omega,trivial⟩).tB x60).tB x61
 have h28103:=(((((((((j53.ext x52).ext x53).ext x54).ext x55).ext x56).ext x57).tL x58).tL x59).tB x60).tB x61
 have h28202:=(((((((((j54.ext x52).ext x53).ext x54).ext x55).ext x56).ext x57).tL x58).tL x59).tB x60).tB x61
 exact NW.J fun a ha=>⟨y15,vd,ve,y16,A19,c_19,ha.sb,by omega,(h27603.sb),(h27703.sub ⟨(.inl ⟨by omega,trivial,rfl⟩),trivial⟩ ⟨(.inl ⟨by omega,trivial,rfl⟩),⟨(.inl ⟨by omega,trivial,rfl⟩),trivial⟩⟩),h27803,h27903,h28003,h27503,h28103,h28202,H⟩
 refine RW.lb tk [iv y2.Job.Table.Dev,iv y2.Job.Table.Size,.slice vg vb.length vh] h260 4 ?_
 refine RW.three ?_ ?_ ?_
 have h26104:=(h256.ext x55).ext x56
 obtain ⟨y15,h26204,H⟩:=bind_some H
 refine RW.callFM (cap:=[]) ent73 ⟨rfl,rfl,rfl,rfl⟩ rfl rfl rfl (slices_Delete_Device.calls (l:=[(w5.heap.size,some w13.heap.size,some 40)]) (li:=[(w5.heap.size,some w13.heap.size,some 105)]) vd ve vl y13.1 (w64 (y13.1+1)) _ _ h26104 h26204) ?_
 rintro _ w70 ⟨rfl,x57,h26304⟩
 refine ⟨_,rfl,?_⟩
 have sx57:=x57.size
 have h26404:=h260.tL x57
 refine RW.lb tk [.slice A5 y2.Tables.length c_5] h26404 1 ?_
 refine RW.buildSlice (cs:=[iv y2.Job.Table.Dev,iv y2.Job.Table.Size,.slice vg vb.length vh]) tk (.inl rfl) ⟨rfl,rfl,rfl,rfl⟩ rfl rfl rfl rfl rfl rfl rfl ?_
 intro b13 w71 x58 l21 h26504
 have sx58:=x58.size
 have ltb13:=h26504.lt
 have h26604:=(((h257.ext x55).ext x56).tL x57).ext x58
 have h26704:=(((h258.ext x55).ext x56).tL x57).ext x58
 obtain ⟨y16,h26804,H⟩:=bind_some H
 refine RW.callFM (cap:=[]) ent74 ⟨rfl,rfl,rfl,rfl⟩ rfl rfl rfl (slices_Insert_Table.calls (l:=[(w5.heap.size,some w6.heap.size,some 26)]) (li:=[(mid1,some w6.heap.size,some 66)]) (ly:=[(w5.heap.size,some mid1,some 66),(w8.heap.size,some w13.heap.size,some 66)]) A5 c_5 y2.Tables y14.1 (⟨y2.Job.Table.Dev,y2.Job.Table.Size,vb⟩:Table) _ _ _ _ h26604 h26504 (kTableO_mk (⟨y2.Job.Table.Dev,y2.Job.Table.Size,vb⟩:Table) (h26704.sub (l':=[(w5.heap.size,some mid1,some 66),(w8.heap.size,some w13.heap.size,some 66)]) (li':=[(w5.heap.size,some mid1,some 66),(w8.heap.size,some w13.heap.size,some 66)]) ⟨(.inl ⟨by omega,by omega,rfl⟩),⟨(.inr (.inl ⟨by omega,by omega,rfl⟩)),trivial⟩⟩ trivial)) ⟨⟨.inl (nq rfl),trivial⟩,⟨⟨.inl (nq rfl),trivial⟩,trivial⟩⟩ ⟨.inr (by omega),trivial⟩ h26804) ?_
 rintro _ w72 ⟨A19,c_19,rfl,x59,h26904⟩
 refine ⟨_,rfl,?_⟩
 have sx59:=x59.size
 have h27004:=h26904.close.sub (l':=[(w5.heap.size,some w72.heap.size,some 26)]) (li':=[(mid1,some w13.heap.size,some 66),(w5.heap.size,some mid1,some 66)]) ⟨(.inl ⟨by omega,by omega,rfl⟩),⟨(.inl ⟨by omega,by omega,rfl⟩),trivial⟩⟩ ⟨(.inl ⟨by omega,by omega,rfl⟩),⟨(.inr (.inl ⟨by omega,by omega,rfl⟩)),⟨(.inl ⟨by omega,by omega,rfl⟩),trivial⟩⟩⟩
 refine pu 3 rfl ?_
 have h27104:=(h26404.ext x58).tL x59
 refine RW.sp tk h27104 [.slice vd y15.length ve,.slice A5 y2.Tables.length c_5,iv y2.Job.Dev,iv vf,iv y2.Job.Table.Dev,iv y2.Job.Table.Size,.slice vg vb.length vh,iv y2.Next] fun w73 x60 sx60 h27304=>?_
 refine pu 3 rfl (RW.sp tk h27304 [.slice vd y15.length ve,.slice A19 y16.length c_19,iv y2.Job.Dev,iv vf,iv y2.Job.Table.Dev,iv y2.Job.Table.Size,.slice vg vb.length vh,iv y2.Next] fun w74 x61 sx61 h27504=>?_)
 refine RW.done ?_
 have h27604:=(((h26304.ext x58).tL x59).tB x60 h27104).tB x61 h27304
 have h27704:=(h27004.tB x60 h27104).tB x61 h27304
 have h27804:=((h26704.tL x59).tB x60 h27104).tB x61 h27304
 have h27904:=(((((((((j49.ext x52).ext x53).ext x54).ext x55).ext x56).tL x57).ext x58).tL x59).tB x60 h27104).tB x61 h27304
 have h28004:=((Ext.turn ((Ext.turn ((((((vt.tr x51).tr x52).tr x53).tr x54).tr x55).tr x56) x57 ⟨by omega,trivial⟩).tr x58) x59 ⟨by omega,trivial⟩).tB x60).tB x61
 have h28104:=(((((((((j53.ext x52).ext x53).ext x54).ext x55).ext x56).tL x57).ext x58).tL x59).tB x60).tB x61
 have h28203:=(((((((((j54.ext x52).ext x53).ext x54).ext x55).ext x56).tL x57).ext x58).tL x59).tB x60).tB x61
 exact NW.J fun a ha=>⟨y15,vd,ve,y16,A19,c_19,ha.sb,by omega,(h27604.sb),(h27704.sub ⟨(.inl ⟨by omega,trivial,rfl⟩),trivial⟩ ⟨(.inl ⟨by omega,trivial,rfl⟩),⟨(.inl ⟨by omega,trivial,rfl⟩),trivial⟩⟩),h27804,h27904,h28004,h27504,h28104,h28203,H⟩
 refine RW.lb tk [.slice A5 y2.Tables.length c_5] h260 1 ?_
 refine RW.two ?_ ?_
 have h26105:=(h256.ext x55).ext x56
 obtain ⟨y15,h26205,H⟩:=bind_some H
 refine RW.callFM (cap:=[]) ent73 ⟨rfl,rfl,rfl,rfl⟩ rfl rfl rfl (slices_Delete_Device.calls (l:=[(w5.heap.size,some w13.heap.size,some 40)]) (li:=[(w5.heap.size,some w13.heap.size,some 105)]) vd ve vl y13.1 (w64 (y13.1+1)) _ _ h26105 h26205) ?_
 rintro _ w70 ⟨rfl,x57,h26305⟩
 refine ⟨_,rfl,?_⟩
 have sx57:=x57.size
 refine RW.buildSlice (cs:=[iv y2.Job.Table.Dev,iv y2.Job.Table.Size,.slice vg vb.length vh]) tk (.inl rfl) ⟨rfl,rfl,rfl,rfl⟩ rfl rfl rfl rfl rfl rfl rfl ?_
 intro b13 w71 x58 l21 h26405
 have sx58:=x58.size
 have ltb13:=h26405.lt
 have h26505:=(((h257.ext x55).ext x56).tL x57).ext x58
 have h26605:=(((h258.ext x55).ext x56).tL x57).ext x58
 obtain ⟨y16,h26705,H⟩:=bind_some H
 refine RW.callFM (cap:=[]) ent74 ⟨rfl,rfl,rfl,rfl⟩ rfl rfl rfl (slices_Insert_Table.calls (l:=[(w5.heap.size,some w6.heap.size,some 26)]) (li:=[(mid1,some w6.heap.size,some 66)]) (ly:=[(w5.heap.size,some mid1,some 66),(w8.heap.size,some w13.heap.size,some 66)]) A5 c_5 y2.Tables y14.1 (⟨y2.Job.Table.Dev,y2.Job.Table.Size,vb⟩:Table) _ _ _ _ h26505 h26405 (kTableO_mk (⟨y2.Job.Table.Dev,y2.Job.Table.Size,vb⟩:Table) (h26605.sub (l':=[(w5.heap.size,some mid1,some 66),(w8.heap.size,some w13.heap.size,some 66)]) (li':=[(w5.heap.size,some mid1,some 66),(w8.heap.size,some w13.heap.size,some 66)]) ⟨(.inl ⟨by omega,by omega,rfl⟩),⟨(.inr (.inl ⟨by omega,by omega,rfl⟩)),trivial⟩⟩ trivial)) ⟨⟨.inl (nq rfl),trivial⟩,⟨⟨.inl (nq rfl),trivial⟩,trivial⟩⟩ ⟨.inr (by omega),trivial⟩ h26705) ?_
 rintro _ w72 ⟨A19,c_19,rfl,x59,h26805⟩
 refine ⟨_,rfl,?_⟩
 have sx59:=x59.size
 have h26905:=h26805.close.sub (l':=[(w5.heap.size,some w72.heap.size,some 26)]) (li':=[(mid1,some w13.heap.size,some 66),(w5.heap.size,some mid1,some 66)]) ⟨(.inl ⟨by omega,by omega,rfl⟩),⟨(.inl ⟨by omega,by omega,rfl⟩),trivial⟩⟩ ⟨(.inl ⟨by omega,by omega,rfl⟩),⟨(.inr (.inl ⟨by omega,by omega,rfl⟩)),⟨(.inl ⟨by omega,by omega,rfl⟩),trivial⟩⟩⟩
 refine pu 3 rfl ?_
 have h27005:=((h260.tL x57).ext x58).tL x59
 refine RW.sp tk h27005 [.slice vd y15.length ve,.slice A5 y2.Tables.length c_5,iv y2.Job.Dev,iv vf,iv y2.Job.Table.Dev,iv y2.Job.Table.Size,.slice vg vb.length vh,iv y2.Next] fun w73 x60 sx60 h27205=>?_
 refine pu 3 rfl (RW.sp tk h27205 [.slice vd y15.length ve,.slice A19 y16.length c_19,iv y2.Job.Dev,iv vf,iv y2.Job.Table.Dev,iv y2.Job.Table.Size,.slice vg vb.length vh,iv y2.Next] fun w74 x61 sx61 h27405=>?_)
 refine RW.done ?_
 have h27505:=(((h26305.ext x58).tL x59).tB x60 h27005).tB x61 h27205
 have h27605:=(h26905.tB x60 h27005).tB x61 h27205
 have h27705:=((h26605.tL x59).tB x60 h27005).tB x61 h27205
 have h27805:=(((((((((j49.ext x52).ext x53).ext x54).ext x55).ext x56).tL x57).ext x58).tL x59).tB x60 h27005).tB x61 h27205
 have h27905:=((Ext.turn ((Ext.turn ((((((vt.tr x51).tr x52).tr x53).tr x54).tr x55).tr x56) x57 ⟨by omega,trivial⟩).tr x58) x59 ⟨by omega,trivial⟩).tB x60).tB x61
 have h28005:=(((((((((j53.ext x52).ext x53).ext x54).ext x55).ext x56).tL x57).ext x58).tL x59).tB x60).tB x61
 have h28105:=(((((((((j54.ext x52).ext x53).ext x54).ext x55).ext x56).tL x57).ext x58).tL x59).tB x60).tB x61
 exact NW.J fun a ha=>⟨y15,vd,ve,y16,A19,c_19,ha.sb,by omega,(h27505.sb),(h27605.sub ⟨(.inl ⟨by omega,trivial,rfl⟩),trivial⟩ ⟨(.inl ⟨by omega,trivial,rfl⟩),⟨(.inl ⟨by omega,trivial,rfl⟩),trivial⟩⟩),h27705,h27805,h27905,h27405,h28005,h28105,H⟩
 refine RW.buildSlice (cs:=[iv y2.Job.Table.Dev,iv y2.Job.Table.Size,.slice vg vb.length vh]) tk (.inl rfl) ⟨rfl,rfl,rfl,rfl⟩ rfl rfl rfl rfl rfl rfl rfl ?_
 intro b13 w70 x57 l21 h26106
 have sx57:=x57.size
 have ltb13:=h26106.lt
 have h26206:=((h256.ext x55).ext x56).ext x57
 obtain ⟨y15,h26306,H⟩:=bind_some H
 refine RW.callFM (cap:=[]) ent73 ⟨rfl,rfl,rfl,rfl⟩ rfl rfl rfl (slices_Delete_Device.calls (l:=[(w5.heap.size,some w13.heap.size,some 40)]) (li:=[(w5.heap.size,some w13.heap.size,some 105)]) vd ve vl y13.1 (w64 (y13.1+1)) _ _ h26206 h26306) ?_
 rintro _ w71 ⟨rfl,x58,h26406⟩
 refine ⟨_,rfl,?_⟩
 have sx58:=x58.size
 have h26506:=(((h257.ext x55).ext x56).ext x57).tL x58
 have h26606:=(((h258.ext x55).ext x56).ext x57).tL x58
 have h26706:=h26106.tL x58
 obtain ⟨y16,h26806,H⟩:=bind_some H
 refine RW.callFM (cap:=[]) ent74 ⟨rfl,rfl,rfl,rfl⟩ rfl rfl rfl (slices_Insert_Table.calls (l:=[(w5.heap.size,some w6.heap.size,some 26)]) (li:=[(mid1,some w6.heap.size,some 66)]) (ly:=[(w5.heap.size,some mid1,some 66),(w8.heap.size,some w13.heap.size,some 66)]) A5 c_5 y2.Tables y14.1 (⟨y2.Job.Table.Dev,y2.Job.Table.Size,vb⟩:Table) _ _ _ _ h26506 h26706 (kTableO_mk (⟨y2.Job.Table.Dev,y2.Job.Table.Size,vb⟩:Table) (h26606.sub (l':=[(w5.heap.size,some mid1,some 66),(w8.heap.size,some w13.heap.size,some 66)]) (li':=[(w5.heap.size,some mid1,some 66),(w8.heap.size,some w13.heap.size,some 66)]) ⟨(.inl ⟨by omega,by omega,rfl⟩),⟨(.inr (.inl ⟨by omega,by omega,rfl⟩)),trivial⟩⟩ trivial)) ⟨⟨.inl (nq rfl),trivial⟩,⟨⟨.inl (nq rfl),trivial⟩,trivial⟩⟩ ⟨.inr (by omega),trivial⟩ h26806) ?_
 rintro _ w72 ⟨A19,c_19,rfl,x59,h26906⟩
 refine ⟨_,rfl,?_⟩
 have sx59:=x59.size
 have h27006:=h26906.close.sub (l':=[(w5.heap.size,some w72.heap.size,some 26)]) (li':=[(mid1,some w13.heap.size,some 66),(w5.heap.size,some mid1,some 66)]) ⟨(.inl ⟨by omega,by omega,rfl⟩),⟨(.inl ⟨by omega,by omega,rfl⟩),trivial⟩⟩ ⟨(.inl ⟨by omega,by omega,rfl⟩),⟨(.inr (.inl ⟨by omega,by omega,rfl⟩)),⟨(.inl ⟨by omega,by omega,rfl⟩),trivial⟩⟩⟩
 refine pu 3 rfl ?_
 have h27106:=((h260.ext x57).tL x58).tL x59
 refine RW.sp tk h27106 [.slice vd y15.length ve,.slice A5 y2.Tables.length c_5,iv y2.Job.Dev,iv vf,iv y2.Job.Table.Dev,iv y2.Job.Table.Size,.slice vg vb.length vh,iv y2.Next] fun w73 x60 sx60 h27306=>?_
 refine pu 3 rfl (RW.sp tk h27306 [.slice vd y15.length ve,.slice A19 y16.length c_19,iv y2.Job.Dev,iv vf,iv y2.Job.Table.Dev,iv y2.Job.Table.Size,.slice vg vb.length vh,iv y2.Next] fun w74 x61 sx61 h27506=>?_)
 refine RW.done ?_
 have h27606:=((h26406.tL x59).tB x60 h27106).tB x61 h27306
 have h27706:=(h27006.tB x60 h27106).tB x61 h27306
 have h27806:=((h26606.tL x59).tB x60 h27106).tB x61 h27306
 have h27906:=(((((((((j49.ext x52).ext x53).ext x54).ext x55).ext x56).ext x57).tL x58).tL x59).tB x60 h27106).tB x61 h27306
 have h28006:=((Ext.turn (Ext.turn (((((((vt.tr x51).tr x52).tr x53).tr x54).tr x55).tr x56).tr x57) x58 ⟨by omega,trivial⟩) x59 ⟨by omega,trivial⟩).tB x60).tB x61
 have h28106:=(((((((((j53.ext x52).ext x53).ext x54).ext x55).ext x56).ext x57).tL x58).tL x59).tB x60).tB x61
 have h28204:=(((((((((j54.ext x52).ext x53).ext x54).ext x55).ext x56).ext x57).tL x58).tL x59).tB x60).tB x61
 exact NW.J fun a ha=>⟨y15,vd,ve,y16,A19,c_19,ha.sb,by omega,(h27606.sb),(h27706.sub ⟨(.inl ⟨by omega,trivial,rfl⟩),trivial⟩ ⟨(.inl ⟨by omega,trivial,rfl⟩),⟨(.inl ⟨by omega,trivial,rfl⟩),trivial⟩⟩),h27806,h27906,h28006,h27506,h28106,h28204,H⟩
 refine RW.buildSlice (cs:=[iv y2.Job.Table.Dev,iv y2.Job.Table.Size,.slice vg vb.length vh]) tk (.inl rfl) ⟨rfl,rfl,rfl,rfl⟩ rfl rfl rfl rfl rfl rfl rfl ?_
 intro b13 w70 x57 l21 h26107
 have sx57:=x57.size
 have ltb13:=h26107.lt
 refine RW.two ?_ ?_
 have h26207:=((h256.ext x55).ext x56).ext x57
 obtain ⟨y15,h26307,H⟩:=bind_some H
 refine RW.callFM (cap:=[]) ent73 ⟨rfl,rfl,rfl,rfl⟩ rfl rfl rfl (slices_Delete_Device.calls (l:=[(w5.heap.size,some w13.heap.size,some 40)]) (li:=[(w5.heap.size,some w13.heap.size,some 105)]) vd ve vl y13.1 (w64 (y13.1+1)) _ _ h26207 h26307) ?_
 rintro _ w71 ⟨rfl,x58,h26407⟩
 refine ⟨_,rfl,?_⟩
 have sx58:=x58.size
 have h26507:=(h260.ext x57).tL x58
 refine RW.lb tk [.slice A5 y2.Tables.length c_5] h26507 1 ?_
 have h26607:=(((h257.ext x55).ext x56).ext x57).tL x58
 have h26707:=(((h258.ext x55).ext x56).ext x57).tL x58
 have h26807:=h26107.tL x58
 obtain ⟨y16,h26907,H⟩:=bind_some H
 refine RW.callFM (cap:=[]) ent74 ⟨rfl,rfl,rfl,rfl⟩ rfl rfl rfl (slices_Insert_Table.calls (l:=[(w5.heap.size,some w6.heap.size,some 26)]) (li:=[(mid1,some w6.heap.size,some 66)]) (ly:=[(w5.heap.size,some mid1,some 66),(w8.heap.size,some w13.heap.size,some 66)]) A5 c_5 y2.Tables y14.1 (⟨y2.Job.Table.Dev,y2.Job.Table.Size,vb⟩:Table) _ _ _ _ h26607 h26807 (kTableO_mk (⟨y2.Job.Table.Dev,y2.Job.Table.Size,vb⟩:Table) (h26707.sub (l':=[(w5.heap.size,some mid1,some 66),(w8.heap.size,some w13.heap.size,some 66)]) (li':=[(w5.heap.size,some mid1,some 66),(w8.heap.size,some w13.heap.size,some 66)]) ⟨(.inl ⟨by omega,by omega,rfl⟩),⟨(.inr (.inl ⟨by omega,by omega,rfl⟩)),trivial⟩⟩ trivial)) ⟨⟨.inl (nq rfl),trivial⟩,⟨⟨.inl (nq rfl),trivial⟩,trivial⟩⟩ ⟨.inr (by omega),trivial⟩ h26907) ?_
 rintro _ w72 ⟨A19,c_19,rfl,x59,h27007⟩
 refine ⟨_,rfl,?_⟩
 have sx59:=x59.size
 have h27107:=h27007.close.sub (l':=[(w5.heap.size,some w72.heap.size,some 26)]) (li':=[(mid1,some w13.heap.size,some 66),(w5.heap.size,some mid1,some 66)]) ⟨(.inl ⟨by omega,by omega,rfl⟩),⟨(.inl ⟨by omega,by omega,rfl⟩),trivial⟩⟩ ⟨(.inl ⟨by omega,by omega,rfl⟩),⟨(.inr (.inl ⟨by omega,by omega,rfl⟩)),⟨(.inl ⟨by omega,by omega,rfl⟩),trivial⟩⟩⟩
 refine pu 3 rfl ?_
 have h27207:=h26507.tL x59
 refine RW.sp tk h27207 [.slice vd y15.length ve,.slice A5 y2.Tables.length c_5,iv y2.Job.Dev,iv vf,iv y2.Job.Table.Dev,iv y2.Job.Table.Size,.slice vg vb.length vh,iv y2.Next] fun w73 x60 sx60 h27407=>?_
 refine pu 3 rfl (RW.sp tk h27407 [.slice vd y15.length ve,.slice A19 y16.length c_19,iv y2.Job.Dev,iv vf,iv y2.Job.Table.Dev,iv y2.Job.Table.Size,.slice vg vb.length vh,iv y2.Next] fun w74 x61 sx61 h27607=>?_)
 refine RW.done ?_
 have h27707:=((h26407.tL x59).tB x60 h27207).tB x61 h27407
 have h27807:=(h27107.tB x60 h27207).tB x61 h27407
 have h27907:=((h26707.tL x59).tB x60 h27207).tB x61 h27407
 have h28007:=(((((((((j49.ext x52).ext x53).ext x54).ext x55).ext x56).ext x57).tL x58).tL x59).tB x60 h27207).tB x61 h27407
 have h28107:=((Ext.turn (Ext.turn (((((((vt.tr x51).tr x52).tr x53).tr x54).tr x55).tr x56).tr x57) x58 ⟨by omega,trivial⟩) x59 ⟨by omega,trivial⟩).tB x60).tB x61
 have h28205:=(((((((((j53.ext x52).ext x53).ext x54).ext x55).ext x56).ext x57).tL x58).tL x59).tB x60).tB x61
 have h283:=(((((((((j54.ext x52).ext x53).ext x54).ext x55).ext x56).ext x57).tL x58).tL x59).tB x60).tB x61
 exact NW.J fun a ha=>⟨y15,vd,ve,y16,A19,c_19,ha.sb,by omega,(h27707.sb),(h27807.sub ⟨(.inl ⟨by omega,trivial,rfl⟩),trivial⟩ ⟨(.inl ⟨by omega,trivial,rfl⟩),⟨(.inl ⟨by omega,trivial,rfl⟩),trivial⟩⟩),h27907,h28007,h28107,h27607,h28205,h283,H⟩
 have h26208:=h260.ext x57
 refine RW.lb tk [.slice A5 y2.Tables.length c_5] h26208 1 ?_
 have h26308:=((h256.ext x55).ext x56).ext x57
 obtain ⟨y15,h26408,H⟩:=bind_some H
 refine RW.callFM (cap:=[]) ent73 ⟨rfl,rfl,rfl,rfl⟩ rfl rfl rfl (slices_Delete_Device.calls (l:=[(w5.heap.size,some w13.heap.size,some 40)]) (li:=[(w5.heap.size,some w13.heap.size,some 105)]) vd ve vl y13.1 (w64 (y13.1+1)) _ _ h26308 h26408) ?_
 rintro _ w71 ⟨rfl,x58,h26508⟩
 refine ⟨_,rfl,?_⟩
 have sx58:=x58.size
 have h26608:=(((h257.ext x55).ext x56).ext x57).tL x58
 have h26708:=(((h258.ext x55).ext x56).ext x57).tL x58
 have h26808:=h26107.tL x58
 obtain ⟨y16,h26908,H⟩:=bind_some H
 refine RW.callFM (cap:=[]) ent74 ⟨rfl,rfl,rfl,rfl⟩ rfl rfl rfl (slices_Insert_Table.calls (l:=[(w5.heap.size,some w6.heap.size,some 26)]) (li:=[(mid1,some w6.heap.size,some 66)]) (ly:=[(w5.heap.size,some mid1,some 66),(w8.heap.size,some w13.heap.size,some 66)]) A5 c_5 y2.Tables y14.1 (⟨y2.Job.Table.Dev,y2.Job.Table.Size,vb⟩:Table) _ _ _ _ h26608 h26808 (kTableO_mk (⟨y2.Job.Table.Dev,y2.Job.Table.Size,vb⟩:Table) (h26708.sub (l':=[(w5.heap.size,some mid1,some 66),(w8.heap.size,some w13.heap.size,some 66)]) (li':=[(w5.heap.size,some mid1,some 66),(w8.heap.size,some w13.heap.size,some 66)]) ⟨(.inl ⟨by omega,by omega,rfl⟩),⟨(.inr (.inl ⟨by omega,by omega,rfl⟩)),trivial⟩⟩ trivial)) ⟨⟨.inl (nq rfl),trivial⟩,⟨⟨.inl (nq rfl),trivial⟩,trivial⟩⟩ ⟨.inr (by omega),trivial⟩ h26908) ?_
 rintro _ w72 ⟨A19,c_19,rfl,x59,h27008⟩
 refine ⟨_,rfl,?_⟩
 have sx59:=x59.size
 have h27108:=h27008.close.sub (l':=[(w5.heap.size,some w72.heap.size,some 26)]) (li':=[(mid1,some w13.heap.size,some 66),(w5.heap.size,some mid1,some 66)]) ⟨(.inl ⟨by omega,by omega,rfl⟩),⟨(.inl ⟨by omega,by omega,rfl⟩),trivial⟩⟩ ⟨(.inl ⟨by omega,by omega,rfl⟩),⟨(.inr (.inl ⟨by omega,by omega,rfl⟩)),⟨(.inl ⟨by omega,by omega,rfl⟩),trivial⟩⟩⟩
 refine pu 3 rfl ?_
 have h27208:=(h26208.tL x58).tL x59
 refine RW.sp tk h27208 [.slice vd y15.length ve,.slice A5 y2.Tables.length c_5,iv y2.Job.Dev,iv vf,iv y2.Job.Table.Dev,iv y2.Job.Table.Size,.slice vg vb.length vh,iv y2.Next] fun w73 x60 sx60 h27408=>?_
 refine pu 3 rfl (RW.sp tk h27408 [.slice vd y15.length ve,.slice A19 y16.length c_19,iv y2.Job.Dev,iv vf,iv y2.Job.Table.Dev,iv y2.Job.Table.Size,.slice vg vb.length vh,iv y2.Next] fun w74 x61 sx61 h27608=>?_)
 refine RW.done ?_
 have h27708:=((h26508.tL x59).tB x60 h27208).tB x61 h27408
 have h27808:=(h27108.tB x60 h27208).tB x61 h27408
 have h27908:=((h26708.tL x59).tB x60 h27208).tB x61 h27408
 have h28008:=(((((((((j49.ext x52).ext x53).ext x54).ext x55).ext x56).ext x57).tL x58).tL x59).tB x60 h27208).tB x61 h27408
 have h28108:=((Ext.turn (Ext.turn (((((((vt.tr x51).tr x52).tr x53).tr x54).tr x55).tr x56).tr x57) x58 ⟨by omega,trivial⟩) x59 ⟨by omega,trivial⟩).tB x60).tB x61
 have h28206:=(((((((((j53.ext x52).ext x53).ext x54).ext x55).ext x56).ext x57).tL x58).tL x59).tB x60).tB x61
 have h28301:=(((((((((j54.ext x52).ext x53).ext x54).ext x55).ext x56).ext x57).tL x58).tL x59).tB x60).tB x61
 exact NW.J fun a ha=>⟨y15,vd,ve,y16,A19,c_19,ha.sb,by omega,(h27708.sb),(h27808.sub ⟨(.inl ⟨by omega,trivial,rfl⟩),trivial⟩ ⟨(.inl ⟨by omega,trivial,rfl⟩),⟨(.inl ⟨by omega,trivial,rfl⟩),trivial⟩⟩),h27908,h28008,h28108,h27608,h28206,h28301,H⟩
 rintro a w68 ⟨vN,vW,vX,vO,vY,vZ,hS,hle,Qr,Qs,QH,Qt,Qu,ze,Qv,Qw,H⟩ hp
 unfold move_Step.j9 at H
 refine CW.go hp hS ?_
 have h284:Ow kDeviceO 40 w68.heap (okL [(w5.heap.size,some w13.heap.size,some 40)]) (okL [(w5.heap.size,some w68.heap.size,some 105)]) vW vX vN:=Qr.close
 have h285:Ow kTableO 26 w68.heap (okL [(w5.heap.size,some w68.heap.size,some 26)]) (okL [(w5.heap.size,some w68.heap.size,some 66)]) vY vZ vO:=Qs.close
 have xt10:Ext w68 w68:=Upd.refl _ _
 refine CW.lex [.W,.W,.W,.W,.W,.M] rfl (pu 5 rfl (RW.sp tk ze [.slice vW vN.length vX,.slice vY vO.length vZ,iv 0,iv 0,iv 0,iv 0,.slice none 0 0,iv y2.Next] fun w75 x62 sx62 h287=>?_))
 refine RW.done (NW.end_ ?_)
 have h288:=Qt.tB x62 ze
 have h289:=h284.tB x62 ze
 have h290:=h285.tB x62 ze
 have h291:=Qu.tB x62
 have h292:=Qv.tB x62
 have h293:=Qw.tB x62
 exact NW.ret0 rfl ⟨vN,vW,vX,vO,vY,vZ,0,0,0,0,([]:List Entry),none,0,rfl,by omega,h288,(h289.sb),(h290.sb),Ow.nil,h291,h292,h293,h287,H⟩
 rintro _ w61 ⟨vx,vo,vp,vy,vz,vA,vJ,vK,vL,vM,vC,vD,vE,rfl,hle,Qx,Qy,Qz,QA,QB,QC,QD,zK,H⟩
 refine ⟨_,rfl,?_⟩
 unfold move_Step.j8 at H
 have h294:Ow kDeviceO 40 w61.heap (okL [(w5.heap.size,some w13.heap.size,some 40)]) (okL [(w5.heap.size,some w61.heap.size,some 105)]) vo vp vx:=Qy.close
 have h295:Ow kTableO 26 w61.heap (okL [(w5.heap.size,some w61.heap.size,some 26)]) (okL [(w5.heap.size,some w61.heap.size,some 66)]) vz vA vy:=Qz.close
 have xt11:Ext w61 w61:=Upd.refl _ _
 refine RW.done (NW.next (CW.seq (CW.lex [.W,.W,.W,.W,.L,.M] rfl (pu 4 rfl (RW.lb tk [.slice vo vx.length vp] zK 0 ?_)))))
 refine RW.callKM ent35 ⟨rfl,rfl,rfl,rfl⟩ rfl rfl rfl ?_
 refine cst Tryz.func35 28 ?_
 refine CW.seq (CW.lw 3 rfl (pu 3 rfl (RW.done (NW.next (CW.block ?_)))))
 refine CW.loop (fun n3 a w76=>∃(vc:List Device) (va:Int),Sat 28 [(0,.slice vo vc.length vp),(4,.slice vo vc.length vp),(5,iv (vx.length:Int)),(6,iv va)] a∧w61.heap.size≤w76.heap.size∧Ow kDeviceO 40 w76.heap (okL [(w5.heap.size,none,some 40)]) (okL [(w5.heap.size,none,some 105)]) vo vp vc∧Ow kPair 124 w76.heap (okL [(w8.heap.size,some w13.heap.size,some 124)]) (okL []) vm vn vi∧Ow kTableO 26 w76.heap (okL [(w5.heap.size,some w61.heap.size,some 26)]) (okL [(w5.heap.size,some w61.heap.size,some 66)]) vz vA vy∧Ow kEntry 66 w76.heap (okL [(w5.heap.size,some mid1,some 66),(w8.heap.size,some w13.heap.size,some 66)]) (okL []) vD vE vC∧Ext w w76∧vc.length=vx.length∧Box w76.heap b2 30 [.slice none 0 0,.slice none 0 0,iv 0,iv 0,iv 0,iv 0,.slice none 0 0,iv 0]∧Box w76.heap b3 51 [.slice vm vi.length vn]∧Box w76.heap b5 78 [.slice vo vc.length vp,.slice vz vy.length vA,iv vJ,iv vK,iv vL,iv vM,.slice vD vC.length vE,iv y2.Next]∧move_Step.l2 k y2 vi vx vy vJ vK vL vM vC n3 vc va=some r) k ?_ ?_
 exact fun a ha=>⟨vx,0,ha.sb,by omega,(h294.sb),Qx,h295,QA,QB,(by (try simp only [List.length_set]) <;>omega),QC,QD,zK,H⟩
 rintro n3 a w76 ⟨vc,va,hS,hle,QE,zu,zv,zw,zf,QI,zx,zy,zL,H⟩ hp
 obtain _|n3:=n3
 cases H
 rw [move_Step.l2] at H
 refine CW.go hp hS ?_
 have h296:Ow kDeviceO 40 w76.heap (okL [(w5.heap.size,some w76.heap.size,some 40)]) (okL [(w5.heap.size,some w76.heap.size,some 105)]) vo vp vc:=QE.close
 have xt12:Ext w76 w76:=Upd.refl _ _
 refine CW.seq (CW.lw 1 rfl (pu 1 rfl (RW.done (NW.next (CW.seq (CW.i H (fun c18 H=>?_) fun c18 H=>?_))))))
 refine CW.skip (NW.next (CW.seq (CW.block (CW.seq (CW.lex [.W,.W,.L,.X,.W,.M] rfl (pu 1 rfl ?_))))))
 obtain ⟨g13,H⟩:=guard_some H
 obtain ⟨ad10,A20,c_20,A21,c_21,e10,a10,h297,h298⟩:=kDeviceO_ato h296 g13.1 g13.2
 refine RW.ix tk g13 e10 ?_
 refine RW.ld tk _ a10 ?_
 refine RW.al tk fun b14 w77 x63 sx63 l24 ltb14 h299=>?_
 refine pu 1 rfl (RW.sf tk h299 fun w78 x64 sx64 h301=>?_)
 refine RW.done (NW.next (CW.ord [0,0,0,0,0,16,48,0,128,496,1008,2032,4083,8179,16371,32767,65535,131071] (ofL [(0,.W),(1,.W),(2,.W),(3,.W),(4,.W),(7,.W),(5,.L),(8,.L),(6,.X),(9,.X),(10,.W),(11,.X),(12,.W),(13,.W),(14,.M),(15,.W),(16,.W),(17,.M)] .nil) mixed (by kernel_rfl) ?_))
 intro w79 x65
 have sx65:=x65.size
 refine pu 6 rfl ?_
 have h302:=h301.ext x65
 refine RW.lb tk [.slice A20 ((rd vc va).Free).length c_20] h302 2 ?_
 refine RW.lb tk [.slice A21 ((rd vc va).Late).length c_21] h302 3 ?_
 have h303:=((h297.ext x63).tB x64 h299).ext x65
 refine RW.cp H ent57 (fun _ h=>seg_Make.calls h h303.all h303.len) fun y17 w80 x66 sx66 H=>?_
 have h305:=(((h298.ext x63).tB x64 h299).ext x65).ext x66
 refine RW.cp H ent57 (fun _ h=>seg_Make.calls h h305.all h305.len) fun y18 w81 x67 sx67 H=>?_
 refine pu 1 rfl ?_
 have h307:=(((((hG.ext zf).ext x63).tB x64).ext x65).ext x66).ext x67
 obtain ⟨y19,h308,H⟩:=bind_some H
 refine RW.cl ent40 (seg_Set_Segs.calls h308 h307) ?_
 rintro _ w82 ⟨A22,c_22,rfl,x68,h309⟩
 refine ⟨_,rfl,x68,?_⟩
 have sx68:=x68.size
 have h310:Ow kSeg 105 w82.heap (okL [(w81.heap.size,some w82.heap.size,some 105)]) (okL []) A22 c_22 y19:=h309.close
 obtain ⟨g14,H⟩:=guard_some H
 have h311:=(((((h296.ext x63).turnB x64 h299 ⟨.inr (by omega),trivial⟩ ⟨.inl (nq rfl),trivial⟩).ext x65).ext x66).ext x67).ext x68
 obtain ⟨ad11,A23,c_23,A24,c_24,e11,a11,h312,h313⟩:=kDeviceO_ato h311 g14.1 g14.2
 refine RW.ix tk g14 e11 ?_
 refine pu 1 rfl ?_
 refine RW.storeElL (y:=(⟨(rd vc va).ID,(rd vc va).Size,y19,(rd vc va).Late⟩:Device)) (lv:=[(w81.heap.size,some w82.heap.size,some 105)]) (k:=2) tk h311 (j:=va.toNat) (by have:=g14;omega) default [.slice A22 y19.length c_22] (fun cs ok' hr=>by obtain ⟨qa1,qc1,qa2,qc2,rfl,q1,q2⟩:=kDeviceO_open hr;exact ⟨by simp,kDeviceO_mk (⟨(rd vc va).ID,(rd vc va).Size,y19,(rd vc va).Late⟩:Device) (h310.mono (fun _ _ ho=>Or.inr (okL_sub (l:=[(w81.heap.size,some w82.heap.size,some 105)]) (l':=[(w81.heap.size,some w82.heap.size,some 105)]) ⟨(.inl ⟨by omega,by omega,rfl⟩),trivial⟩ ho)) (fun _ _ ho=>Or.inr (okL_sub (l:=[]) (l':=[(w81.heap.size,some w82.heap.size,some 105)]) trivial ho))) (q2.mono (fun _ _ ho=>Or.inl ho) (fun _ _ ho=>Or.inl ho))⟩) ⟨⟨.inl (nq rfl),trivial⟩,trivial⟩ ⟨rfl,rfl,rfl⟩ rfl rfl e11 rfl rfl rfl rfl rfl ?_
 intro w83 x69 h314
 have sx69:=x69.size
 have h315:=h314.close.sub (l':=[(w5.heap.size,some w76.heap.size,some 40)]) (li':=[(w5.heap.size,some w82.heap.size,some 105)]) ⟨(.inl ⟨by omega,by omega,rfl⟩),trivial⟩ ⟨(.inl ⟨by omega,by omega,rfl⟩),⟨(.inl ⟨by omega,by omega,rfl⟩),trivial⟩⟩
 refine RW.tell 0 (v':=.slice vo (vc.set va.toNat (⟨(rd vc va).ID,(rd vc va).Size,y19,(rd vc va).Late⟩:Device)).length vp) (by simp only [List.length_set]) rfl (RW.tell 4 (v':=.slice vo (vc.set va.toNat (⟨(rd vc va).ID,(rd vc va).Size,y19,(rd vc va).Late⟩:Device)).length vp) (by simp only [List.length_set]) rfl (RW.tell 13 (v':=.slice vo (vc.set va.toNat (⟨(rd vc va).ID,(rd vc va).Size,y19,(rd vc va).Late⟩:Device)).length vp) (by simp only [List.length_set]) rfl ?_))
 have h316:=((((((zL.ext x63).tB x64).ext x65).ext x66).ext x67).ext x68).tL x69
 have h317:Box w83.heap b5 78 [.slice vo (vc.set va.toNat (⟨(rd vc va).ID,(rd vc va).Size,y19,(rd vc va).Late⟩:Device)).length vp,.slice vz vy.length vA,iv vJ,iv vK,iv vL,iv vM,.slice vD vC.length vE,iv y2.Next]:=by simpa only [List.length_set] using h316
 obtain ⟨g15,H⟩:=guard_some H
 obtain ⟨ad12,A25,c_25,A26,c_26,e12,a12,h318,h319⟩:=kDeviceO_ato h315 g15.1 g15.2
 refine RW.ix tk g15 e12 ?_
 refine pu 1 rfl ?_
 refine RW.storeElL (y:=(⟨(rd (vc.set va.toNat (⟨(rd vc va).ID,(rd vc va).Size,y19,(rd vc va).Late⟩:Device)) va).ID,(rd (vc.set va.toNat (⟨(rd vc va).ID,(rd vc va).Size,y19,(rd vc va).Late⟩:Device)) va).Size,(rd (vc.set va.toNat (⟨(rd vc va).ID,(rd vc va).Size,y19,(rd vc va).Late⟩:Device)) va).Free,([]:List Seg)⟩:Device)) (lv:=[]) (k:=3) tk h315 (j:=va.toNat) (by have:=g15;omega) default [.slice none 0 0] (fun cs ok' hr=>by obtain ⟨qa1,qc1,qa2,qc2,rfl,q1,q2⟩:=kDeviceO_open hr;exact ⟨by simp,kDeviceO_mk (⟨(rd (vc.set va.toNat (⟨(rd vc va).ID,(rd vc va).Size,y19,(rd vc va).Late⟩:Device)) va).ID,(rd (vc.set va.toNat (⟨(rd vc va).ID,(rd vc va).Size,y19,(rd vc va).Late⟩:Device)) va).Size,(rd (vc.set va.toNat (⟨(rd vc va).ID,(rd vc va).Size,y19,(rd vc va).Late⟩:Device)) va).Free,([]:List Seg)⟩:Device) (q1.mono (fun _ _ ho=>Or.inl ho) (fun _ _ ho=>Or.inl ho)) Ow.nil⟩) trivial ⟨rfl,rfl,rfl⟩ rfl rfl e12 rfl rfl rfl rfl rfl ?_
 intro w84 x70 h320
 have sx70:=x70.size
 have h321:=h320.sub (l':=[(w5.heap.size,some w76.heap.size,some 40)]) (li':=[(w5.heap.size,some w82.heap.size,some 105)]) ⟨(.inl ⟨by omega,by omega,rfl⟩),trivial⟩ ⟨(.inl ⟨by omega,by omega,rfl⟩),trivial⟩
 refine RW.tell 0 (v':=.slice vo ((vc.set va.toNat (⟨(rd vc va).ID,(rd vc va).Size,y19,(rd vc va).Late⟩:Device)).set va.toNat (⟨(rd (vc.set va.toNat (⟨(rd vc va).ID,(rd vc va).Size,y19,(rd vc va).Late⟩:Device)) va).ID,(rd (vc.set va.toNat (⟨(rd vc va).ID,(rd vc va).Size,y19,(rd vc va).Late⟩:Device)) va).Size,(rd (vc.set va.toNat (⟨(rd vc va).ID,(rd vc va).Size,y19,(rd vc va).Late⟩:Device)) va).Free,([]:List Seg)⟩:Device)).length vp) (by simp only [List.length_set]) rfl (RW.tell 4 (v':=.slice vo ((vc.set va.toNat (⟨(rd vc va).ID,(rd vc va).Size,y19,(rd vc va).Late⟩:Device)).set va.toNat (⟨(rd (vc.set va.toNat (⟨(rd vc va).ID,(rd vc va).Size,y19,(rd vc va).Late⟩:Device)) va).ID,(rd (vc.set va.toNat (⟨(rd vc va).ID,(rd vc va).Size,y19,(rd vc va).Late⟩:Device)) va).Size,(rd (vc.set va.toNat (⟨(rd vc va).ID,(rd vc va).Size,y19,(rd vc va).Late⟩:Device)) va).Free,([]:List Seg)⟩:Device)).length vp) (by simp only [List.length_set]) rfl ?_)
 have h322:=h317.tL x70
 have h323:Box w84.heap b5 78 [.slice vo ((vc.set va.toNat (⟨(rd vc va).ID,(rd vc va).Size,y19,(rd vc va).Late⟩:Device)).set va.toNat (⟨(rd (vc.set va.toNat (⟨(rd vc va).ID,(rd vc va).Size,y19,(rd vc va).Late⟩:Device)) va).ID,(rd (vc.set va.toNat (⟨(rd vc va).ID,(rd vc va).Size,y19,(rd vc va).Late⟩:Device)) va).Size,(rd (vc.set va.toNat (⟨(rd vc va).ID,(rd vc va).Size,y19,(rd vc va).Late⟩:Device)) va).Free,([]:List Seg)⟩:Device)).length vp,.slice vz vy.length vA,iv vJ,iv vK,iv vL,iv vM,.slice vD vC.length vE,iv y2.Next]:=by simpa only [List.length_set] using h322
 refine RW.done ?_
 refine NW.norm_block (NW.next ?_)
 refine CW.lw 2 rfl (pu 2 rfl (RW.done ?_))
 have h324:=(((((((zu.ext x63).tB x64 h299).ext x65).ext x66).ext x67).ext x68).tL x69).tL x70
 have h325:=(((((((zv.ext x63).tB x64 h299).ext x65).ext x66).ext x67).ext x68).tL x69).tL x70
 have h326:=(((((((zw.ext x63).tB x64 h299).ext x65).ext x66).ext x67).ext x68).tL x69).tL x70
 have h327:=Ext.turn (Ext.turn ((((((zf.tr x63).tB x64).tr x65).tr x66).tr x67).tr x68) x69 ⟨by omega,trivial⟩) x70 ⟨by omega,trivial⟩
 have h328:=(((((((zx.ext x63).tB x64).ext x65).ext x66).ext x67).ext x68).tL x69).tL x70
 have h329:=(((((((zy.ext x63).tB x64).ext x65).ext x66).ext x67).ext x68).tL x69).tL x70
 exact NW.J fun a ha=>⟨n3,Nat.lt_succ_self n3,((vc.set va.toNat (⟨(rd vc va).ID,(rd vc va).Size,y19,(rd vc va).Late⟩:Device)).set va.toNat (⟨(rd (vc.set va.toNat (⟨(rd vc va).ID,(rd vc va).Size,y19,(rd vc va).Late⟩:Device)) va).ID,(rd (vc.set va.toNat (⟨(rd vc va).ID,(rd vc va).Size,y19,(rd vc va).Late⟩:Device)) va).Size,(rd (vc.set va.toNat (⟨(rd vc va).ID,(rd vc va).Size,y19,(rd vc va).Late⟩:Device)) va).Free,([]:List Seg)⟩:Device)),(w64 (va+1)),ha.sb,by omega,(h321.sb),h324,h325,h326,h327,(by (try simp only [List.length_set]) <;>omega),h328,h329,h323,H⟩
 refine CW.exit ?_
 refine NW.exit_then (NW.exit_then (NW.exit_hit ?_))
 refine NW.end_ ?_
 refine NW.ret0 rfl ⟨_,rfl,?_⟩
 refine RW.done (NW.next (CW.seq (CW.ord [0,1,3,7,0,15,63,127] (ofL [(0,.W),(1,.W),(2,.W),(3,.L)] (.two 4 .L (ofL [(5,.M),(6,.M),(7,.W)] .nil) 5 .M (ofL [(4,.L),(6,.M),(7,.W)] .nil))) mixed (by kernel_rfl) ?_)))
 intro w85 x71
 have sx71:=x71.size
 refine pu 3 rfl ?_
 have h330:=zL.ext x71
 refine RW.lw tk h330 ?_
 refine RW.two ?_ ?_
 have h331:=zy.ext x71
 refine RW.lw tk h331 ?_
 have h332:=zx.ext x71
 refine RW.sf tk h332 fun w86 x72 sx72 h334=>?_
 have h335:=h331.tB x72
 refine RW.sf tk h335 fun w87 x73 sx73 h337=>?_
 refine pu 1 rfl (RW.done (NW.next (CW.ret ?_)))
 have h338:=h334.tB x73
 have h339:=((h296.ext x71).tB x72 h332).tB x73 h335
 have h340:=((zv.ext x71).tB x72 h332).tB x73 h335
 have h341:=((zw.ext x71).tB x72 h332).tB x73 h335
 have h342:=((zu.ext x71).tB x72 h332).tB x73 h335
 obtain rfl:=Option.some.inj H
 have h343:=((zf.tr x71).tB x72).tB x73
 exact NW.ret3 rfl (resOne_cell tk (h338.at 0) rfl rfl rfl) (resOne_cell tk (h337.at 0) rfl rfl rfl) (by rfl) ⟨vo,vp,vz,vA,vD,vE,vm,vn,rfl,h343,(h339.sub (l':=[(w.heap.size,none,some 40)]) (li':=[(w.heap.size,none,some 105)]) ⟨(.inl ⟨by omega,trivial,rfl⟩),trivial⟩ ⟨(.inl ⟨by omega,trivial,rfl⟩),trivial⟩),(h340.sub (l':=[(w.heap.size,none,some 26)]) (li':=[(w.heap.size,none,some 66)]) ⟨(.inl ⟨by omega,trivial,rfl⟩),trivial⟩ ⟨(.inl ⟨by omega,trivial,rfl⟩),trivial⟩),(h341.sub (l':=[(w.heap.size,none,some 66)]) (li':=[]) ⟨(.inl ⟨by omega,trivial,rfl⟩),⟨(.inl ⟨by omega,trivial,rfl⟩),trivial⟩⟩ trivial),(h342.sub (l':=[(w.heap.size,none,some 124)]) (li':=[]) ⟨(.inl ⟨by omega,trivial,rfl⟩),trivial⟩ trivial)⟩
 have h33101:=zx.ext x71
 refine RW.sf tk h33101 fun w86 x72 sx72 h33301=>?_
 have h33401:=(zy.ext x71).tB x72
 refine RW.lw tk h33401 ?_
 refine RW.sf tk h33401 fun w87 x73 sx73 h33601=>?_
 refine pu 1 rfl (RW.done (NW.next (CW.ret ?_)))
 have h33701:=h33301.tB x73
 have h33801:=((h296.ext x71).tB x72 h33101).tB x73 h33401
 have h33901:=((zv.ext x71).tB x72 h33101).tB x73 h33401
 have h34001:=((zw.ext x71).tB x72 h33101).tB x73 h33401
 have h34101:=((zu.ext x71).tB x72 h33101).tB x73 h33401
 obtain rfl:=Option.some.inj H
 have h34201:=((zf.tr x71).tB x72).tB x73
 exact NW.ret3 rfl (resOne_cell tk (h33701.at 0) rfl rfl rfl) (resOne_cell tk (h33601.at 0) rfl rfl rfl) (by rfl) ⟨vo,vp,vz,vA,vD,vE,vm,vn,rfl,h34201,(h33801.sub (l':=[(w.heap.size,none,some 40)]) (li':=[(w.heap.size,none,some 105)]) ⟨(.inl ⟨by omega,trivial,rfl⟩),trivial⟩ ⟨(.inl ⟨by omega,trivial,rfl⟩),trivial⟩),(h33901.sub (l':=[(w.heap.size,none,some 26)]) (li':=[(w.heap.size,none,some 66)]) ⟨(.inl ⟨by omega,trivial,rfl⟩),trivial⟩ ⟨(.inl ⟨by omega,trivial,rfl⟩),trivial⟩),(h34001.sub (l':=[(w.heap.size,none,some 66)]) (li':=[]) ⟨(.inl ⟨by omega,trivial,rfl⟩),⟨(.inl ⟨by omega,trivial,rfl⟩),trivial⟩⟩ trivial),(h34101.sub (l':=[(w.heap.size,none,some 124)]) (li':=[]) ⟨(.inl ⟨by omega,trivial,rfl⟩),trivial⟩ trivial)⟩
 refine CW.seq (CW.lw 2 rfl (pu 2 rfl (RW.done (NW.next (CW.ret (NW.ret_then ?_))))))
 refine NW.ret2 rfl (by rfl) (by rfl) ⟨_,rfl,j1,?_⟩
 refine pu 5 rfl (RW.done (NW.next (CW.seq (CW.block (CW.seq (CW.lw 11 rfl (pu 11 rfl ?_)))))))
 refine RW.done (NW.next (CW.cond_t rfl rfl (CW.seq (CW.lex [.L,.M,.M,.W] rfl (RW.lw tk j3 ?_)))))
 refine RW.sf tk j3 fun w88 x74 sx74 h347=>?_
 have h348:=j4.tB x74
 refine RW.sf tk h348 fun w89 x75 sx75 h350=>?_
 refine pu 1 rfl (RW.done (NW.next (CW.ret ?_)))
 refine NW.ret_block (NW.ret_then ?_)
 have h351:=h347.tB x75
 obtain rfl:=Option.some.inj H
 have h352:=(j2.tB x74).tB x75
 exact NW.ret3 rfl (resOne_cell tk (h351.at 0) rfl rfl rfl) (resOne_cell tk (h350.at 0) rfl rfl rfl) (by rfl) ⟨none,0,none,0,none,0,none,0,rfl,h352,Ow.nil,Ow.nil,Ow.nil,Ow.nil⟩
theorem l10_Pool.calls {p0:Int} {r:Pool} {w:World} (H:l10_Pool.f p0=some r):
 Calls Tryz.prog 27 #[iv p0] w fun e w'=>∃(B1:Option Addr) (d1:Nat) (B2:Option Addr) (d2:Nat) (B3:Option Addr) (d3:Nat),e=.returned (.agg #[.slice B1 r.Devices.length d1,.slice B2 r.Tables.length d2,iv r.Job.Dev,iv r.Job.At,iv r.Job.Table.Dev,iv r.Job.Table.Size,.slice B3 r.Job.Table.List_.length d3,iv r.Next])∧Ext w w'∧Ow kDeviceO 40 w'.heap (okL [(w.heap.size,none,some 40)]) (okL [(w.heap.size,none,some 105)]) B1 d1 r.Devices∧Ow kTableO 26 w'.heap (okL [(w.heap.size,none,some 26)]) (okL [(w.heap.size,none,some 66)]) B2 d2 r.Tables∧Ow kEntry 66 w'.heap (okL [(w.heap.size,none,some 66)]) (okL []) B3 d3 r.Job.Table.List_:=by
 have x0:Ext w w:=Upd.refl _ w
 unfold l10_Pool.f at H
 refine cst Tryz.func27 12 ?_
 refine CW.seq (CW.lex [.X] rfl (RW.al tk fun b1 w1 x1 sx1 l1 ltb1 h1=>?_))
 refine RW.done (NW.next (CW.seq (CW.lex [.W,.W,.W,.W,.W,.X,.W,.X,.W,.M] rfl (pu 5 rfl (RW.buildSlice (cs:=[iv 0,iv p0]) tk (.inl rfl) ⟨rfl,rfl,rfl,rfl⟩ rfl rfl rfl rfl rfl rfl rfl ?_)))))
 intro b2 w2 x2 l2 h2
 have sx2:=x2.size
 have ltb2:=h2.lt
 refine pu 1 rfl (RW.buildSlice (cs:=[iv 1,iv p0,.slice none 0 0,.slice none 0 0,iv 2,iv p0,.slice (some ⟨b2,0,none⟩) 1 1,.slice none 0 0]) tk (.inl rfl) ⟨rfl,rfl,rfl,rfl⟩ rfl rfl rfl rfl rfl rfl rfl ?_)
 intro b3 w3 x3 l3 h3
 have sx3:=x3.size
 have ltb3:=h3.lt
 refine pu 1 rfl ?_
 have h4:=h2.ext x3
 have h5:Ow kSeg 105 w3.heap (okL [(w1.heap.size,some w2.heap.size,some 105)]) (okL []) (some ⟨b2,0,none⟩) 1 ([(⟨0,p0⟩:Seg)]:List Seg):=Ow.of_box h4 (.inl ⟨l2,ltb2,rfl⟩) (Nat.le_of_ble_eq_true rfl) (Ch.cons (d:=kSeg) (cs:=[iv 0,iv p0]) (x:=(⟨0,p0⟩:Seg)) (kSeg_mk (⟨0,p0⟩:Seg)) Ch.nil)
 have h6:Ow kDeviceO 40 w3.heap (okL [(w2.heap.size,some w3.heap.size,some 40)]) (okL [(w1.heap.size,some w2.heap.size,some 105)]) (some ⟨b3,0,none⟩) 2 ([(⟨1,p0,([]:List Seg),([]:List Seg)⟩:Device),(⟨2,p0,([(⟨0,p0⟩:Seg)]:List Seg),([]:List Seg)⟩:Device)]:List Device):=Ow.of_box h3 (.inl ⟨l3,ltb3,rfl⟩) (Nat.le_of_ble_eq_true rfl) (Ch.cons (d:=kDeviceO) (cs:=[iv 1,iv p0,.slice none 0 0,.slice none 0 0]) (x:=(⟨1,p0,([]:List Seg),([]:List Seg)⟩:Device)) (kDeviceO_mk (⟨1,p0,([]:List Seg),([]:List Seg)⟩:Device) Ow.nil Ow.nil) (Ch.cons (d:=kDeviceO) (cs:=[iv 2,iv p0,.slice (some ⟨b2,0,none⟩) ([(⟨0,p0⟩:Seg)]:List Seg).length 1,.slice none 0 0]) (x:=(⟨2,p0,([(⟨0,p0⟩:Seg)]:List Seg),([]:List Seg)⟩:Device)) (kDeviceO_mk (⟨2,p0,([(⟨0,p0⟩:Seg)]:List Seg),([]:List Seg)⟩:Device) (h5.off (l':=[(w1.heap.size,some w2.heap.size,some 105)]) h3 ⟨.inl (nq rfl),trivial⟩ trivial ⟨(.inl ⟨by omega,by omega,rfl⟩),trivial⟩ trivial) Ow.nil) Ch.nil))
 have h7:=(h1.ext x2).ext x3
 refine RW.sf tk h7 fun w4 x4 sx4 h9=>?_
 refine RW.done (NW.next (CW.ret ?_))
 have h10:=h6.tB x4 h7
 obtain rfl:=Option.some.inj H
 have h11:=(((x0.tr x1).tr x2).tr x3).tB x4
 exact NW.ret1 rfl (resOne_cell tk (h9.at 0) rfl rfl rfl) ⟨(some ⟨b3,0,none⟩),2,none,0,none,0,rfl,h11,(h10.sub (l':=[(w.heap.size,none,some 40)]) (li':=[(w.heap.size,none,some 105)]) ⟨(.inl ⟨by omega,trivial,rfl⟩),trivial⟩ ⟨(.inl ⟨by omega,trivial,rfl⟩),trivial⟩),Ow.nil,Ow.nil⟩
theorem l10_wakes.calls {k:Nat} {r:Bool} {w:World} (H:l10_wakes.f k=some r) {gT:Nat} (hG:Box w.heap 0 gT (arrI .u8 64 tz)):
 Calls Tryz.prog 9 #[] w fun e w'=>e=.returned (.bool r)∧Ext w w':=by
 have hG0:0<w.heap.size:=hG.lt
 have x0:Ext w w:=Upd.refl _ w
 unfold l10_wakes.f at H
 refine cst Tryz.func9 50 ?_
 refine CW.seq (CW.lw 1 rfl (pu 1 rfl (RW.done (NW.next (CW.seq (CW.lex [.X,.X,.W,.W,.W,.X,.M,.W] rfl ?_))))))
 obtain ⟨y1,h1,H⟩:=bind_some H
 refine RW.cl ent27 (l10_Pool.calls h1) ?_
 rintro _ w1 ⟨A1,c_1,A2,c_2,A3,c_3,rfl,x1,h2,h3,h4⟩
 refine ⟨_,rfl,x1,?_⟩
 have sx1:=x1.size
 have h5:Ow kDeviceO 40 w1.heap (okL [(w.heap.size,some w1.heap.size,some 40)]) (okL [(w.heap.size,some w1.heap.size,some 105)]) A1 c_1 y1.Devices:=h2.close
 have h6:Ow kTableO 26 w1.heap (okL [(w.heap.size,some w1.heap.size,some 26)]) (okL [(w.heap.size,some w1.heap.size,some 66)]) A2 c_2 y1.Tables:=h3.close
 have h7:Ow kEntry 66 w1.heap (okL [(w.heap.size,some w1.heap.size,some 66)]) (okL []) A3 c_3 y1.Job.Table.List_:=h4.close
 have h8:=hG.ext x1
 obtain ⟨y2,h9,H⟩:=bind_some H
 refine RW.cl ent11 (move_Remove.calls h9 (h5.all.to kDevice_ro rfl) h5.len (h6.all.to kTable_ro rfl) h6.len h7.all h7.len h8) ?_
 rintro _ w2 ⟨A4,c_4,A5,c_5,A6,c_6,rfl,x2,h10,h11,h12⟩
 refine ⟨_,rfl,x2,?_⟩
 have sx2:=x2.size
 have h13:Ow kDeviceO 40 w2.heap (okL [(w1.heap.size,some w2.heap.size,some 40)]) (okL [(w1.heap.size,some w2.heap.size,some 105)]) A4 c_4 y2.1.Devices:=h10.close
 have h14:Ow kTableO 26 w2.heap (okL [(w1.heap.size,some w2.heap.size,some 26)]) (okL [(w1.heap.size,some w2.heap.size,some 66)]) A5 c_5 y2.1.Tables:=h11.close
 have h15:Ow kEntry 66 w2.heap (okL [(w1.heap.size,some w2.heap.size,some 66)]) (okL []) A6 c_6 y2.1.Job.Table.List_:=h12.close
 refine pu 3 rfl (RW.al tk fun b1 w3 x3 sx3 l1 ltb1 h16=>?_)
 refine RW.sf tk h16 fun w4 x4 sx4 h18=>?_
 refine pu 1 rfl (RW.done (NW.next (CW.seq (CW.lex [.L,.X,.W,.W,.W,.W,.M,.W,.W] rfl (RW.lw tk h18 ?_)))))
 have h19:=(h13.ext x3).tB x4 h16
 have h20:=(h14.ext x3).tB x4 h16
 have h21:=(h15.ext x3).tB x4 h16
 have h22:=((h8.ext x2).ext x3).tB x4
 obtain ⟨y3,h23,H⟩:=bind_some H
 refine RW.cl ent16 (move_Step.calls h23 (h19.all.to kDevice_ro rfl) h19.len (h20.all.to kTable_ro rfl) h20.len h21.all h21.len h22) ?_
 rintro _ w5 ⟨A7,c_7,A8,c_8,A9,c_9,A10,c_10,rfl,x5,h24,h25,h26,h27⟩
 refine ⟨_,rfl,x5,?_⟩
 have sx5:=x5.size
 have h28:Ow kDeviceO 40 w5.heap (okL [(w4.heap.size,some w5.heap.size,some 40)]) (okL [(w4.heap.size,some w5.heap.size,some 105)]) A7 c_7 y3.1.Devices:=h24.close
 have h29:Ow kTableO 26 w5.heap (okL [(w4.heap.size,some w5.heap.size,some 26)]) (okL [(w4.heap.size,some w5.heap.size,some 66)]) A8 c_8 y3.1.Tables:=h25.close
 have h30:Ow kEntry 66 w5.heap (okL [(w4.heap.size,some w5.heap.size,some 66)]) (okL []) A9 c_9 y3.1.Job.Table.List_:=h26.close
 have h31:Ow kPair 124 w5.heap (okL [(w4.heap.size,some w5.heap.size,some 124)]) (okL []) A10 c_10 y3.2.1:=h27.close
 refine pu 4 rfl ?_
 have h32:=h18.ext x5
 refine RW.sf tk h32 fun w6 x6 sx6 h34=>?_
 refine pu 2 rfl (RW.done (NW.next (CW.seq (CW.lex [.W,.X,.W,.W,.W,.X,.W,.W,.W,.W,.W,.W,.W,.W,.W,.L,.W,.W,.W,.W,.W,.L,.W,.W,.W,.W,.W,.L,.W,.W,.L,.W,.W,.W,.W] rfl (pu 1 rfl (RW.cp H ent12 (fun _ h=>l10_num.calls h) fun y4 w7 x7 sx7 H=>?_))))))
 refine pu 2 rfl ?_
 have j1:=((((((x0.tr x1).tr x2).tr x3).tB x4).tr x5).tB x6).tr x7
 refine RW.i 19 H (fun c1 H=>?_) fun c1 H=>?_
 refine pu 1 rfl (RW.cp H ent12 (fun _ h=>l10_num.calls h) fun y5 w8 x8 sx8 H=>?_)
 refine pu 3 rfl ?_
 have j2:=j1.tr x8
 refine RW.i 24 H (fun c2 H=>?_) fun c2 H=>?_
 refine pu 5 rfl (RW.i 29 H (fun c3 H=>?_) fun c3 H=>?_)
 refine pu 1 rfl ?_
 have h37:=(h34.ext x7).ext x8
 refine RW.lb tk [.slice A7 y3.1.Devices.length c_7] h37 0 ?_
 refine pu 4 rfl (RW.i 35 H (fun c4 H=>?_) fun c4 H=>?_)
 refine pu 1 rfl (RW.lb tk [.slice A8 y3.1.Tables.length c_8] h37 1 ?_)
 refine pu 4 rfl (RW.i 41 H (fun c5 H=>?_) fun c5 H=>?_)
 refine pu 1 rfl (RW.lb tk [.slice A8 y3.1.Tables.length c_8] h37 1 ?_)
 obtain ⟨g1,H⟩:=guard_some H
 have h38:=((h29.tB x6 h32).ext x7).ext x8
 obtain ⟨ad1,A11,c_11,e1,a1,h39⟩:=kTableO_ato h38 g1.1 g1.2
 refine RW.ix tk g1 e1 ?_
 refine pu 1 rfl (RW.ld tk [.slice A11 ((rd y3.1.Tables 0).List_).length c_11] (a1.fld 2) ?_)
 refine pu 4 rfl (RW.done (NW.next (CW.ret ?_)))
 obtain rfl:=Option.some.inj H
 exact NW.r1 ⟨rfl,j2⟩
 refine pu 9 rfl (RW.done (NW.next (CW.ret ?_)))
 obtain rfl:=Option.some.inj H
 exact NW.r1 ⟨rfl,j2⟩
 refine pu 15 rfl (RW.done (NW.next (CW.ret ?_)))
 obtain rfl:=Option.some.inj H
 exact NW.r1 ⟨rfl,j2⟩
 refine pu 21 rfl (RW.done (NW.next (CW.ret ?_)))
 obtain rfl:=Option.some.inj H
 exact NW.r1 ⟨rfl,j2⟩
 refine pu 26 rfl (RW.done (NW.next (CW.ret ?_)))
 obtain rfl:=Option.some.inj H
 exact NW.r1 ⟨rfl,j2⟩
 refine pu 31 rfl (RW.done (NW.next (CW.ret ?_)))
 obtain rfl:=Option.some.inj H
 exact NW.r1 ⟨rfl,j1⟩
theorem r0_CopySegs.calls {k:Nat} {A1:Option Addr} {c_1:Nat} {p0:List Seg} {r:(List Seg)} {w:World} (H:r0_CopySegs.f k p0=some r) (hs1:Sl kSeg w.heap okAll A1 p0) (hl1:p0.length≤c_1):
 Calls Tryz.prog 127 #[.slice A1 p0.length c_1] w fun e w'=>∃(B1:Option Addr) (d1:Nat),e=.returned (.slice B1 r.length d1)∧Ext w w'∧Ow kSeg 105 w'.heap (okL [(w.heap.size,none,some 105)]) (okL []) B1 d1 r:=by
 have h1:Sl kSeg w.heap (okL [(0,some w.heap.size,none)]) A1 p0:=hs1.old _ rfl
 have x0:Ext w w:=Upd.refl _ w
 unfold r0_CopySegs.f at H
 refine cst Tryz.func127 19 ?_
 refine CW.seq (CW.lw 1 rfl (pu 1 rfl (RW.done (NW.next (CW.seq (CW.lw 1 rfl (pu 1 rfl ?_)))))))
 refine RW.done (NW.next (CW.seq (CW.seq (CW.lw 1 rfl (pu 1 rfl (RW.done (NW.next ?_)))))))
 refine CW.block ?_
 refine CW.loop (fun n1 a w1=>∃(vb:List Seg) (vc:Option Addr) (vd:Nat) (va:Int),Sat 19 [(0,.slice A1 p0.length c_1),(3,.slice vc vb.length vd),(4,iv va)] a∧w.heap.size≤w1.heap.size∧Ow kSeg 105 w1.heap (okL [(w.heap.size,none,some 105)]) (okL []) vc vd vb∧Ext w w1∧r0_CopySegs.l0 p0 n1 vb va=some r) k ?_ ?_
 exact fun a ha=>⟨([]:List Seg),none,0,0,ha.sb,by omega,Ow.nil,x0,H⟩
 rintro n1 a w1 ⟨vb,vc,vd,va,hS,hle,vf,ve,H⟩ hp
 obtain _|n1:=n1
 cases H
 rw [r0_CopySegs.l0] at H
 refine CW.go hp hS ?_
 have h2:Ow kSeg 105 w1.heap (okL [(w.heap.size,some w1.heap.size,some 105)]) (okL []) vc vd vb:=vf.close
 have xt1:Ext w1 w1:=Upd.refl _ _
 refine CW.seq (CW.seq (CW.lw 4 rfl (pu 4 rfl (RW.done (NW.next (CW.i H (fun c1 H=>?_) fun c1 H=>?_))))))
 refine CW.skip (NW.next (CW.seq (CW.block (CW.lex [.W,.W,.W,.W,.L,.X,.M,.W] rfl (pu 3 rfl ?_)))))
 obtain ⟨g1,H⟩:=guard_some H
 obtain ⟨ad1,e1,a1⟩:=kSeg_at (h1.ext ve) g1.1 g1.2
 refine RW.ix tk g1 e1 ?_
 refine RW.ld tk _ a1 ?_
 refine RW.buildSlice (cs:=[iv ((rd p0 va).At),iv ((rd p0 va).Len)]) tk (.inl rfl) ⟨rfl,rfl,rfl,rfl⟩ rfl rfl rfl rfl rfl rfl rfl ?_
 intro b1 w2 x1 l1 h3
 have sx1:=x1.size
 have ltb1:=h3.lt
 have h4:=h2.ext x1
 obtain ⟨g2,H⟩:=guard_some H
 refine RW.append1L (d:=kSeg) (v:=(rd p0 va)) (l:=[(w.heap.size,some w1.heap.size,some 105)]) (li:=[]) (ly:=[]) (xs:=vb) tk h4 h3 (kSeg_mk (rd p0 va)) trivial (by simp only [maxLen];omega) g2 ⟨rfl,rfl,rfl,rfl⟩ rfl rfl rfl rfl rfl rfl rfl ?_
 intro A2 c_2 w3 x2 h5
 have sx2:=x2.size
 have h6:=h5.close.sub (l':=[(w.heap.size,some w3.heap.size,some 105)]) (li':=[]) ⟨(.inl ⟨by omega,by omega,rfl⟩),⟨(.inl ⟨by omega,by omega,rfl⟩),trivial⟩⟩ trivial
 refine pu 1 rfl (RW.done ?_)
 refine NW.norm_block (NW.next ?_)
 refine CW.lw 3 rfl (pu 3 rfl (RW.done ?_))
 have h7:=Ext.turn (ve.tr x1) x2 ⟨by omega,trivial⟩
 exact NW.J fun a ha=>⟨n1,Nat.lt_succ_self n1,(vb++[(rd p0 va)]),A2,c_2,(w64 (va+1)),ha.sb,by omega,(h6.sb),h7,H⟩
 refine CW.exit ?_
 refine NW.exit_then (NW.exit_then (NW.exit_hit ?_))
 refine NW.next (CW.seq (CW.lw 2 rfl (pu 2 rfl (RW.done (NW.next (CW.ret ?_))))))
 obtain rfl:=Option.some.inj H
 exact NW.r1 ⟨vc,vd,rfl,ve,(h2.sub (l':=[(w.heap.size,none,some 105)]) (li':=[]) ⟨(.inl ⟨by omega,trivial,rfl⟩),trivial⟩ trivial)⟩
theorem r0_CopyDevice.calls {k:Nat} {p0:Device} {A1:Option Addr} {c_1:Nat} {A2:Option Addr} {c_2:Nat} {r:Device} {w:World} (H:r0_CopyDevice.f k p0=some r) (hs1:Sl kSeg w.heap okAll A1 p0.Free) (hl1:p0.Free.length≤c_1) (hs2:Sl kSeg w.heap okAll A2 p0.Late) (hl2:p0.Late.length≤c_2):
 Calls Tryz.prog 92 #[.agg #[iv p0.ID,iv p0.Size,.slice A1 p0.Free.length c_1,.slice A2 p0.Late.length c_2]] w fun e w'=>∃(B1:Option Addr) (d1:Nat) (B2:Option Addr) (d2:Nat),e=.returned (.agg #[iv r.ID,iv r.Size,.slice B1 r.Free.length d1,.slice B2 r.Late.length d2])∧Ext w w'∧Ow kSeg 105 w'.heap (okL [(w.heap.size,none,some 105)]) (okL []) B1 d1 r.Free∧Ow kSeg 105 w'.heap (okL [(w.heap.size,none,some 105)]) (okL []) B2 d2 r.Late:=by
 have h1:Sl kSeg w.heap (okL [(0,some w.heap.size,none)]) A1 p0.Free:=hs1.old _ rfl
 have h2:Sl kSeg w.heap (okL [(0,some w.heap.size,none)]) A2 p0.Late:=hs2.old _ rfl
 have x0:Ext w w:=Upd.refl _ w
 unfold r0_CopyDevice.f at H
 refine cst Tryz.func92 14 ?_
 refine CW.seq (CW.lex [.X,.X] rfl (RW.bx fun b1 w1 x1 sx1 l1 ltb1 h3=>?_))
 refine RW.al tk fun b2 w2 x2 sx2 l2 ltb2 h4=>?_
 refine RW.done (NW.next (CW.seq (CW.lex [.L,.X,.M] rfl ?_)))
 have h5:=h3.ext x2
 refine RW.lw tk h5 ?_
 refine RW.al tk fun b3 w3 x3 sx3 l3 ltb3 h6=>?_
 refine RW.sf tk h6 fun w4 x4 sx4 h8=>?_
 refine RW.done (NW.next (CW.seq (CW.lex [.W,.L,.X,.W,.M] rfl (pu 1 rfl ?_))))
 have h9:=(h5.ext x3).tB x4
 refine RW.lb tk [.slice A1 p0.Free.length c_1] h9 2 ?_
 have h10:=(((h1.ext x1).ext x2).ext x3).turnB x4 h6 ⟨.inr (by omega),trivial⟩
 obtain ⟨y1,h11,H⟩:=bind_some H
 refine RW.cl ent127 (r0_CopySegs.calls h11 h10.all hl1) ?_
 rintro _ w5 ⟨A3,c_3,rfl,x5,h12⟩
 refine ⟨_,rfl,x5,?_⟩
 have sx5:=x5.size
 have h13:Ow kSeg 105 w5.heap (okL [(w4.heap.size,some w5.heap.size,some 105)]) (okL []) A3 c_3 y1:=h12.close
 refine pu 1 rfl ?_
 have h14:=h8.ext x5
 refine RW.sp tk h14 [iv p0.ID,iv p0.Size,.slice A3 y1.length c_3,.slice A2 p0.Late.length c_2] fun w6 x6 sx6 h16=>?_
 refine RW.done (NW.next (CW.seq (CW.lex [.W,.L,.X,.W,.M] rfl (pu 1 rfl ?_))))
 have h17:=(h9.ext x5).tB x6
 refine RW.lb tk [.slice A2 p0.Late.length c_2] h17 3 ?_
 have h18:=(((((h2.ext x1).ext x2).ext x3).turnB x4 h6 ⟨.inr (by omega),trivial⟩).ext x5).turnB x6 h14 ⟨.inr (by omega),trivial⟩
 obtain ⟨y2,h19,H⟩:=bind_some H
 refine RW.cl ent127 (r0_CopySegs.calls h19 h18.all hl2) ?_
 rintro _ w7 ⟨A4,c_4,rfl,x7,h20⟩
 refine ⟨_,rfl,x7,?_⟩
 have sx7:=x7.size
 have h21:Ow kSeg 105 w7.heap (okL [(w6.heap.size,some w7.heap.size,some 105)]) (okL []) A4 c_4 y2:=h20.close
 refine pu 1 rfl ?_
 have h22:=h16.ext x7
 refine RW.sp tk h22 [iv p0.ID,iv p0.Size,.slice A3 y1.length c_3,.slice A4 y2.length c_4] fun w8 x8 sx8 h24=>?_
 refine RW.done (NW.next (CW.seq (CW.lex [.L,.M] rfl (RW.lw tk h24 ?_))))
 have h25:=(((((h4.ext x3).tB x4).ext x5).tB x6).ext x7).tB x8
 refine RW.sf tk h25 fun w9 x9 sx9 h27=>?_
 refine RW.done (NW.next (CW.ret ?_))
 have h28:=(((h13.tB x6 h14).ext x7).tB x8 h22).tB x9 h25
 have h29:=(h21.tB x8 h22).tB x9 h25
 obtain rfl:=Option.some.inj H
 have h30:=((((((((x0.tr x1).tr x2).tr x3).tB x4).tr x5).tB x6).tr x7).tB x8).tB x9
 exact NW.ret1 rfl (resOne_cell tk (h27.at 0) rfl rfl rfl) ⟨A3,c_3,A4,c_4,rfl,h30,(h28.sub (l':=[(w.heap.size,none,some 105)]) (li':=[]) ⟨(.inl ⟨by omega,trivial,rfl⟩),trivial⟩ trivial),(h29.sub (l':=[(w.heap.size,none,some 105)]) (li':=[]) ⟨(.inl ⟨by omega,trivial,rfl⟩),trivial⟩ trivial)⟩
theorem r0_CopyDevices.calls {k:Nat} {A1:Option Addr} {c_1:Nat} {p0:List Device} {r:(List Device)} {w:World} (H:r0_CopyDevices.f k p0=some r) (hs1:Sl kDeviceR w.heap okAll A1 p0) (hl1:p0.length≤c_1):
 Calls Tryz.prog 67 #[.slice A1 p0.length c_1] w fun e w'=>∃(B1:Option Addr) (d1:Nat),e=.returned (.slice B1 r.length d1)∧Ext w w'∧Ow kDeviceO 40 w'.heap (okL [(w.heap.size,none,some 40)]) (okL [(w.heap.size,none,some 105)]) B1 d1 r:=by
 have h1:Sl kDeviceR w.heap (okL [(0,some w.heap.size,none)]) A1 p0:=hs1.old _ rfl
 have x0:Ext w w:=Upd.refl _ w
 unfold r0_CopyDevices.f at H
 refine cst Tryz.func67 20 ?_
 refine CW.seq (CW.lw 1 rfl (pu 1 rfl (RW.done (NW.next (CW.seq (CW.lw 1 rfl (pu 1 rfl ?_)))))))
 refine RW.done (NW.next (CW.seq (CW.seq (CW.lw 1 rfl (pu 1 rfl (RW.done (NW.next ?_)))))))
 refine CW.block ?_
 refine CW.loop (fun n1 a w1=>∃(va:List Device) (vb:Option Addr) (vc:Nat) (vd:Int),Sat 20 [(0,.slice A1 p0.length c_1),(3,.slice vb va.length vc),(4,iv vd)] a∧w.heap.size≤w1.heap.size∧Ow kDeviceO 40 w1.heap (okL [(w.heap.size,none,some 40)]) (okL [(w.heap.size,none,some 105)]) vb vc va∧Ext w w1∧r0_CopyDevices.l0 p0 k n1 va vd=some r) k ?_ ?_
 exact fun a ha=>⟨([]:List Device),none,0,0,ha.sb,by omega,Ow.nil,x0,H⟩
 rintro n1 a w1 ⟨va,vb,vc,vd,hS,hle,vf,ve,H⟩ hp
 obtain _|n1:=n1
 cases H
 rw [r0_CopyDevices.l0] at H
 refine CW.go hp hS ?_
 have h2:Ow kDeviceO 40 w1.heap (okL [(w.heap.size,some w1.heap.size,some 40)]) (okL [(w.heap.size,some w1.heap.size,some 105)]) vb vc va:=vf.close
 have xt1:Ext w1 w1:=Upd.refl _ _
 refine CW.seq (CW.seq (CW.lw 4 rfl (pu 4 rfl (RW.done (NW.next (CW.i H (fun c1 H=>?_) fun c1 H=>?_))))))
 refine CW.skip (NW.next (CW.seq (CW.block (CW.lex [.W,.W,.W,.W,.L,.X,.X,.M,.W] rfl (pu 3 rfl ?_)))))
 obtain ⟨g1,H⟩:=guard_some H
 obtain ⟨ad1,A2,c_2,A3,c_3,e1,a1,l1,h3,l2,h4⟩:=kDeviceR_at (h1.ext ve) g1.1 g1.2
 refine RW.ix tk g1 e1 ?_
 refine RW.ld tk _ a1 ?_
 obtain ⟨y1,h5,H⟩:=bind_some H
 refine RW.cl ent92 (r0_CopyDevice.calls h5 h3.all l1 h4.all l2) ?_
 rintro _ w2 ⟨A4,c_4,A5,c_5,rfl,x1,h6,h7⟩
 refine ⟨_,rfl,x1,?_⟩
 have sx1:=x1.size
 have h8:Ow kSeg 105 w2.heap (okL [(w1.heap.size,some w2.heap.size,some 105)]) (okL []) A4 c_4 y1.Free:=h6.close
 have h9:Ow kSeg 105 w2.heap (okL [(w1.heap.size,some w2.heap.size,some 105)]) (okL []) A5 c_5 y1.Late:=h7.close
 refine RW.buildSlice (cs:=[iv y1.ID,iv y1.Size,.slice A4 y1.Free.length c_4,.slice A5 y1.Late.length c_5]) tk (.inl rfl) ⟨rfl,rfl,rfl,rfl⟩ rfl rfl rfl rfl rfl rfl rfl ?_
 intro b1 w3 x2 l3 h10
 have sx2:=x2.size
 have ltb1:=h10.lt
 have h11:=(h2.ext x1).ext x2
 have h12:=h8.ext x2
 have h13:=h9.ext x2
 obtain ⟨g2,H⟩:=guard_some H
 refine RW.append1L (d:=kDeviceO) (v:=y1) (l:=[(w.heap.size,some w1.heap.size,some 40)]) (li:=[(w.heap.size,some w1.heap.size,some 105)]) (ly:=[(w1.heap.size,some w2.heap.size,some 105)]) (xs:=va) tk h11 h10 (kDeviceO_mk y1 (h12.sub (l':=[(w1.heap.size,some w2.heap.size,some 105)]) (li':=[(w1.heap.size,some w2.heap.size,some 105)]) ⟨(.inl ⟨by omega,by omega,rfl⟩),trivial⟩ trivial) (h13.sub (l':=[(w1.heap.size,some w2.heap.size,some 105)]) (li':=[(w1.heap.size,some w2.heap.size,some 105)]) ⟨(.inl ⟨by omega,by omega,rfl⟩),trivial⟩ trivial)) ⟨⟨.inl (nq rfl),trivial⟩,trivial⟩ (by simp only [maxLen];omega) g2 ⟨rfl,rfl,rfl,rfl⟩ rfl rfl rfl rfl rfl rfl rfl ?_
 intro A6 c_6 w4 x3 h14
 have sx3:=x3.size
 have h15:=h14.close.sub (l':=[(w.heap.size,some w4.heap.size,some 40)]) (li':=[(w.heap.size,some w2.heap.size,some 105)]) ⟨(.inl ⟨by omega,by omega,rfl⟩),⟨(.inl ⟨by omega,by omega,rfl⟩),trivial⟩⟩ ⟨(.inl ⟨by omega,by omega,rfl⟩),⟨(.inl ⟨by omega,by omega,rfl⟩),trivial⟩⟩
 refine pu 1 rfl (RW.done ?_)
 refine NW.norm_block (NW.next ?_)
 refine CW.lw 3 rfl (pu 3 rfl (RW.done ?_))
 have h16:=Ext.turn ((ve.tr x1).tr x2) x3 ⟨by omega,trivial⟩
 exact NW.J fun a ha=>⟨n1,Nat.lt_succ_self n1,(va++[y1]),A6,c_6,(w64 (vd+1)),ha.sb,by omega,(h15.sb),h16,H⟩
 refine CW.exit ?_
 refine NW.exit_then (NW.exit_then (NW.exit_hit ?_))
 refine NW.next (CW.seq (CW.lw 2 rfl (pu 2 rfl (RW.done (NW.next (CW.ret ?_))))))
 obtain rfl:=Option.some.inj H
 exact NW.r1 ⟨vb,vc,rfl,ve,(h2.sub (l':=[(w.heap.size,none,some 40)]) (li':=[(w.heap.size,none,some 105)]) ⟨(.inl ⟨by omega,trivial,rfl⟩),trivial⟩ ⟨(.inl ⟨by omega,trivial,rfl⟩),trivial⟩)⟩
theorem r0_CopyEntries.calls {k:Nat} {A1:Option Addr} {c_1:Nat} {p0:List Entry} {r:(List Entry)} {w:World} (H:r0_CopyEntries.f k p0=some r) (hs1:Sl kEntry w.heap okAll A1 p0) (hl1:p0.length≤c_1):
 Calls Tryz.prog 93 #[.slice A1 p0.length c_1] w fun e w'=>∃(B1:Option Addr) (d1:Nat),e=.returned (.slice B1 r.length d1)∧Ext w w'∧Ow kEntry 66 w'.heap (okL [(w.heap.size,none,some 66)]) (okL []) B1 d1 r:=by
 have h1:Sl kEntry w.heap (okL [(0,some w.heap.size,none)]) A1 p0:=hs1.old _ rfl
 have x0:Ext w w:=Upd.refl _ w
 unfold r0_CopyEntries.f at H
 refine cst Tryz.func93 19 ?_
 refine CW.seq (CW.lw 1 rfl (pu 1 rfl (RW.done (NW.next (CW.seq (CW.lw 1 rfl (pu 1 rfl ?_)))))))
 refine RW.done (NW.next (CW.seq (CW.seq (CW.lw 1 rfl (pu 1 rfl (RW.done (NW.next ?_)))))))
 refine CW.block ?_
 refine CW.loop (fun n1 a w1=>∃(vb:List Entry) (vc:Option Addr) (vd:Nat) (va:Int),Sat 19 [(0,.slice A1 p0.length c_1),(3,.slice vc vb.length vd),(4,iv va)] a∧w.heap.size≤w1.heap.size∧Ow kEntry 66 w1.heap (okL [(w.heap.size,none,some 66)]) (okL []) vc vd vb∧Ext w w1∧r0_CopyEntries.l0 p0 n1 vb va=some r) k ?_ ?_
 exact fun a ha=>⟨([]:List Entry),none,0,0,ha.sb,by omega,Ow.nil,x0,H⟩
 rintro n1 a w1 ⟨vb,vc,vd,va,hS,hle,vf,ve,H⟩ hp
 obtain _|n1:=n1
 cases H
 rw [r0_CopyEntries.l0] at H
 refine CW.go hp hS ?_
 have h2:Ow kEntry 66 w1.heap (okL [(w.heap.size,some w1.heap.size,some 66)]) (okL []) vc vd vb:=vf.close
 have xt1:Ext w1 w1:=Upd.refl _ _
 refine CW.seq (CW.seq (CW.lw 4 rfl (pu 4 rfl (RW.done (NW.next (CW.i H (fun c1 H=>?_) fun c1 H=>?_))))))
 refine CW.skip (NW.next (CW.seq (CW.block (CW.lex [.W,.W,.W,.W,.L,.X,.M,.W] rfl (pu 3 rfl ?_)))))
 obtain ⟨g1,H⟩:=guard_some H
 obtain ⟨ad1,e1,a1⟩:=kEntry_at (h1.ext ve) g1.1 g1.2
 refine RW.ix tk g1 e1 ?_
 refine RW.ld tk _ a1 ?_
 refine RW.buildSlice (cs:=[iv ((rd p0 va).From),iv ((rd p0 va).Len),iv ((rd p0 va).Dev),iv ((rd p0 va).To),iv ((rd p0 va).Stale)]) tk (.inl rfl) ⟨rfl,rfl,rfl,rfl⟩ rfl rfl rfl rfl rfl rfl rfl ?_
 intro b1 w2 x1 l1 h3
 have sx1:=x1.size
 have ltb1:=h3.lt
 have h4:=h2.ext x1
 obtain ⟨g2,H⟩:=guard_some H
 refine RW.append1L (d:=kEntry) (v:=(rd p0 va)) (l:=[(w.heap.size,some w1.heap.size,some 66)]) (li:=[]) (ly:=[]) (xs:=vb) tk h4 h3 (kEntry_mk (rd p0 va)) trivial (by simp only [maxLen];omega) g2 ⟨rfl,rfl,rfl,rfl⟩ rfl rfl rfl rfl rfl rfl rfl ?_
 intro A2 c_2 w3 x2 h5
 have sx2:=x2.size
 have h6:=h5.close.sub (l':=[(w.heap.size,some w3.heap.size,some 66)]) (li':=[]) ⟨(.inl ⟨by omega,by omega,rfl⟩),⟨(.inl ⟨by omega,by omega,rfl⟩),trivial⟩⟩ trivial
 refine pu 1 rfl (RW.done ?_)
 refine NW.norm_block (NW.next ?_)
 refine CW.lw 3 rfl (pu 3 rfl (RW.done ?_))
 have h7:=Ext.turn (ve.tr x1) x2 ⟨by omega,trivial⟩
 exact NW.J fun a ha=>⟨n1,Nat.lt_succ_self n1,(vb++[(rd p0 va)]),A2,c_2,(w64 (va+1)),ha.sb,by omega,(h6.sb),h7,H⟩
 refine CW.exit ?_
 refine NW.exit_then (NW.exit_then (NW.exit_hit ?_))
 refine NW.next (CW.seq (CW.lw 2 rfl (pu 2 rfl (RW.done (NW.next (CW.ret ?_))))))
 obtain rfl:=Option.some.inj H
 exact NW.r1 ⟨vc,vd,rfl,ve,(h2.sub (l':=[(w.heap.size,none,some 66)]) (li':=[]) ⟨(.inl ⟨by omega,trivial,rfl⟩),trivial⟩ trivial)⟩
theorem r0_CopyTable.calls {k:Nat} {p0:Table} {A1:Option Addr} {c_1:Nat} {r:Table} {w:World} (H:r0_CopyTable.f k p0=some r) (hs1:Sl kEntry w.heap okAll A1 p0.List_) (hl1:p0.List_.length≤c_1):
 Calls Tryz.prog 69 #[.agg #[iv p0.Dev,iv p0.Size,.slice A1 p0.List_.length c_1]] w fun e w'=>∃(B1:Option Addr) (d1:Nat),e=.returned (.agg #[iv r.Dev,iv r.Size,.slice B1 r.List_.length d1])∧Ext w w'∧Ow kEntry 66 w'.heap (okL [(w.heap.size,none,some 66)]) (okL []) B1 d1 r.List_:=by
 have h1:Sl kEntry w.heap (okL [(0,some w.heap.size,none)]) A1 p0.List_:=hs1.old _ rfl
 have x0:Ext w w:=Upd.refl _ w
 unfold r0_CopyTable.f at H
 refine cst Tryz.func69 10 ?_
 refine CW.seq (CW.lex [.X,.X] rfl (RW.bx fun b1 w1 x1 sx1 l1 ltb1 h2=>?_))
 refine RW.al tk fun b2 w2 x2 sx2 l2 ltb2 h3=>?_
 refine RW.done (NW.next (CW.seq (CW.lex [.L,.X,.M] rfl ?_)))
 have h4:=h2.ext x2
 refine RW.lw tk h4 ?_
 refine RW.al tk fun b3 w3 x3 sx3 l3 ltb3 h5=>?_
 refine RW.sf tk h5 fun w4 x4 sx4 h7=>?_
 refine RW.done (NW.next (CW.seq (CW.lex [.W,.L,.X,.W,.M] rfl (pu 1 rfl ?_))))
 have h8:=(h4.ext x3).tB x4
 refine RW.lb tk [.slice A1 p0.List_.length c_1] h8 2 ?_
 have h9:=(((h1.ext x1).ext x2).ext x3).turnB x4 h5 ⟨.inr (by omega),trivial⟩
 obtain ⟨y1,h10,H⟩:=bind_some H
 refine RW.cl ent93 (r0_CopyEntries.calls h10 h9.all hl1) ?_
 rintro _ w5 ⟨A2,c_2,rfl,x5,h11⟩
 refine ⟨_,rfl,x5,?_⟩
 have sx5:=x5.size
 have h12:Ow kEntry 66 w5.heap (okL [(w4.heap.size,some w5.heap.size,some 66)]) (okL []) A2 c_2 y1:=h11.close
 refine pu 1 rfl ?_
 have h13:=h7.ext x5
 refine RW.sp tk h13 [iv p0.Dev,iv p0.Size,.slice A2 y1.length c_2] fun w6 x6 sx6 h15=>?_
 refine RW.done (NW.next (CW.seq (CW.lex [.L,.M] rfl (RW.lw tk h15 ?_))))
 have h16:=(((h3.ext x3).tB x4).ext x5).tB x6
 refine RW.sf tk h16 fun w7 x7 sx7 h18=>?_
 refine RW.done (NW.next (CW.ret ?_))
 have h19:=(h12.tB x6 h13).tB x7 h16
 obtain rfl:=Option.some.inj H
 have h20:=((((((x0.tr x1).tr x2).tr x3).tB x4).tr x5).tB x6).tB x7
 exact NW.ret1 rfl (resOne_cell tk (h18.at 0) rfl rfl rfl) ⟨A2,c_2,rfl,h20,(h19.sub (l':=[(w.heap.size,none,some 66)]) (li':=[]) ⟨(.inl ⟨by omega,trivial,rfl⟩),trivial⟩ trivial)⟩
end Go.Proofs.YtnaajldlloglkaaGreatDoor.W
