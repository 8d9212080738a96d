/- Walks; printed by a program of the claim. -/
import Derived.Test.YtnaajldlloglkaaGreatDoorMoveW5
set_option linter.unusedVariables false
set_option linter.unusedSimpArgs false
set_option maxHeartbeats 20000000
set_option maxRecDepth 100000
namespace Go.Proofs.YtnaajldlloglkaaGreatDoor.W
open Go.H Go.Proofs
theorem r9_Step.calls {k:Nat} {p0:Pool} {A1:Option Addr} {c_1:Nat} {A2:Option Addr} {c_2:Nat} {A3:Option Addr} {c_3:Nat} {p1:Int} {r:Pool×(List Pair)×Int} {w:World} (H:r9_Step.f k p0 p1=some r) (hs1:Sl kDeviceR w.heap okAll A1 p0.Devices) (hl1:p0.Devices.length≤c_1) (hs2:Sl kTableR w.heap okAll A2 p0.Tables) (hl2:p0.Tables.length≤c_2) (hs3:Sl kEntry w.heap okAll A3 p0.Job.Table.List_) (hl3:p0.Job.Table.List_.length≤c_3):
 Calls Tryz.prog 108 #[.agg #[.slice A1 p0.Devices.length c_1,.slice A2 p0.Tables.length c_2,iv p0.Job.Dev,iv p0.Job.At,iv p0.Job.Table.Dev,iv p0.Job.Table.Size,.slice A3 p0.Job.Table.List_.length c_3,iv p0.Next],iv p1] w fun e w'=>∃(B1:Option Addr) (d1:Nat) (B2:Option Addr) (d2:Nat) (B3:Option Addr) (d3:Nat) (B4:Option Addr) (d4:Nat),e=.returned (.tuple #[.agg #[.slice B1 r.1.Devices.length d1,.slice B2 r.1.Tables.length d2,iv r.1.Job.Dev,iv r.1.Job.At,iv r.1.Job.Table.Dev,iv r.1.Job.Table.Size,.slice B3 r.1.Job.Table.List_.length d3,iv r.1.Next],.slice B4 r.2.1.length d4,iv r.2.2])∧Ext w w'∧Ow kDeviceO 40 w'.heap (okL [(w.heap.size,none,some 40)]) (okL [(w.heap.size,none,some 105)]) B1 d1 r.1.Devices∧Ow kTableO 26 w'.heap (okL [(w.heap.size,none,some 26)]) (okL [(w.heap.size,none,some 66)]) B2 d2 r.1.Tables∧Ow kEntry 66 w'.heap (okL [(w.heap.size,none,some 66)]) (okL []) B3 d3 r.1.Job.Table.List_∧Ow kPair 124 w'.heap (okL [(w.heap.size,none,some 124)]) (okL []) B4 d4 r.2.1:=by
 have h1:Sl kDeviceR w.heap (okL [(0,some w.heap.size,none)]) A1 p0.Devices:=hs1.old _ rfl
 have h2:Sl kTableR w.heap (okL [(0,some w.heap.size,none)]) A2 p0.Tables:=hs2.old _ rfl
 have h3:Sl kEntry w.heap (okL [(0,some w.heap.size,none)]) A3 p0.Job.Table.List_:=hs3.old _ rfl
 have x0:Ext w w:=Upd.refl _ w
 unfold r9_Step.f at H
 refine cst Tryz.func108 175 ?_
 refine CW.seq (CW.lex [.X,.X,.W,.W] rfl (RW.bx fun b1 w1 x1 sx1 l1 ltb1 h4=>?_))
 refine RW.al tk fun b2 w2 x2 sx2 l2 ltb2 h5=>?_
 refine pu 2 rfl (RW.done (NW.next (CW.seq (CW.seq (CW.lex [.W,.X,.W] rfl (pu 1 rfl (RW.cp H ent21 (fun _ h=>r0_Between.calls h) fun y1 w3 x3 sx3 H=>?_)))))))
 refine pu 1 rfl (RW.done (NW.next ?_))
 have j1:=h5.ext x3
 have j2:=((x0.tr x1).tr x2).tr x3
 refine CW.n H (fun c1 H=>?_) fun c1 H=>?_
 refine CW.skip (NW.next (CW.seq (CW.seq (CW.lex [.W,.W,.L,.W] rfl (pu 2 rfl ?_)))))
 have h7:=(h4.ext x2).ext x3
 refine RW.lb tk [iv p0.Job.Dev] h7 2 ?_
 refine pu 1 rfl (RW.done (NW.next (CW.i H (fun c2 H=>?_) fun c2 H=>?_)))
 refine CW.seq (CW.lex [.W,.M,.W,.W] rfl (pu 1 rfl (RW.sf tk j1 fun w4 x4 sx4 h10=>?_)))
 refine pu 2 rfl (RW.done (NW.next (CW.ret (NW.ret_then ?_))))
 obtain rfl:=Option.some.inj H
 have h11:=j2.tB x4
 exact NW.ret3 rfl (resOne_cell tk (h10.at 0) rfl rfl rfl) (by rfl) (by rfl) ⟨none,0,none,0,none,0,none,0,rfl,h11,Ow.nil,Ow.nil,Ow.nil,Ow.nil⟩
 refine CW.skip (NW.next (CW.seq (CW.lex [.L,.X,.M] rfl (RW.lw tk h7 ?_))))
 have h12:=((h1.ext x1).ext x2).ext x3
 have h13:=((h2.ext x1).ext x2).ext x3
 have h14:=((h3.ext x1).ext x2).ext x3
 obtain ⟨y2,h15,H⟩:=bind_some H
 refine RW.cl ent44 (r0_CopyPool.calls h15 h12.all hl1 h13.all hl2 h14.all hl3) ?_
 rintro _ w5 ⟨A4,c_4,A5,c_5,A6,c_6,rfl,x5,h16,h17,h18⟩
 refine ⟨_,rfl,x5,?_⟩
 have sx5:=x5.size
 have h19:Ow kDeviceO 40 w5.heap (okL [(w3.heap.size,some w5.heap.size,some 40)]) (okL [(w3.heap.size,some w5.heap.size,some 105)]) A4 c_4 y2.Devices:=h16.close
 have h20:Ow kTableO 26 w5.heap (okL [(w3.heap.size,some w5.heap.size,some 26)]) (okL [(w3.heap.size,some w5.heap.size,some 66)]) A5 c_5 y2.Tables:=h17.close
 have h21:Ow kEntry 66 w5.heap (okL [(w3.heap.size,some w5.heap.size,some 66)]) (okL []) A6 c_6 y2.Job.Table.List_:=h18.close
 have h22:=h7.ext x5
 refine RW.sf tk h22 fun w6 x6 sx6 h24=>?_
 refine RW.done (NW.next (CW.seq (CW.lex [.W,.L,.W,.W,.L,.X,.W] rfl (pu 1 rfl (RW.lb tk [.slice A4 y2.Devices.length c_4] h24 0 ?_)))))
 refine pu 2 rfl (RW.lb tk [iv y2.Job.Dev] h24 2 ?_)
 have h25:=h19.tB x6 h22
 refine RW.cp H ent23 (fun _ h=>r7_At.calls h (h25.all.to kDevice_ro rfl) h25.len) fun y3 w7 x7 sx7 H=>?_
 refine pu 1 rfl (RW.done (NW.next (CW.seq (CW.lw 1 rfl (pu 1 rfl (RW.done (NW.next ?_)))))))
 refine CW.seq (CW.seq (CW.lw 1 rfl (pu 1 rfl (RW.done (NW.next (CW.block ?_))))))
 refine CW.loop (fun n1 a w8=>∃(vj:List Pair) (vk:Option Addr) (vl:Nat) (vp:Int) (vd:List Device) (vm:Option Addr) (vn:Nat) (vg:Int) (vb:Int) (vc:Int) (va:List Entry) (vh:Option Addr) (vi:Nat),Sat 175 [(1,iv p1),(2,.pointer (some ⟨b1,0,none⟩)),(4,.pointer (some ⟨b2,0,none⟩)),(7,iv y3),(8,.slice vk vj.length vl),(9,iv vp)] a∧w7.heap.size≤w8.heap.size∧Ow kPair 124 w8.heap (okL [(w7.heap.size,none,some 124)]) (okL []) vk vl vj∧Ow kDeviceO 40 w8.heap (okL [(w3.heap.size,none,some 40)]) (okL [(w3.heap.size,none,some 105)]) vm vn vd∧Ow kEntry 66 w8.heap (okL [(w3.heap.size,none,some 66)]) (okL []) vh vi va∧Ow kTableO 26 w8.heap (okL [(w3.heap.size,some w5.heap.size,some 26)]) (okL [(w3.heap.size,some w5.heap.size,some 66)]) A5 c_5 y2.Tables∧Ext w w8∧Box w8.heap b1 30 [.slice vm vd.length vn,.slice A5 y2.Tables.length c_5,iv y2.Job.Dev,iv vg,iv vb,iv vc,.slice vh va.length vi,iv y2.Next]∧Box w8.heap b2 30 [.slice none 0 0,.slice none 0 0,iv 0,iv 0,iv 0,iv 0,.slice none 0 0,iv 0]∧r9_Step.l0 p1 k y2 y3 n1 vj vp vd vg vb vc va=some r) k ?_ ?_
 have h27:=h25.ext x7
 have h28:=(h21.tB x6 h22).ext x7
 have h29:=(h20.tB x6 h22).ext x7
 have h30:=((j2.tr x5).tB x6).tr x7
 have h31:=h24.ext x7
 have h32:=((j1.ext x5).tB x6).ext x7
 exact fun a ha=>⟨([]:List Pair),none,0,0,y2.Devices,A4,c_4,y2.Job.At,y2.Job.Table.Dev,y2.Job.Table.Size,y2.Job.Table.List_,A6,c_6,ha.sb,by omega,Ow.nil,(h27.sb),(h28.sb),h29,h30,h31,h32,H⟩
 rintro n1 a w8 ⟨vj,vk,vl,vp,vd,vm,vn,vg,vb,vc,va,vh,vi,hS,hle,zc,zd,ze,zf,zg,vq,zh,H⟩ hp
 obtain _|n1:=n1
 cases H
 rw [r9_Step.l0] at H
 refine CW.go hp hS ?_
 have h33:Ow kPair 124 w8.heap (okL [(w7.heap.size,some w8.heap.size,some 124)]) (okL []) vk vl vj:=zc.close
 have h34:Ow kDeviceO 40 w8.heap (okL [(w3.heap.size,some w8.heap.size,some 40)]) (okL [(w3.heap.size,some w8.heap.size,some 105)]) vm vn vd:=zd.close
 have h35:Ow kEntry 66 w8.heap (okL [(w3.heap.size,some w8.heap.size,some 66)]) (okL []) vh vi va:=ze.close
 have xt1:Ext w8 w8:=Upd.refl _ _
 refine CW.seq ?_
 refine CW.seqJ (fun a w9=>∃(vT:Bool),Sat 175 [(1,iv p1),(2,.pointer (some ⟨b1,0,none⟩)),(4,.pointer (some ⟨b2,0,none⟩)),(7,iv y3),(8,.slice vk vj.length vl),(9,iv vp),(46,.bool vT)] a∧w8.heap.size≤w9.heap.size∧Ext w w9∧Ext w8 w9∧r9_Step.j0 k y2 y3 vj vp vd vg vb vc va (r9_Step.l0 p1 k y2 y3 n1) vT=some r) ?_ ?_
 refine CW.ord [0,0,3,7,15,31,63,15,143,15,911,1935,3983,8191,16383] (ofL [(0,.W),(1,.W),(2,.W),(3,.W),(4,.W),(5,.W),(7,.W),(9,.W),(6,.L),(8,.L),(10,.W),(11,.W),(12,.L),(13,.W),(14,.W)] .nil) mixed (by kernel_rfl) ?_
 intro w10 x8
 have sx8:=x8.size
 refine pu 4 rfl ?_
 have j7:=zg.tr x8
 have j8:=xt1.tr x8
 refine RW.i 35 H (fun c3 H=>?_) fun c3 H=>?_
 refine pu 4 rfl ?_
 have h36:=vq.ext x8
 refine RW.lb tk [iv vg] h36 3 ?_
 refine RW.lb tk [.slice vm vd.length vn] h36 0 ?_
 obtain ⟨g1,H⟩:=guard_some H
 have h37:=h34.ext x8
 obtain ⟨ad1,A7,c_7,A8,c_8,e1,a1,h38,h39⟩:=kDeviceO_ato h37 g1.1 g1.2
 refine RW.ix tk g1 e1 ?_
 refine pu 1 rfl (RW.ld tk [iv ((rd vd y3).Size)] ((a1.fld 1).take 1 rfl) ?_)
 refine pu 2 rfl (RW.done ?_)
 exact NW.J fun a ha=>⟨(decide (vg<((rd vd y3).Size))),ha.sb,by omega,j7,j8,H⟩
 refine pu 11 rfl (RW.done ?_)
 exact NW.J fun a ha=>⟨false,ha.sb,by omega,j7,j8,H⟩
 rintro a w9 ⟨vT,hS,hle,vU,vo,H⟩ hp
 unfold r9_Step.j0 at H
 refine CW.go hp hS ?_
 have j3:=zf.ext vo
 have j4:=h35.ext vo
 have j5:=h33.ext vo
 have j6:=zh.ext vo
 refine CW.i H (fun c4 H=>?_) fun c4 H=>?_
 refine CW.skip (NW.next ?_)
 refine CW.seqJ (fun a w11=>∃(vx:List Pair) (vC:Option Addr) (vD:Nat) (vy:List Device) (vE:Option Addr) (vF:Nat) (vK:Int) (vL:Int) (vz:List Entry) (vG:Option Addr) (vH:Nat),Sat 175 [(1,iv p1),(2,.pointer (some ⟨b1,0,none⟩)),(4,.pointer (some ⟨b2,0,none⟩)),(7,iv y3),(8,.slice vC vx.length vD),(9,iv vp)] a∧w9.heap.size≤w11.heap.size∧Ow kPair 124 w11.heap (okL [(w7.heap.size,none,some 124)]) (okL []) vC vD vx∧Ow kDeviceO 40 w11.heap (okL [(w3.heap.size,some w8.heap.size,some 40),(w9.heap.size,none,some 40)]) (okL [(w3.heap.size,none,some 105)]) vE vF vy∧Ow kEntry 66 w11.heap (okL [(w3.heap.size,some w8.heap.size,some 66),(w9.heap.size,none,some 66)]) (okL []) vG vH vz∧Ow kTableO 26 w11.heap (okL [(w3.heap.size,some w5.heap.size,some 26)]) (okL [(w3.heap.size,some w5.heap.size,some 66)]) A5 c_5 y2.Tables∧Ext w w11∧Box w11.heap b1 30 [.slice vE vy.length vF,.slice A5 y2.Tables.length c_5,iv y2.Job.Dev,iv (w64 (vg+1)),iv vK,iv vL,.slice vG vz.length vH,iv y2.Next]∧Box w11.heap b2 30 [.slice none 0 0,.slice none 0 0,iv 0,iv 0,iv 0,iv 0,.slice none 0 0,iv 0]∧r9_Step.j1 vp vg (r9_Step.l0 p1 k y2 y3 n1) vx vy vK vL vz=some r) ?_ ?_
 refine CW.block (CW.seq (CW.lex [.W,.W,.L,.W] rfl (pu 2 rfl (RW.lb tk [iv vg] (vq.ext vo) 3 ?_))))
 refine pu 1 rfl (RW.done (NW.next (CW.seq (CW.lex [.W,.W,.L,.W,.W,.W,.M] rfl (pu 2 rfl (RW.lb tk [iv vg] (vq.ext vo) 3 ?_))))))
 refine pu 3 rfl (RW.sp tk (vq.ext vo) [.slice vm vd.length vn,.slice A5 y2.Tables.length c_5,iv y2.Job.Dev,iv (w64 (vg+1)),iv vb,iv vc,.slice vh va.length vi,iv y2.Next] fun w12 x9 sx9 h45=>?_)
 refine RW.done (NW.next (CW.seq ?_))
 refine CW.seqJ (fun a w13=>∃(vV:Bool),Sat 175 [(1,iv p1),(2,.pointer (some ⟨b1,0,none⟩)),(4,.pointer (some ⟨b2,0,none⟩)),(7,iv y3),(8,.slice vk vj.length vl),(9,iv vp),(10,iv vg),(75,.bool vV)] a∧w12.heap.size≤w13.heap.size∧Ow kDeviceO 40 w13.heap (okL [(w3.heap.size,some w8.heap.size,some 40)]) (okL [(w3.heap.size,some w8.heap.size,some 105)]) vm vn vd∧Ow kTableO 26 w13.heap (okL [(w3.heap.size,some w5.heap.size,some 26)]) (okL [(w3.heap.size,some w5.heap.size,some 66)]) A5 c_5 y2.Tables∧Ow kEntry 66 w13.heap (okL [(w3.heap.size,some w8.heap.size,some 66)]) (okL []) vh vi va∧Ow kPair 124 w13.heap (okL [(w7.heap.size,some w8.heap.size,some 124)]) (okL []) vk vl vj∧Ext w w13∧Box w13.heap b1 30 [.slice vm vd.length vn,.slice A5 y2.Tables.length c_5,iv y2.Job.Dev,iv (w64 (vg+1)),iv vb,iv vc,.slice vh va.length vi,iv y2.Next]∧Box w13.heap b2 30 [.slice none 0 0,.slice none 0 0,iv 0,iv 0,iv 0,iv 0,.slice none 0 0,iv 0]∧r9_Step.j2 k y2 vj vp vd vg vb vc va (r9_Step.l0 p1 k y2 y3 n1) vV=some r) ?_ ?_
 refine CW.lex [.W,.L,.W,.W,.W,.L,.W,.X,.W,.W,.L,.W,.W,.W,.L,.W,.X,.W] rfl (pu 1 rfl (RW.lb tk [.slice vm vd.length vn] h45 0 ?_))
 refine pu 1 rfl ?_
 obtain ⟨g2,H⟩:=guard_some H
 have h46:=(h34.ext vo).turnB x9 (vq.ext vo) ⟨.inl (nq rfl),trivial⟩ ⟨.inl (nq rfl),trivial⟩
 obtain ⟨ad2,A9,c_9,A10,c_10,e2,a2,h47,h48⟩:=kDeviceO_ato h46 g2.1 g2.2
 refine RW.ix tk g2 e2 ?_
 refine pu 1 rfl (RW.ld tk [.slice A9 ((rd vd y3).Free).length c_9] ((a2.fld 2).take 1 rfl) ?_)
 refine pu 1 rfl (RW.cp H ent10 (fun _ h=>r1_Has.calls h h47.all h47.len) fun y4 w14 x10 sx10 H=>?_)
 refine pu 1 rfl ?_
 have j10:=h46.ext x10
 have j11:=(j3.turnB x9 (vq.ext vo) ⟨.inl (nq rfl),trivial⟩ ⟨.inl (nq rfl),trivial⟩).ext x10
 have j12:=(j4.turnB x9 (vq.ext vo) ⟨.inl (nq rfl),trivial⟩ trivial).ext x10
 have j13:=(j5.turnB x9 (vq.ext vo) ⟨.inl (nq rfl),trivial⟩ trivial).ext x10
 have j14:=(vU.tB x9).tr x10
 have j15:=h45.ext x10
 have j16:=(j6.tB x9).ext x10
 refine RW.i 66 H (fun c5 H=>?_) fun c5 H=>?_
 refine pu 9 rfl (RW.done ?_)
 exact NW.J fun a ha=>⟨true,ha.sb,by omega,j10,j11,j12,j13,j14,j15,j16,H⟩
 refine pu 1 rfl (RW.lb tk [.slice vm vd.length vn] j15 0 ?_)
 refine pu 1 rfl ?_
 obtain ⟨g3,H⟩:=guard_some H
 obtain ⟨ad3,A11,c_11,A12,c_12,e3,a3,h59,h60⟩:=kDeviceO_ato j10 g3.1 g3.2
 refine RW.ix tk g3 e3 ?_
 refine pu 1 rfl (RW.ld tk [.slice A12 ((rd vd y3).Late).length c_12] (a3.fld 3) ?_)
 refine pu 1 rfl (RW.cp H ent10 (fun _ h=>r1_Has.calls h h60.all h60.len) fun y5 w15 x11 sx11 H=>?_)
 refine pu 1 rfl (RW.done ?_)
 have h62:=j10.ext x11
 have h63:=j11.ext x11
 have h64:=j12.ext x11
 have h65:=j13.ext x11
 have h66:=j14.tr x11
 have h67:=j15.ext x11
 have h68:=j16.ext x11
 exact NW.J fun a ha=>⟨y5,ha.sb,by omega,h62,h63,h64,h65,h66,h67,h68,H⟩
 rintro a w13 ⟨vV,hS,hle,vW,v7,v8,v9,vX,vM,za,H⟩ hp
 unfold r9_Step.j2 at H
 refine CW.go hp hS ?_
 have xt2:Ext w13 w13:=Upd.refl _ _
 refine CW.i H (fun c6 H=>?_) fun c6 H=>?_
 refine CW.exit ?_
 refine NW.exit_then (NW.exit_hit ?_)
 exact NW.J fun a ha=>⟨vj,vk,vl,vd,vm,vn,vb,vc,va,vh,vi,ha.sb,by omega,(v9.sb),(vW.sb),(v8.sb),v7,vX,vM,za,H⟩
 refine CW.skip (NW.next (CW.seq (CW.lex [.W,.L,.W,.W,.L,.X,.W,.W,.W,.W,.W,.W,.W] rfl (pu 1 rfl (RW.lb tk [.slice vm vd.length vn] vM 0 ?_)))))
 refine pu 2 rfl (RW.lb tk [iv y2.Job.Dev] vM 2 ?_)
 obtain ⟨y6,h69,H⟩:=bind_some H
 refine RW.cl ent137 (r7_Take.calls h69 (vW.all.to kDevice_ro rfl) vW.len) ?_
 rintro _ w16 ⟨A13,c_13,A14,c_14,rfl,x12,h70,h71⟩
 refine ⟨_,rfl,x12,?_⟩
 have sx12:=x12.size
 have h72:Ow kPtr 43 w16.heap (okL [(w13.heap.size,some w16.heap.size,some 43)]) (okL []) A13 c_13 y6.1:=h70.close
 have h73:Ow kDeviceO 40 w16.heap (okL [(w13.heap.size,some w16.heap.size,some 40)]) (okL [(w13.heap.size,some w16.heap.size,some 105)]) A14 c_14 y6.2.1:=h71.close
 refine pu 7 rfl (RW.done (NW.next (CW.seq (CW.seq (CW.lw 2 rfl (pu 2 rfl (RW.done ?_)))))))
 refine NW.next ?_
 have j9:=za.ext x12
 refine CW.n H (fun c7 H=>?_) fun c7 H=>?_
 refine CW.skip (NW.next (CW.seq (CW.lex [.W,.W,.M] rfl (pu 2 rfl ?_))))
 have h74:=vM.ext x12
 refine RW.sp tk h74 [.slice A14 y6.2.1.length c_14,.slice A5 y2.Tables.length c_5,iv y2.Job.Dev,iv (w64 (vg+1)),iv vb,iv vc,.slice vh va.length vi,iv y2.Next] fun w17 x13 sx13 h76=>?_
 refine RW.done (NW.next (CW.seq (CW.ord [0,1,3,0,0,16,48,127,255,511,1023] (ofL [(0,.W),(1,.W),(3,.W),(4,.W),(5,.W),(2,.L),(6,.L),(7,.X),(8,.W),(9,.W),(10,.M)] .nil) mixed (by kernel_rfl) ?_)))
 intro w18 x14
 have sx14:=x14.size
 refine pu 4 rfl ?_
 obtain ⟨g4,H⟩:=guard_some H
 have h77:=(h72.tB x13 h74).ext x14
 obtain ⟨ad4,e4,a4⟩:=kPtr_at h77.slL g4.1 g4.2
 refine RW.ix tk g4 e4 ?_
 have h78:=h76.ext x14
 refine RW.lb tk [iv vb,iv vc,.slice vh va.length vi] h78 4 ?_
 refine RW.ld tk _ a4 ?_
 have h79:=((v8.ext x12).tB x13 h74).ext x14
 obtain ⟨y7,h80,H⟩:=bind_some H
 refine RW.cl ent138 (r7_Add.calls h80 h79.all h79.len) ?_
 rintro _ w19 ⟨A15,c_15,rfl,x15,h81⟩
 refine ⟨_,rfl,x15,?_⟩
 have sx15:=x15.size
 have h82:Ow kEntry 66 w19.heap (okL [(w18.heap.size,some w19.heap.size,some 66)]) (okL []) A15 c_15 y7.List_:=h81.close
 refine pu 2 rfl ?_
 have h83:=h78.ext x15
 refine RW.sp tk h83 [.slice A14 y6.2.1.length c_14,.slice A5 y2.Tables.length c_5,iv y2.Job.Dev,iv (w64 (vg+1)),iv y7.Dev,iv y7.Size,.slice A15 y7.List_.length c_15,iv y2.Next] fun w20 x16 sx16 h85=>?_
 refine RW.done (NW.next (CW.ord [0,0,2,6,0,30,0,64,192,510,1022,2047,4095] (ofL [(0,.W),(1,.W),(2,.W),(4,.W),(6,.W),(7,.W),(3,.L),(5,.W),(8,.L),(9,.W),(10,.X),(11,.M),(12,.W)] .nil) mixed (by kernel_rfl) ?_))
 intro w21 x17
 have sx17:=x17.size
 refine pu 5 rfl ?_
 obtain ⟨g5,H⟩:=guard_some H
 have h86:=((h77.ext x15).tB x16 h83).ext x17
 obtain ⟨ad5,e5,a5⟩:=kPtr_at h86.slL g5.1 g5.2
 refine RW.ix tk g5 e5 ?_
 have h87:=h85.ext x17
 refine RW.lb tk [iv y2.Job.Dev] h87 2 ?_
 refine pu 1 rfl (RW.ld tk _ a5 ?_)
 refine pu 1 rfl (RW.buildSlice (cs:=[iv y2.Job.Dev,iv vg,iv ((rd y6.1 0).Dev),iv ((rd y6.1 0).At)]) tk (.inl rfl) ⟨rfl,rfl,rfl,rfl⟩ rfl rfl rfl rfl rfl rfl rfl ?_)
 intro b3 w22 x18 l9 h88
 have sx18:=x18.size
 have ltb3:=h88.lt
 have h89:=((((((v9.ext x12).tB x13 h74).ext x14).ext x15).tB x16 h83).ext x17).ext x18
 obtain ⟨g6,H⟩:=guard_some H
 refine RW.append1L (d:=kPair) (v:=(⟨(⟨y2.Job.Dev,vg⟩:Ptr),(rd y6.1 0)⟩:Pair)) (l:=[(w7.heap.size,some w8.heap.size,some 124)]) (li:=[]) (ly:=[]) (xs:=vj) tk h89 h88 (kPair_mk (⟨(⟨y2.Job.Dev,vg⟩:Ptr),(rd y6.1 0)⟩:Pair)) trivial (by simp only [maxLen];omega) g6 ⟨rfl,rfl,rfl,rfl⟩ rfl rfl rfl rfl rfl rfl rfl ?_
 intro A16 c_16 w23 x19 h90
 have sx19:=x19.size
 have h91:=h90.close.sub (l':=[(w7.heap.size,some w23.heap.size,some 124)]) (li':=[]) ⟨(.inl ⟨by omega,by omega,rfl⟩),⟨(.inl ⟨by omega,by omega,rfl⟩),trivial⟩⟩ trivial
 refine pu 1 rfl (RW.done (NW.norm_block ?_))
 have h92:=((((((h73.tB x13 h74).ext x14).ext x15).tB x16 h83).ext x17).ext x18).tL x19
 have h93:=(((h82.tB x16 h83).ext x17).ext x18).tL x19
 have h94:=(((((((v7.ext x12).tB x13 h74).ext x14).ext x15).tB x16 h83).ext x17).ext x18).tL x19
 have h95:=Ext.turn (((((((vX.tr x12).tB x13).tr x14).tr x15).tB x16).tr x17).tr x18) x19 ⟨by omega,trivial⟩
 have h96:=(h87.ext x18).tL x19
 have h97:=((((((j9.tB x13).ext x14).ext x15).tB x16).ext x17).ext x18).tL x19
 exact NW.J fun a ha=>⟨(vj++[(⟨(⟨y2.Job.Dev,vg⟩:Ptr),(rd y6.1 0)⟩:Pair)]),A16,c_16,y6.2.1,A14,c_14,y7.Dev,y7.Size,y7.List_,A15,c_15,ha.sb,by omega,(h91.sb),(h92.sub ⟨(.inr (.inl ⟨by omega,trivial,rfl⟩)),trivial⟩ ⟨(.inl ⟨by omega,trivial,rfl⟩),trivial⟩),(h93.sub ⟨(.inr (.inl ⟨by omega,trivial,rfl⟩)),trivial⟩ trivial),h94,h95,h96,h97,H⟩
 refine CW.seq (CW.lex [.W,.M,.W,.W] rfl (pu 1 rfl (RW.sf tk j9 fun w24 x20 sx20 h100=>?_)))
 refine pu 2 rfl (RW.done (NW.next (CW.ret ?_)))
 refine NW.ret_then (NW.ret_block (NW.ret_then (NW.ret_then (NW.ret_block (NW.ret_then ?_)))))
 obtain rfl:=Option.some.inj H
 have h101:=(vX.tr x12).tB x20
 exact NW.ret3 rfl (resOne_cell tk (h100.at 0) rfl rfl rfl) (by rfl) (by rfl) ⟨none,0,none,0,none,0,none,0,rfl,h101,Ow.nil,Ow.nil,Ow.nil,Ow.nil⟩
 rintro a w11 ⟨vx,vC,vD,vy,vE,vF,vK,vL,vz,vG,vH,hS,hle,zi,zj,zk,zl,zm,zn,zo,H⟩ hp
 unfold r9_Step.j1 at H
 refine CW.go hp hS ?_
 have h102:Ow kPair 124 w11.heap (okL [(w7.heap.size,some w11.heap.size,some 124)]) (okL []) vC vD vx:=zi.close
 have h103:Ow kDeviceO 40 w11.heap (okL [(w3.heap.size,some w8.heap.size,some 40),(w9.heap.size,some w11.heap.size,some 40)]) (okL [(w3.heap.size,some w11.heap.size,some 105)]) vE vF vy:=zj.close
 have h104:Ow kEntry 66 w11.heap (okL [(w3.heap.size,some w8.heap.size,some 66),(w9.heap.size,some w11.heap.size,some 66)]) (okL []) vG vH vz:=zk.close
 have xt3:Ext w11 w11:=Upd.refl _ _
 refine CW.lw 3 rfl (pu 3 rfl (RW.done ?_))
 exact NW.J fun a ha=>⟨n1,Nat.lt_succ_self n1,vx,vC,vD,(w64 (vp+1)),vy,vE,vF,(w64 (vg+1)),vK,vL,vz,vG,vH,ha.sb,by omega,(h102.sb),(h103.sub ⟨(.inl ⟨by omega,trivial,rfl⟩),⟨(.inl ⟨by omega,trivial,rfl⟩),trivial⟩⟩ ⟨(.inl ⟨by omega,trivial,rfl⟩),trivial⟩),(h104.sub ⟨(.inl ⟨by omega,trivial,rfl⟩),⟨(.inl ⟨by omega,trivial,rfl⟩),trivial⟩⟩ trivial),zl,zm,zn,zo,H⟩
 refine CW.exit ?_
 refine NW.exit_then (NW.exit_then (NW.exit_hit ?_))
 refine NW.next ?_
 refine CW.seqJ (fun a w25=>∃(vI:List Device) (vN:Option Addr) (vO:Nat) (vJ:List Table) (vP:Option Addr) (vQ:Nat) (vY:Int) (vZ:Int) (v0:Int) (v1:Int) (vR:List Entry) (v2:Option Addr) (v3:Nat),Sat 175 [(2,.pointer (some ⟨b1,0,none⟩)),(4,.pointer (some ⟨b2,0,none⟩)),(8,.slice vk vj.length vl)] a∧w9.heap.size≤w25.heap.size∧Ow kDeviceO 40 w25.heap (okL [(w9.heap.size,none,some 40),(w3.heap.size,some w8.heap.size,some 40)]) (okL [(w3.heap.size,none,some 105)]) vN vO vI∧Ow kTableO 26 w25.heap (okL [(w9.heap.size,none,some 26),(w3.heap.size,some w5.heap.size,some 26)]) (okL [(w3.heap.size,none,some 66)]) vP vQ vJ∧Ow kEntry 66 w25.heap (okL [(w3.heap.size,some w8.heap.size,some 66)]) (okL []) v2 v3 vR∧Ow kPair 124 w25.heap (okL [(w7.heap.size,some w8.heap.size,some 124)]) (okL []) vk vl vj∧Ext w w25∧Box w25.heap b1 30 [.slice vN vI.length vO,.slice vP vJ.length vQ,iv vY,iv vZ,iv v0,iv v1,.slice v2 vR.length v3,iv y2.Next]∧Box w25.heap b2 30 [.slice none 0 0,.slice none 0 0,iv 0,iv 0,iv 0,iv 0,.slice none 0 0,iv 0]∧r9_Step.j3 k y2 vj vI vJ vY vZ v0 v1 vR=some r) ?_ ?_
 refine CW.seq (CW.ord [0,1,3,0,8,0,56,120,248,511] (ofL [(0,.W),(1,.W),(3,.W),(5,.W),(2,.L),(4,.L),(6,.W),(7,.W),(8,.L),(9,.W)] .nil) mixed (by kernel_rfl) ?_)
 intro w26 x21
 have sx21:=x21.size
 refine pu 4 rfl ?_
 have h105:=(vq.ext vo).ext x21
 refine RW.lb tk [iv vg] h105 3 ?_
 refine RW.lb tk [.slice vm vd.length vn] h105 0 ?_
 obtain ⟨g7,H⟩:=guard_some H
 have h106:=(h34.ext vo).ext x21
 obtain ⟨ad6,A17,c_17,A18,c_18,e6,a6,h107,h108⟩:=kDeviceO_ato h106 g7.1 g7.2
 refine RW.ix tk g7 e6 ?_
 refine pu 1 rfl (RW.ld tk [iv ((rd vd y3).Size)] ((a6.fld 1).take 1 rfl) ?_)
 refine pu 1 rfl (RW.done (NW.next ?_))
 have j17:=j3.ext x21
 have j18:=j4.ext x21
 have j19:=j5.ext x21
 have j20:=j6.ext x21
 refine CW.i H (fun c8 H=>?_) fun c8 H=>?_
 refine CW.seq (CW.ord [0,1,0,7,15,0,32,0,128,480,1023,2047,4095] (ofL [(0,.W),(2,.W),(5,.W),(7,.W),(8,.W),(1,.L),(3,.W),(6,.L),(9,.W),(4,.X),(10,.M),(11,.W),(12,.M)] .nil) mixed (by kernel_rfl) ?_)
 intro w27 x22
 have sx22:=x22.size
 refine pu 5 rfl ?_
 have h109:=h105.ext x22
 refine RW.lb tk [.slice vm vd.length vn] h109 0 ?_
 obtain ⟨g8,H⟩:=guard_some H
 have h110:=h106.ext x22
 refine RW.sliceTo tk g8.1 g8.2 h110.len ⟨rfl,rfl,rfl,rfl⟩ rfl rfl rfl rfl rfl rfl ?_
 have h111:=h110.take y3.toNat
 refine RW.lb tk [.slice vm vd.length vn] h109 0 ?_
 obtain ⟨g9,H⟩:=guard_some H
 refine RW.sliceFrom tk g9.1 g9.2 h110.len ⟨rfl,rfl,rfl,rfl⟩ rfl rfl rfl rfl rfl rfl ?_
 obtain ⟨y8,h112,H⟩:=bind_some H
 refine RW.cl ent67 (r0_CopyDevices.calls h112 (h111.all.to kDevice_ro rfl) h111.len) ?_
 rintro _ w28 ⟨A19,c_19,rfl,x23,h113⟩
 refine ⟨_,rfl,x23,?_⟩
 have sx23:=x23.size
 have h114:Ow kDeviceO 40 w28.heap (okL [(w27.heap.size,some w28.heap.size,some 40)]) (okL [(w27.heap.size,some w28.heap.size,some 105)]) A19 c_19 y8:=h113.close
 have h115:=h110.ext x23
 obtain ⟨y9,h116,h117⟩:=Ow.chTail (j:=(w64 (y3+1)).toNat) h115 (by have:=g9;omega)
 obtain ⟨g10,H⟩:=guard_some H
 refine RW.appendL (d:=kDeviceO) (l:=[(w27.heap.size,some w28.heap.size,some 40)]) (li:=[(w27.heap.size,some w28.heap.size,some 105)]) (ly:=[(w3.heap.size,some w8.heap.size,some 105)]) (xs:=y8) (ys:=(vd.drop (w64 (y3+1)).toNat)) tk h114 h116 h117 ⟨⟨.inl (nq rfl),trivial⟩,trivial⟩ (by simp only [maxLen];omega) g10 ⟨rfl,rfl,rfl,rfl⟩ rfl rfl rfl rfl rfl rfl rfl (by rw [List.length_drop]) ?_
 intro A20 c_20 w29 x24 h118
 have sx24:=x24.size
 have h119:=h118.close.sub (l':=[(w27.heap.size,some w29.heap.size,some 40)]) (li':=[(w3.heap.size,some w28.heap.size,some 105)]) ⟨(.inl ⟨by omega,by omega,rfl⟩),⟨(.inl ⟨by omega,by omega,rfl⟩),trivial⟩⟩ ⟨(.inl ⟨by omega,by omega,rfl⟩),⟨(.inl ⟨by omega,by omega,rfl⟩),trivial⟩⟩
 refine pu 1 rfl ?_
 have h120:=(h109.ext x23).tL x24
 refine RW.sp tk h120 [.slice A20 (y8++(vd.drop (w64 (y3+1)).toNat)).length c_20,.slice A5 y2.Tables.length c_5,iv y2.Job.Dev,iv vg,iv vb,iv vc,.slice vh va.length vi,iv y2.Next] fun w30 x25 sx25 h122=>?_
 refine RW.done (NW.next (CW.seq (CW.lw 1 rfl (pu 1 rfl (RW.done (NW.next (CW.seq ?_)))))))
 refine CW.block ?_
 refine CW.loop (fun n2 a w31=>∃(ve:Int),Sat 175 [(2,.pointer (some ⟨b1,0,none⟩)),(4,.pointer (some ⟨b2,0,none⟩)),(8,.slice vk vj.length vl),(14,iv ve)] a∧w30.heap.size≤w31.heap.size∧Ow kDeviceO 40 w31.heap (okL [(w27.heap.size,some w29.heap.size,some 40)]) (okL [(w3.heap.size,some w28.heap.size,some 105)]) A20 c_20 (y8++(vd.drop (w64 (y3+1)).toNat))∧Ow kTableO 26 w31.heap (okL [(w3.heap.size,some w5.heap.size,some 26)]) (okL [(w3.heap.size,some w5.heap.size,some 66)]) A5 c_5 y2.Tables∧Ow kEntry 66 w31.heap (okL [(w3.heap.size,some w8.heap.size,some 66)]) (okL []) vh vi va∧Ow kPair 124 w31.heap (okL [(w7.heap.size,some w8.heap.size,some 124)]) (okL []) vk vl vj∧Ext w w31∧Box w31.heap b1 30 [.slice A20 (y8++(vd.drop (w64 (y3+1)).toNat)).length c_20,.slice A5 y2.Tables.length c_5,iv y2.Job.Dev,iv vg,iv vb,iv vc,.slice vh va.length vi,iv y2.Next]∧Box w31.heap b2 30 [.slice none 0 0,.slice none 0 0,iv 0,iv 0,iv 0,iv 0,.slice none 0 0,iv 0]∧r9_Step.l1 k y2 y3 vj vd vb vc va y8 n2 ve=some r) k ?_ ?_
 have h123:=h119.tB x25 h120
 have h124:=(((j17.ext x22).ext x23).tL x24).tB x25 h120
 have h125:=(((j18.ext x22).ext x23).tL x24).tB x25 h120
 have h126:=(((j19.ext x22).ext x23).tL x24).tB x25 h120
 have h127:=(Ext.turn (((vU.tr x21).tr x22).tr x23) x24 ⟨by omega,trivial⟩).tB x25
 have h128:=(((j20.ext x22).ext x23).tL x24).tB x25
 exact fun a ha=>⟨0,ha.sb,by omega,h123,h124,h125,h126,h127,h122,h128,H⟩
 rintro n2 a w31 ⟨ve,hS,hle,vr,v4,vs,vt,zp,v5,vu,H⟩ hp
 obtain _|n2:=n2
 cases H
 rw [r9_Step.l1] at H
 refine CW.go hp hS ?_
 have xt4:Ext w31 w31:=Upd.refl _ _
 refine CW.seq ?_
 refine CW.seqJ (fun a w32=>∃(v6:Bool),Sat 175 [(2,.pointer (some ⟨b1,0,none⟩)),(4,.pointer (some ⟨b2,0,none⟩)),(8,.slice vk vj.length vl),(14,iv ve),(151,.bool v6)] a∧w31.heap.size≤w32.heap.size∧Ext w w32∧Ext w31 w32∧r9_Step.j4 k y2 y3 vj vd vb vc va y8 ve (r9_Step.l1 k y2 y3 vj vd vb vc va y8 n2) v6=some r) ?_ ?_
 refine CW.ord [0,0,2,6,15,31,63,127,63,511,1023,2047,63,4159,12351,32767,65535] (ofL [(0,.W),(1,.W),(2,.L),(3,.W),(4,.W),(5,.W),(6,.W),(8,.W),(12,.W),(13,.W),(7,.L),(9,.W),(10,.W),(11,.L),(14,.L),(15,.W),(16,.W)] .nil) mixed (by kernel_rfl) ?_
 intro w33 x26
 have sx26:=x26.size
 refine pu 2 rfl ?_
 have h129:=v5.ext x26
 refine RW.lb tk [.slice A5 y2.Tables.length c_5] h129 1 ?_
 refine pu 3 rfl ?_
 have j21:=zp.tr x26
 have j22:=xt4.tr x26
 refine RW.i 140 H (fun c9 H=>?_) fun c9 H=>?_
 refine pu 4 rfl (RW.lb tk [.slice A5 y2.Tables.length c_5] h129 1 ?_)
 obtain ⟨g11,H⟩:=guard_some H
 have h130:=v4.ext x26
 obtain ⟨ad7,A21,c_21,e7,a7,h131⟩:=kTableO_ato h130 g11.1 g11.2
 refine RW.ix tk g11 e7 ?_
 refine pu 1 rfl (RW.ld tk [iv ((rd y2.Tables ve).Dev)] ((a7.fld 0).take 1 rfl) ?_)
 refine RW.lb tk [iv y2.Job.Dev] h129 2 ?_
 refine pu 2 rfl (RW.done ?_)
 exact NW.J fun a ha=>⟨(decide (((rd y2.Tables ve).Dev)<y2.Job.Dev)),ha.sb,by omega,j21,j22,H⟩
 refine pu 11 rfl (RW.done ?_)
 exact NW.J fun a ha=>⟨false,ha.sb,by omega,j21,j22,H⟩
 rintro a w32 ⟨v6,hS,hle,vv,vf,H⟩ hp
 unfold r9_Step.j4 at H
 refine CW.go hp hS (CW.i H (fun c10 H=>?_) fun c10 H=>?_)
 refine CW.skip (NW.next (CW.block (CW.lw 3 rfl (pu 3 rfl (RW.done (NW.norm_block ?_))))))
 exact NW.J fun a ha=>⟨n2,Nat.lt_succ_self n2,(w64 (ve+1)),ha.sb,by omega,(vr.ext vf),(v4.ext vf),(vs.ext vf),(vt.ext vf),vv,(v5.ext vf),(vu.ext vf),H⟩
 refine CW.exit ?_
 refine NW.exit_then (NW.exit_then (NW.exit_hit ?_))
 refine NW.next ?_
 refine CW.seqJ (fun a w34=>∃(vw:List Table) (vA:Option Addr) (vB:Nat),Sat 175 [(2,.pointer (some ⟨b1,0,none⟩)),(4,.pointer (some ⟨b2,0,none⟩)),(8,.slice vk vj.length vl)] a∧w32.heap.size≤w34.heap.size∧Ow kTableO 26 w34.heap (okL [(w32.heap.size,none,some 26)]) (okL [(w3.heap.size,none,some 66)]) vA vB vw∧Ow kDeviceO 40 w34.heap (okL [(w27.heap.size,some w29.heap.size,some 40)]) (okL [(w3.heap.size,some w28.heap.size,some 105)]) A20 c_20 (y8++(vd.drop (w64 (y3+1)).toNat))∧Ow kEntry 66 w34.heap (okL [(w3.heap.size,some w8.heap.size,some 66)]) (okL []) vh vi va∧Ow kPair 124 w34.heap (okL [(w7.heap.size,some w8.heap.size,some 124)]) (okL []) vk vl vj∧Ext w w34∧Box w34.heap b1 30 [.slice A20 (y8++(vd.drop (w64 (y3+1)).toNat)).length c_20,.slice vA vw.length vB,iv y2.Job.Dev,iv vg,iv vb,iv vc,.slice vh va.length vi,iv y2.Next]∧Box w34.heap b2 30 [.slice none 0 0,.slice none 0 0,iv 0,iv 0,iv 0,iv 0,.slice none 0 0,iv 0]∧r9_Step.j5 k y2 y3 vj vd y8 vw=some r) ?_ ?_
 refine CW.ord [0,1,0,7,15,0,32,96,224,511,0,1024,0,7168,16383,32767,65535] (ofL [(0,.W),(2,.W),(5,.W),(6,.W),(10,.W),(12,.W),(1,.L),(3,.W),(7,.L)] (.three 4 .X (ofL [] (.two 8 .X (ofL [] (.two 9 .M (ofL [(11,.L),(13,.W),(14,.M),(15,.W),(16,.M)] .nil) 11 .L (ofL [(13,.W),(9,.M),(14,.M),(15,.W),(16,.M)] .nil))) 11 .L (ofL [(13,.W),(8,.X),(9,.M),(14,.M),(15,.W),(16,.M)] .nil))) 8 .X (ofL [] (.two 4 .X (ofL [] (.two 9 .M (ofL [(11,.L),(13,.W),(14,.M),(15,.W),(16,.M)] .nil) 11 .L (ofL [(13,.W),(9,.M),(14,.M),(15,.W),(16,.M)] .nil))) 11 .L (ofL [(13,.W),(4,.X),(9,.M),(14,.M),(15,.W),(16,.M)] .nil))) 11 .L (ofL [(13,.W)] (.two 4 .X (ofL [(8,.X),(9,.M),(14,.M),(15,.W),(16,.M)] .nil) 8 .X (ofL [(4,.X),(9,.M),(14,.M),(15,.W),(16,.M)] .nil))))) mixed (by kernel_rfl) ?_
 intro w35 x27
 have sx27:=x27.size
 refine pu 6 rfl ?_
 have h136:=(v5.ext vf).ext x27
 refine RW.lb tk [.slice A5 y2.Tables.length c_5] h136 1 ?_
 obtain ⟨g12,H⟩:=guard_some H
 have h137:=(v4.ext vf).ext x27
 refine RW.sliceTo tk g12.1 g12.2 h137.len ⟨rfl,rfl,rfl,rfl⟩ rfl rfl rfl rfl rfl rfl ?_
 have h138:=h137.take ve.toNat
 refine RW.lb tk [iv vb,iv vc,.slice vh va.length vi] h136 4 ?_
 obtain ⟨y10,hqY,H⟩:=bind_some H
 obtain ⟨gqA,H⟩:=guard_some H
 obtain ⟨gqS,H⟩:=guard_some H
 obtain ⟨gqB,H⟩:=guard_some H
 refine RW.three ?_ ?_ ?_
 refine RW.cl ent68 (r0_CopyTables.calls hqY (h138.all.to kTable_ro rfl) h138.len) ?_
 rintro _ w36 ⟨A22,c_22,rfl,x28,h140⟩
 refine ⟨_,rfl,x28,?_⟩
 have sx28:=x28.size
 have h141:Ow kTableO 26 w36.heap (okL [(w35.heap.size,some w36.heap.size,some 26)]) (okL [(w35.heap.size,some w36.heap.size,some 66)]) A22 c_22 y10:=h140.close
 refine RW.two ?_ ?_
 refine RW.buildSlice (cs:=[iv vb,iv vc,.slice vh va.length vi]) tk (.inl rfl) ⟨rfl,rfl,rfl,rfl⟩ rfl rfl rfl rfl rfl rfl rfl ?_
 intro b4 w37 x29 l13 h142
 have sx29:=x29.size
 have ltb4:=h142.lt
 refine RW.two ?_ ?_
 have h143:=h141.ext x29
 have h144:=(((vs.ext vf).ext x27).ext x28).ext x29
 refine RW.append1L (d:=kTableO) (v:=(⟨vb,vc,va⟩:Table)) (l:=[(w35.heap.size,some w36.heap.size,some 26)]) (li:=[(w35.heap.size,some w36.heap.size,some 66)]) (ly:=[(w3.heap.size,some w8.heap.size,some 66)]) (xs:=y10) tk h143 h142 (kTableO_mk (⟨vb,vc,va⟩:Table) (h144.sub (l':=[(w3.heap.size,some w8.heap.size,some 66)]) (li':=[(w3.heap.size,some w8.heap.size,some 66)]) ⟨(.inl ⟨by omega,by omega,rfl⟩),trivial⟩ trivial)) ⟨⟨.inl (nq rfl),trivial⟩,trivial⟩ (by simp only [maxLen];omega) gqA ⟨rfl,rfl,rfl,rfl⟩ rfl rfl rfl rfl rfl rfl rfl ?_
 intro A23 c_23 w38 x30 h145
 have sx30:=x30.size
 have h146:=h145.close.sub (l':=[(w35.heap.size,some w38.heap.size,some 26)]) (li':=[(w3.heap.size,some w36.heap.size,some 66)]) ⟨(.inl ⟨by omega,by omega,rfl⟩),⟨(.inl ⟨by omega,by omega,rfl⟩),trivial⟩⟩ ⟨(.inl ⟨by omega,by omega,rfl⟩),⟨(.inl ⟨by omega,by omega,rfl⟩),trivial⟩⟩
 have h147:=((h136.ext x28).ext x29).tL x30
 refine RW.lb tk [.slice A5 y2.Tables.length c_5] h147 1 ?_
 have h148:=((h137.ext x28).ext x29).turnL x30 ⟨⟨.inr (.inl (by omega)),trivial⟩,trivial⟩ ⟨⟨.inl (nq rfl),trivial⟩,trivial⟩
 refine RW.sliceFrom tk gqS.1 gqS.2 h148.len ⟨rfl,rfl,rfl,rfl⟩ rfl rfl rfl rfl rfl rfl ?_
 obtain ⟨y11,h149,h150⟩:=Ow.chTail (j:=ve.toNat) h148 (by have:=gqS;omega)
 refine RW.appendL (d:=kTableO) (l:=[(w35.heap.size,some w38.heap.size,some 26)]) (li:=[(w3.heap.size,some w36.heap.size,some 66)]) (ly:=[(w3.heap.size,some w5.heap.size,some 66)]) (xs:=(y10++[(⟨vb,vc,va⟩:Table)])) (ys:=(y2.Tables.drop ve.toNat)) tk h146 h149 h150 ⟨⟨.inl (nq rfl),trivial⟩,trivial⟩ (by simp only [maxLen];omega) gqB ⟨rfl,rfl,rfl,rfl⟩ rfl rfl rfl rfl rfl rfl rfl (by rw [List.length_drop]) ?_
 intro A24 c_24 w39 x31 h151
 have sx31:=x31.size
 have h152:=h151.close.sub (l':=[(w35.heap.size,some w39.heap.size,some 26)]) (li':=[(w3.heap.size,some w36.heap.size,some 66)]) ⟨(.inl ⟨by omega,by omega,rfl⟩),⟨(.inl ⟨by omega,by omega,rfl⟩),trivial⟩⟩ ⟨(.inl ⟨by omega,by omega,rfl⟩),⟨(.inl ⟨by omega,by omega,rfl⟩),trivial⟩⟩
 refine pu 1 rfl ?_
 have h153:=h147.tL x31
 refine RW.sp tk h153 [.slice A20 (y8++(vd.drop (w64 (y3+1)).toNat)).length c_20,.slice A24 ((y10++[(⟨vb,vc,va⟩:Table)])++(y2.Tables.drop ve.toNat)).length c_24,iv y2.Job.Dev,iv vg,iv vb,iv vc,.slice vh va.length vi,iv y2.Next] fun w40 x32 sx32 h155=>?_
 refine RW.done ?_
 have h156:=h152.tB x32 h153
 have h157:=((((((vr.ext vf).ext x27).ext x28).ext x29).tL x30).tL x31).tB x32 h153
 have h158:=((h144.tL x30).tL x31).tB x32 h153
 have h159:=((((((vt.ext vf).ext x27).ext x28).ext x29).tL x30).tL x31).tB x32 h153
 have h160:=(Ext.turn (Ext.turn (((vv.tr x27).tr x28).tr x29) x30 ⟨by omega,trivial⟩) x31 ⟨by omega,trivial⟩).tB x32
 have h161:=((((((vu.ext vf).ext x27).ext x28).ext x29).tL x30).tL x31).tB x32
 exact NW.J fun a ha=>⟨((y10++[(⟨vb,vc,va⟩:Table)])++(y2.Tables.drop ve.toNat)),A24,c_24,ha.sb,by omega,(h156.sb),h157,h158,h159,h160,h155,h161,H⟩
 have h14301:=(h136.ext x28).ext x29
 refine RW.lb tk [.slice A5 y2.Tables.length c_5] h14301 1 ?_
 have h14401:=(h137.ext x28).ext x29
 refine RW.sliceFrom tk gqS.1 gqS.2 h14401.len ⟨rfl,rfl,rfl,rfl⟩ rfl rfl rfl rfl rfl rfl ?_
 have h14501:=h141.ext x29
 have h14601:=(((vs.ext vf).ext x27).ext x28).ext x29
 refine RW.append1L (d:=kTableO) (v:=(⟨vb,vc,va⟩:Table)) (l:=[(w35.heap.size,some w36.heap.size,some 26)]) (li:=[(w35.heap.size,some w36.heap.size,some 66)]) (ly:=[(w3.heap.size,some w8.heap.size,some 66)]) (xs:=y10) tk h14501 h142 (kTableO_mk (⟨vb,vc,va⟩:Table) (h14601.sub (l':=[(w3.heap.size,some w8.heap.size,some 66)]) (li':=[(w3.heap.size,some w8.heap.size,some 66)]) ⟨(.inl ⟨by omega,by omega,rfl⟩),trivial⟩ trivial)) ⟨⟨.inl (nq rfl),trivial⟩,trivial⟩ (by simp only [maxLen];omega) gqA ⟨rfl,rfl,rfl,rfl⟩ rfl rfl rfl rfl rfl rfl rfl ?_
 intro A23 c_23 w38 x30 h14701
 have sx30:=x30.size
 have h14801:=h14701.close.sub (l':=[(w35.heap.size,some w38.heap.size,some 26)]) (li':=[(w3.heap.size,some w36.heap.size,some 66)]) ⟨(.inl ⟨by omega,by omega,rfl⟩),⟨(.inl ⟨by omega,by omega,rfl⟩),trivial⟩⟩ ⟨(.inl ⟨by omega,by omega,rfl⟩),⟨(.inl ⟨by omega,by omega,rfl⟩),trivial⟩⟩
 have h14901:=h14401.turnL x30 ⟨⟨.inr (.inl (by omega)),trivial⟩,trivial⟩ ⟨⟨.inl (nq rfl),trivial⟩,trivial⟩
 obtain ⟨y11,h15001,h15101⟩:=Ow.chTail (j:=ve.toNat) h14901 (by have:=gqS;omega)
 refine RW.appendL (d:=kTableO) (l:=[(w35.heap.size,some w38.heap.size,some 26)]) (li:=[(w3.heap.size,some w36.heap.size,some 66)]) (ly:=[(w3.heap.size,some w5.heap.size,some 66)]) (xs:=(y10++[(⟨vb,vc,va⟩:Table)])) (ys:=(y2.Tables.drop ve.toNat)) tk h14801 h15001 h15101 ⟨⟨.inl (nq rfl),trivial⟩,trivial⟩ (by simp only [maxLen];omega) gqB ⟨rfl,rfl,rfl,rfl⟩ rfl rfl rfl rfl rfl rfl rfl (by rw [List.length_drop]) ?_
 intro A24 c_24 w39 x31 h15201
 have sx31:=x31.size
 have h15301:=h15201.close.sub (l':=[(w35.heap.size,some w39.heap.size,some 26)]) (li':=[(w3.heap.size,some w36.heap.size,some 66)]) ⟨(.inl ⟨by omega,by omega,rfl⟩),⟨(.inl ⟨by omega,by omega,rfl⟩),trivial⟩⟩ ⟨(.inl ⟨by omega,by omega,rfl⟩),⟨(.inl ⟨by omega,by omega,rfl⟩),trivial⟩⟩
 refine pu 1 rfl ?_
 have h15401:=(h14301.tL x30).tL x31
 refine RW.sp tk h15401 [.slice A20 (y8++(vd.drop (w64 (y3+1)).toNat)).length c_20,.slice A24 ((y10++[(⟨vb,vc,va⟩:Table)])++(y2.Tables.drop ve.toNat)).length c_24,iv y2.Job.Dev,iv vg,iv vb,iv vc,.slice vh va.length vi,iv y2.Next] fun w40 x32 sx32 h15601=>?_
 refine RW.done ?_
 have h15701:=h15301.tB x32 h15401
 have h15801:=((((((vr.ext vf).ext x27).ext x28).ext x29).tL x30).tL x31).tB x32 h15401
 have h15901:=((h14601.tL x30).tL x31).tB x32 h15401
 have h16001:=((((((vt.ext vf).ext x27).ext x28).ext x29).tL x30).tL x31).tB x32 h15401
 have h16101:=(Ext.turn (Ext.turn (((vv.tr x27).tr x28).tr x29) x30 ⟨by omega,trivial⟩) x31 ⟨by omega,trivial⟩).tB x32
 have h162:=((((((vu.ext vf).ext x27).ext x28).ext x29).tL x30).tL x31).tB x32
 exact NW.J fun a ha=>⟨((y10++[(⟨vb,vc,va⟩:Table)])++(y2.Tables.drop ve.toNat)),A24,c_24,ha.sb,by omega,(h15701.sb),h15801,h15901,h16001,h16101,h15601,h162,H⟩
 have h14201:=h136.ext x28
 refine RW.lb tk [.slice A5 y2.Tables.length c_5] h14201 1 ?_
 have h14302:=h137.ext x28
 refine RW.sliceFrom tk gqS.1 gqS.2 h14302.len ⟨rfl,rfl,rfl,rfl⟩ rfl rfl rfl rfl rfl rfl (RW.buildSlice (cs:=[iv vb,iv vc,.slice vh va.length vi]) tk (.inl rfl) ⟨rfl,rfl,rfl,rfl⟩ rfl rfl rfl rfl rfl rfl rfl ?_)
 intro b4 w37 x29 l13 h14402
 have sx29:=x29.size
 have ltb4:=h14402.lt
 have h14502:=h141.ext x29
 have h14602:=(((vs.ext vf).ext x27).ext x28).ext x29
 refine RW.append1L (d:=kTableO) (v:=(⟨vb,vc,va⟩:Table)) (l:=[(w35.heap.size,some w36.heap.size,some 26)]) (li:=[(w35.heap.size,some w36.heap.size,some 66)]) (ly:=[(w3.heap.size,some w8.heap.size,some 66)]) (xs:=y10) tk h14502 h14402 (kTableO_mk (⟨vb,vc,va⟩:Table) (h14602.sub (l':=[(w3.heap.size,some w8.heap.size,some 66)]) (li':=[(w3.heap.size,some w8.heap.size,some 66)]) ⟨(.inl ⟨by omega,by omega,rfl⟩),trivial⟩ trivial)) ⟨⟨.inl (nq rfl),trivial⟩,trivial⟩ (by simp only [maxLen];omega) gqA ⟨rfl,rfl,rfl,rfl⟩ rfl rfl rfl rfl rfl rfl rfl ?_
 intro A23 c_23 w38 x30 h14702
 have sx30:=x30.size
 have h14802:=h14702.close.sub (l':=[(w35.heap.size,some w38.heap.size,some 26)]) (li':=[(w3.heap.size,some w36.heap.size,some 66)]) ⟨(.inl ⟨by omega,by omega,rfl⟩),⟨(.inl ⟨by omega,by omega,rfl⟩),trivial⟩⟩ ⟨(.inl ⟨by omega,by omega,rfl⟩),⟨(.inl ⟨by omega,by omega,rfl⟩),trivial⟩⟩
 have h14902:=(h14302.ext x29).turnL x30 ⟨⟨.inr (.inl (by omega)),trivial⟩,trivial⟩ ⟨⟨.inl (nq rfl),trivial⟩,trivial⟩
 obtain ⟨y11,h15002,h15102⟩:=Ow.chTail (j:=ve.toNat) h14902 (by have:=gqS;omega)
 refine RW.appendL (d:=kTableO) (l:=[(w35.heap.size,some w38.heap.size,some 26)]) (li:=[(w3.heap.size,some w36.heap.size,some 66)]) (ly:=[(w3.heap.size,some w5.heap.size,some 66)]) (xs:=(y10++[(⟨vb,vc,va⟩:Table)])) (ys:=(y2.Tables.drop ve.toNat)) tk h14802 h15002 h15102 ⟨⟨.inl (nq rfl),trivial⟩,trivial⟩ (by simp only [maxLen];omega) gqB ⟨rfl,rfl,rfl,rfl⟩ rfl rfl rfl rfl rfl rfl rfl (by rw [List.length_drop]) ?_
 intro A24 c_24 w39 x31 h15202
 have sx31:=x31.size
 have h15302:=h15202.close.sub (l':=[(w35.heap.size,some w39.heap.size,some 26)]) (li':=[(w3.heap.size,some w36.heap.size,some 66)]) ⟨(.inl ⟨by omega,by omega,rfl⟩),⟨(.inl ⟨by omega,by omega,rfl⟩),trivial⟩⟩ ⟨(.inl ⟨by omega,by omega,rfl⟩),⟨(.inl ⟨by omega,by omega,rfl⟩),trivial⟩⟩
 refine pu 1 rfl ?_
 have h15402:=((h14201.ext x29).tL x30).tL x31
 refine RW.sp tk h15402 [.slice A20 (y8++(vd.drop (w64 (y3+1)).toNat)).length c_20,.slice A24 ((y10++[(⟨vb,vc,va⟩:Table)])++(y2.Tables.drop ve.toNat)).length c_24,iv y2.Job.Dev,iv vg,iv vb,iv vc,.slice vh va.length vi,iv y2.Next] fun w40 x32 sx32 h15602=>?_
 refine RW.done ?_
 have h15702:=h15302.tB x32 h15402
 have h15802:=((((((vr.ext vf).ext x27).ext x28).ext x29).tL x30).tL x31).tB x32 h15402
 have h15902:=((h14602.tL x30).tL x31).tB x32 h15402
 have h16002:=((((((vt.ext vf).ext x27).ext x28).ext x29).tL x30).tL x31).tB x32 h15402
 have h16102:=(Ext.turn (Ext.turn (((vv.tr x27).tr x28).tr x29) x30 ⟨by omega,trivial⟩) x31 ⟨by omega,trivial⟩).tB x32
 have h16201:=((((((vu.ext vf).ext x27).ext x28).ext x29).tL x30).tL x31).tB x32
 exact NW.J fun a ha=>⟨((y10++[(⟨vb,vc,va⟩:Table)])++(y2.Tables.drop ve.toNat)),A24,c_24,ha.sb,by omega,(h15702.sb),h15802,h15902,h16002,h16102,h15602,h16201,H⟩
 refine RW.buildSlice (cs:=[iv vb,iv vc,.slice vh va.length vi]) tk (.inl rfl) ⟨rfl,rfl,rfl,rfl⟩ rfl rfl rfl rfl rfl rfl rfl ?_
 intro b4 w36 x28 l13 h139
 have sx28:=x28.size
 have ltb4:=h139.lt
 refine RW.two ?_ ?_
 have h14001:=h138.ext x28
 refine RW.cl ent68 (r0_CopyTables.calls hqY (h14001.all.to kTable_ro rfl) h14001.len) ?_
 rintro _ w37 ⟨A22,c_22,rfl,x29,h14202⟩
 refine ⟨_,rfl,x29,?_⟩
 have sx29:=x29.size
 have h14303:Ow kTableO 26 w37.heap (okL [(w36.heap.size,some w37.heap.size,some 26)]) (okL [(w36.heap.size,some w37.heap.size,some 66)]) A22 c_22 y10:=h14202.close
 refine RW.two ?_ ?_
 have h14403:=(((vs.ext vf).ext x27).ext x28).ext x29
 have h14503:=h139.ext x29
 refine RW.append1L (d:=kTableO) (v:=(⟨vb,vc,va⟩:Table)) (l:=[(w36.heap.size,some w37.heap.size,some 26)]) (li:=[(w36.heap.size,some w37.heap.size,some 66)]) (ly:=[(w3.heap.size,some w8.heap.size,some 66)]) (xs:=y10) tk h14303 h14503 (kTableO_mk (⟨vb,vc,va⟩:Table) (h14403.sub (l':=[(w3.heap.size,some w8.heap.size,some 66)]) (li':=[(w3.heap.size,some w8.heap.size,some 66)]) ⟨(.inl ⟨by omega,by omega,rfl⟩),trivial⟩ trivial)) ⟨⟨.inl (nq rfl),trivial⟩,trivial⟩ (by simp only [maxLen];omega) gqA ⟨rfl,rfl,rfl,rfl⟩ rfl rfl rfl rfl rfl rfl rfl ?_
 intro A23 c_23 w38 x30 h14603
 have sx30:=x30.size
 have h14703:=h14603.close.sub (l':=[(w36.heap.size,some w38.heap.size,some 26)]) (li':=[(w3.heap.size,some w37.heap.size,some 66)]) ⟨(.inl ⟨by omega,by omega,rfl⟩),⟨(.inl ⟨by omega,by omega,rfl⟩),trivial⟩⟩ ⟨(.inl ⟨by omega,by omega,rfl⟩),⟨(.inl ⟨by omega,by omega,rfl⟩),trivial⟩⟩
 have h14803:=((h136.ext x28).ext x29).tL x30
 refine RW.lb tk [.slice A5 y2.Tables.length c_5] h14803 1 ?_
 have h14903:=((h137.ext x28).ext x29).turnL x30 ⟨⟨.inr (.inl (by omega)),trivial⟩,trivial⟩ ⟨⟨.inl (nq rfl),trivial⟩,trivial⟩
 refine RW.sliceFrom tk gqS.1 gqS.2 h14903.len ⟨rfl,rfl,rfl,rfl⟩ rfl rfl rfl rfl rfl rfl ?_
 obtain ⟨y11,h15003,h15103⟩:=Ow.chTail (j:=ve.toNat) h14903 (by have:=gqS;omega)
 refine RW.appendL (d:=kTableO) (l:=[(w36.heap.size,some w38.heap.size,some 26)]) (li:=[(w3.heap.size,some w37.heap.size,some 66)]) (ly:=[(w3.heap.size,some w5.heap.size,some 66)]) (xs:=(y10++[(⟨vb,vc,va⟩:Table)])) (ys:=(y2.Tables.drop ve.toNat)) tk h14703 h15003 h15103 ⟨⟨.inl (nq rfl),trivial⟩,trivial⟩ (by simp only [maxLen];omega) gqB ⟨rfl,rfl,rfl,rfl⟩ rfl rfl rfl rfl rfl rfl rfl (by rw [List.length_drop]) ?_
 intro A24 c_24 w39 x31 h15203
 have sx31:=x31.size
 have h15303:=h15203.close.sub (l':=[(w36.heap.size,some w39.heap.size,some 26)]) (li':=[(w3.heap.size,some w37.heap.size,some 66)]) ⟨(.inl ⟨by omega,by omega,rfl⟩),⟨(.inl ⟨by omega,by omega,rfl⟩),trivial⟩⟩ ⟨(.inl ⟨by omega,by omega,rfl⟩),⟨(.inl ⟨by omega,by omega,rfl⟩),trivial⟩⟩
 refine pu 1 rfl ?_
 have h15403:=h14803.tL x31
 refine RW.sp tk h15403 [.slice A20 (y8++(vd.drop (w64 (y3+1)).toNat)).length c_20,.slice A24 ((y10++[(⟨vb,vc,va⟩:Table)])++(y2.Tables.drop ve.toNat)).length c_24,iv y2.Job.Dev,iv vg,iv vb,iv vc,.slice vh va.length vi,iv y2.Next] fun w40 x32 sx32 h15603=>?_
 refine RW.done ?_
 have h15703:=h15303.tB x32 h15403
 have h15803:=((((((vr.ext vf).ext x27).ext x28).ext x29).tL x30).tL x31).tB x32 h15403
 have h15903:=((h14403.tL x30).tL x31).tB x32 h15403
 have h16003:=((((((vt.ext vf).ext x27).ext x28).ext x29).tL x30).tL x31).tB x32 h15403
 have h16103:=(Ext.turn (Ext.turn (((vv.tr x27).tr x28).tr x29) x30 ⟨by omega,trivial⟩) x31 ⟨by omega,trivial⟩).tB x32
 have h16202:=((((((vu.ext vf).ext x27).ext x28).ext x29).tL x30).tL x31).tB x32
 exact NW.J fun a ha=>⟨((y10++[(⟨vb,vc,va⟩:Table)])++(y2.Tables.drop ve.toNat)),A24,c_24,ha.sb,by omega,(h15703.sb),h15803,h15903,h16003,h16103,h15603,h16202,H⟩
 have h14404:=(h136.ext x28).ext x29
 refine RW.lb tk [.slice A5 y2.Tables.length c_5] h14404 1 ?_
 have h14504:=(h137.ext x28).ext x29
 refine RW.sliceFrom tk gqS.1 gqS.2 h14504.len ⟨rfl,rfl,rfl,rfl⟩ rfl rfl rfl rfl rfl rfl ?_
 have h14604:=(((vs.ext vf).ext x27).ext x28).ext x29
 have h14704:=h139.ext x29
 refine RW.append1L (d:=kTableO) (v:=(⟨vb,vc,va⟩:Table)) (l:=[(w36.heap.size,some w37.heap.size,some 26)]) (li:=[(w36.heap.size,some w37.heap.size,some 66)]) (ly:=[(w3.heap.size,some w8.heap.size,some 66)]) (xs:=y10) tk h14303 h14704 (kTableO_mk (⟨vb,vc,va⟩:Table) (h14604.sub (l':=[(w3.heap.size,some w8.heap.size,some 66)]) (li':=[(w3.heap.size,some w8.heap.size,some 66)]) ⟨(.inl ⟨by omega,by omega,rfl⟩),trivial⟩ trivial)) ⟨⟨.inl (nq rfl),trivial⟩,trivial⟩ (by simp only [maxLen];omega) gqA ⟨rfl,rfl,rfl,rfl⟩ rfl rfl rfl rfl rfl rfl rfl ?_
 intro A23 c_23 w38 x30 h14804
 have sx30:=x30.size
 have h14904:=h14804.close.sub (l':=[(w36.heap.size,some w38.heap.size,some 26)]) (li':=[(w3.heap.size,some w37.heap.size,some 66)]) ⟨(.inl ⟨by omega,by omega,rfl⟩),⟨(.inl ⟨by omega,by omega,rfl⟩),trivial⟩⟩ ⟨(.inl ⟨by omega,by omega,rfl⟩),⟨(.inl ⟨by omega,by omega,rfl⟩),trivial⟩⟩
 have h15004:=h14504.turnL x30 ⟨⟨.inr (.inl (by omega)),trivial⟩,trivial⟩ ⟨⟨.inl (nq rfl),trivial⟩,trivial⟩
 obtain ⟨y11,h15104,h15204⟩:=Ow.chTail (j:=ve.toNat) h15004 (by have:=gqS;omega)
 refine RW.appendL (d:=kTableO) (l:=[(w36.heap.size,some w38.heap.size,some 26)]) (li:=[(w3.heap.size,some w37.heap.size,some 66)]) (ly:=[(w3.heap.size,some w5.heap.size,some 66)]) (xs:=(y10++[(⟨vb,vc,va⟩:Table)])) (ys:=(y2.Tables.drop ve.toNat)) tk h14904 h15104 h15204 ⟨⟨.inl (nq rfl),trivial⟩,trivial⟩ (by simp only [maxLen];omega) gqB ⟨rfl,rfl,rfl,rfl⟩ rfl rfl rfl rfl rfl rfl rfl (by rw [List.length_drop]) ?_
 intro A24 c_24 w39 x31 h15304
 have sx31:=x31.size
 have h15404:=h15304.close.sub (l':=[(w36.heap.size,some w39.heap.size,some 26)]) (li':=[(w3.heap.size,some w37.heap.size,some 66)]) ⟨(.inl ⟨by omega,by omega,rfl⟩),⟨(.inl ⟨by omega,by omega,rfl⟩),trivial⟩⟩ ⟨(.inl ⟨by omega,by omega,rfl⟩),⟨(.inl ⟨by omega,by omega,rfl⟩),trivial⟩⟩
 refine pu 1 rfl ?_
 have h15504:=(h14404.tL x30).tL x31
 refine RW.sp tk h15504 [.slice A20 (y8++(vd.drop (w64 (y3+1)).toNat)).length c_20,.slice A24 ((y10++[(⟨vb,vc,va⟩:Table)])++(y2.Tables.drop ve.toNat)).length c_24,iv y2.Job.Dev,iv vg,iv vb,iv vc,.slice vh va.length vi,iv y2.Next] fun w40 x32 sx32 h15704=>?_
 refine RW.done ?_
 have h15804:=h15404.tB x32 h15504
 have h15904:=((((((vr.ext vf).ext x27).ext x28).ext x29).tL x30).tL x31).tB x32 h15504
 have h16004:=((h14604.tL x30).tL x31).tB x32 h15504
 have h16104:=((((((vt.ext vf).ext x27).ext x28).ext x29).tL x30).tL x31).tB x32 h15504
 have h16203:=(Ext.turn (Ext.turn (((vv.tr x27).tr x28).tr x29) x30 ⟨by omega,trivial⟩) x31 ⟨by omega,trivial⟩).tB x32
 have h163:=((((((vu.ext vf).ext x27).ext x28).ext x29).tL x30).tL x31).tB x32
 exact NW.J fun a ha=>⟨((y10++[(⟨vb,vc,va⟩:Table)])++(y2.Tables.drop ve.toNat)),A24,c_24,ha.sb,by omega,(h15804.sb),h15904,h16004,h16104,h16203,h15704,h163,H⟩
 have h14002:=h136.ext x28
 refine RW.lb tk [.slice A5 y2.Tables.length c_5] h14002 1 ?_
 have h14101:=h137.ext x28
 refine RW.sliceFrom tk gqS.1 gqS.2 h14101.len ⟨rfl,rfl,rfl,rfl⟩ rfl rfl rfl rfl rfl rfl ?_
 have h14203:=h138.ext x28
 refine RW.cl ent68 (r0_CopyTables.calls hqY (h14203.all.to kTable_ro rfl) h14203.len) ?_
 rintro _ w37 ⟨A22,c_22,rfl,x29,h14405⟩
 refine ⟨_,rfl,x29,?_⟩
 have sx29:=x29.size
 have h14505:Ow kTableO 26 w37.heap (okL [(w36.heap.size,some w37.heap.size,some 26)]) (okL [(w36.heap.size,some w37.heap.size,some 66)]) A22 c_22 y10:=h14405.close
 have h14605:=(((vs.ext vf).ext x27).ext x28).ext x29
 have h14705:=h139.ext x29
 refine RW.append1L (d:=kTableO) (v:=(⟨vb,vc,va⟩:Table)) (l:=[(w36.heap.size,some w37.heap.size,some 26)]) (li:=[(w36.heap.size,some w37.heap.size,some 66)]) (ly:=[(w3.heap.size,some w8.heap.size,some 66)]) (xs:=y10) tk h14505 h14705 (kTableO_mk (⟨vb,vc,va⟩:Table) (h14605.sub (l':=[(w3.heap.size,some w8.heap.size,some 66)]) (li':=[(w3.heap.size,some w8.heap.size,some 66)]) ⟨(.inl ⟨by omega,by omega,rfl⟩),trivial⟩ trivial)) ⟨⟨.inl (nq rfl),trivial⟩,trivial⟩ (by simp only [maxLen];omega) gqA ⟨rfl,rfl,rfl,rfl⟩ rfl rfl rfl rfl rfl rfl rfl ?_
 intro A23 c_23 w38 x30 h14805
 have sx30:=x30.size
 have h14905:=h14805.close.sub (l':=[(w36.heap.size,some w38.heap.size,some 26)]) (li':=[(w3.heap.size,some w37.heap.size,some 66)]) ⟨(.inl ⟨by omega,by omega,rfl⟩),⟨(.inl ⟨by omega,by omega,rfl⟩),trivial⟩⟩ ⟨(.inl ⟨by omega,by omega,rfl⟩),⟨(.inl ⟨by omega,by omega,rfl⟩),trivial⟩⟩
 have h15005:=(h14101.ext x29).turnL x30 ⟨⟨.inr (.inl (by omega)),trivial⟩,trivial⟩ ⟨⟨.inl (nq rfl),trivial⟩,trivial⟩
 obtain ⟨y11,h15105,h15205⟩:=Ow.chTail (j:=ve.toNat) h15005 (by have:=gqS;omega)
 refine RW.appendL (d:=kTableO) (l:=[(w36.heap.size,some w38.heap.size,some 26)]) (li:=[(w3.heap.size,some w37.heap.size,some 66)]) (ly:=[(w3.heap.size,some w5.heap.size,some 66)]) (xs:=(y10++[(⟨vb,vc,va⟩:Table)])) (ys:=(y2.Tables.drop ve.toNat)) tk h14905 h15105 h15205 ⟨⟨.inl (nq rfl),trivial⟩,trivial⟩ (by simp only [maxLen];omega) gqB ⟨rfl,rfl,rfl,rfl⟩ rfl rfl rfl rfl rfl rfl rfl (by rw [List.length_drop]) ?_
 intro A24 c_24 w39 x31 h15305
 have sx31:=x31.size
 have h15405:=h15305.close.sub (l':=[(w36.heap.size,some w39.heap.size,some 26)]) (li':=[(w3.heap.size,some w37.heap.size,some 66)]) ⟨(.inl ⟨by omega,by omega,rfl⟩),⟨(.inl ⟨by omega,by omega,rfl⟩),trivial⟩⟩ ⟨(.inl ⟨by omega,by omega,rfl⟩),⟨(.inl ⟨by omega,by omega,rfl⟩),trivial⟩⟩
 refine pu 1 rfl ?_
 have h15505:=((h14002.ext x29).tL x30).tL x31
 refine RW.sp tk h15505 [.slice A20 (y8++(vd.drop (w64 (y3+1)).toNat)).length c_20,.slice A24 ((y10++[(⟨vb,vc,va⟩:Table)])++(y2.Tables.drop ve.toNat)).length c_24,iv y2.Job.Dev,iv vg,iv vb,iv vc,.slice vh va.length vi,iv y2.Next] fun w40 x32 sx32 h15705=>?_
 refine RW.done ?_
 have h15805:=h15405.tB x32 h15505
 have h15905:=((((((vr.ext vf).ext x27).ext x28).ext x29).tL x30).tL x31).tB x32 h15505
 have h16005:=((h14605.tL x30).tL x31).tB x32 h15505
 have h16105:=((((((vt.ext vf).ext x27).ext x28).ext x29).tL x30).tL x31).tB x32 h15505
 have h16204:=(Ext.turn (Ext.turn (((vv.tr x27).tr x28).tr x29) x30 ⟨by omega,trivial⟩) x31 ⟨by omega,trivial⟩).tB x32
 have h16301:=((((((vu.ext vf).ext x27).ext x28).ext x29).tL x30).tL x31).tB x32
 exact NW.J fun a ha=>⟨((y10++[(⟨vb,vc,va⟩:Table)])++(y2.Tables.drop ve.toNat)),A24,c_24,ha.sb,by omega,(h15805.sb),h15905,h16005,h16105,h16204,h15705,h16301,H⟩
 refine RW.lb tk [.slice A5 y2.Tables.length c_5] h136 1 ?_
 refine RW.sliceFrom tk gqS.1 gqS.2 h137.len ⟨rfl,rfl,rfl,rfl⟩ rfl rfl rfl rfl rfl rfl ?_
 refine RW.two ?_ ?_
 refine RW.cl ent68 (r0_CopyTables.calls hqY (h138.all.to kTable_ro rfl) h138.len) ?_
 rintro _ w36 ⟨A22,c_22,rfl,x28,h14003⟩
 refine ⟨_,rfl,x28,?_⟩
 have sx28:=x28.size
 have h14102:Ow kTableO 26 w36.heap (okL [(w35.heap.size,some w36.heap.size,some 26)]) (okL [(w35.heap.size,some w36.heap.size,some 66)]) A22 c_22 y10:=h14003.close
 refine RW.buildSlice (cs:=[iv vb,iv vc,.slice vh va.length vi]) tk (.inl rfl) ⟨rfl,rfl,rfl,rfl⟩ rfl rfl rfl rfl rfl rfl rfl ?_
 intro b4 w37 x29 l13 h14204
 have sx29:=x29.size
 have ltb4:=h14204.lt
 have h14304:=h14102.ext x29
 have h14406:=(((vs.ext vf).ext x27).ext x28).ext x29
 refine RW.append1L (d:=kTableO) (v:=(⟨vb,vc,va⟩:Table)) (l:=[(w35.heap.size,some w36.heap.size,some 26)]) (li:=[(w35.heap.size,some w36.heap.size,some 66)]) (ly:=[(w3.heap.size,some w8.heap.size,some 66)]) (xs:=y10) tk h14304 h14204 (kTableO_mk (⟨vb,vc,va⟩:Table) (h14406.sub (l':=[(w3.heap.size,some w8.heap.size,some 66)]) (li':=[(w3.heap.size,some w8.heap.size,some 66)]) ⟨(.inl ⟨by omega,by omega,rfl⟩),trivial⟩ trivial)) ⟨⟨.inl (nq rfl),trivial⟩,trivial⟩ (by simp only [maxLen];omega) gqA ⟨rfl,rfl,rfl,rfl⟩ rfl rfl rfl rfl rfl rfl rfl ?_
 intro A23 c_23 w38 x30 h14506
 have sx30:=x30.size
 have h14606:=h14506.close.sub (l':=[(w35.heap.size,some w38.heap.size,some 26)]) (li':=[(w3.heap.size,some w36.heap.size,some 66)]) ⟨(.inl ⟨by omega,by omega,rfl⟩),⟨(.inl ⟨by omega,by omega,rfl⟩),trivial⟩⟩ ⟨(.inl ⟨by omega,by omega,rfl⟩),⟨(.inl ⟨by omega,by omega,rfl⟩),trivial⟩⟩
 have h14706:=((h137.ext x28).ext x29).turnL x30 ⟨⟨.inr (.inl (by omega)),trivial⟩,trivial⟩ ⟨⟨.inl (nq rfl),trivial⟩,trivial⟩
 obtain ⟨y11,h14806,h14906⟩:=Ow.chTail (j:=ve.toNat) h14706 (by have:=gqS;omega)
 refine RW.appendL (d:=kTableO) (l:=[(w35.heap.size,some w38.heap.size,some 26)]) (li:=[(w3.heap.size,some w36.heap.size,some 66)]) (ly:=[(w3.heap.size,some w5.heap.size,some 66)]) (xs:=(y10++[(⟨vb,vc,va⟩:Table)])) (ys:=(y2.Tables.drop ve.toNat)) tk h14606 h14806 h14906 ⟨⟨.inl (nq rfl),trivial⟩,trivial⟩ (by simp only [maxLen];omega) gqB ⟨rfl,rfl,rfl,rfl⟩ rfl rfl rfl rfl rfl rfl rfl (by rw [List.length_drop]) ?_
 intro A24 c_24 w39 x31 h15006
 have sx31:=x31.size
 have h15106:=h15006.close.sub (l':=[(w35.heap.size,some w39.heap.size,some 26)]) (li':=[(w3.heap.size,some w36.heap.size,some 66)]) ⟨(.inl ⟨by omega,by omega,rfl⟩),⟨(.inl ⟨by omega,by omega,rfl⟩),trivial⟩⟩ ⟨(.inl ⟨by omega,by omega,rfl⟩),⟨(.inl ⟨by omega,by omega,rfl⟩),trivial⟩⟩
 refine pu 1 rfl ?_
 have h15206:=(((h136.ext x28).ext x29).tL x30).tL x31
 refine RW.sp tk h15206 [.slice A20 (y8++(vd.drop (w64 (y3+1)).toNat)).length c_20,.slice A24 ((y10++[(⟨vb,vc,va⟩:Table)])++(y2.Tables.drop ve.toNat)).length c_24,iv y2.Job.Dev,iv vg,iv vb,iv vc,.slice vh va.length vi,iv y2.Next] fun w40 x32 sx32 h15406=>?_
 refine RW.done ?_
 have h15506:=h15106.tB x32 h15206
 have h15606:=((((((vr.ext vf).ext x27).ext x28).ext x29).tL x30).tL x31).tB x32 h15206
 have h15706:=((h14406.tL x30).tL x31).tB x32 h15206
 have h15806:=((((((vt.ext vf).ext x27).ext x28).ext x29).tL x30).tL x31).tB x32 h15206
 have h15906:=(Ext.turn (Ext.turn (((vv.tr x27).tr x28).tr x29) x30 ⟨by omega,trivial⟩) x31 ⟨by omega,trivial⟩).tB x32
 have h16006:=((((((vu.ext vf).ext x27).ext x28).ext x29).tL x30).tL x31).tB x32
 exact NW.J fun a ha=>⟨((y10++[(⟨vb,vc,va⟩:Table)])++(y2.Tables.drop ve.toNat)),A24,c_24,ha.sb,by omega,(h15506.sb),h15606,h15706,h15806,h15906,h15406,h16006,H⟩
 refine RW.buildSlice (cs:=[iv vb,iv vc,.slice vh va.length vi]) tk (.inl rfl) ⟨rfl,rfl,rfl,rfl⟩ rfl rfl rfl rfl rfl rfl rfl ?_
 intro b4 w36 x28 l13 h13901
 have sx28:=x28.size
 have ltb4:=h13901.lt
 have h14004:=h138.ext x28
 refine RW.cl ent68 (r0_CopyTables.calls hqY (h14004.all.to kTable_ro rfl) h14004.len) ?_
 rintro _ w37 ⟨A22,c_22,rfl,x29,h14205⟩
 refine ⟨_,rfl,x29,?_⟩
 have sx29:=x29.size
 have h14305:Ow kTableO 26 w37.heap (okL [(w36.heap.size,some w37.heap.size,some 26)]) (okL [(w36.heap.size,some w37.heap.size,some 66)]) A22 c_22 y10:=h14205.close
 have h14407:=(((vs.ext vf).ext x27).ext x28).ext x29
 have h14507:=h13901.ext x29
 refine RW.append1L (d:=kTableO) (v:=(⟨vb,vc,va⟩:Table)) (l:=[(w36.heap.size,some w37.heap.size,some 26)]) (li:=[(w36.heap.size,some w37.heap.size,some 66)]) (ly:=[(w3.heap.size,some w8.heap.size,some 66)]) (xs:=y10) tk h14305 h14507 (kTableO_mk (⟨vb,vc,va⟩:Table) (h14407.sub (l':=[(w3.heap.size,some w8.heap.size,some 66)]) (li':=[(w3.heap.size,some w8.heap.size,some 66)]) ⟨(.inl ⟨by omega,by omega,rfl⟩),trivial⟩ trivial)) ⟨⟨.inl (nq rfl),trivial⟩,trivial⟩ (by simp only [maxLen];omega) gqA ⟨rfl,rfl,rfl,rfl⟩ rfl rfl rfl rfl rfl rfl rfl ?_
 intro A23 c_23 w38 x30 h14607
 have sx30:=x30.size
 have h14707:=h14607.close.sub (l':=[(w36.heap.size,some w38.heap.size,some 26)]) (li':=[(w3.heap.size,some w37.heap.size,some 66)]) ⟨(.inl ⟨by omega,by omega,rfl⟩),⟨(.inl ⟨by omega,by omega,rfl⟩),trivial⟩⟩ ⟨(.inl ⟨by omega,by omega,rfl⟩),⟨(.inl ⟨by omega,by omega,rfl⟩),trivial⟩⟩
 have h14807:=((h137.ext x28).ext x29).turnL x30 ⟨⟨.inr (.inl (by omega)),trivial⟩,trivial⟩ ⟨⟨.inl (nq rfl),trivial⟩,trivial⟩
 obtain ⟨y11,h14907,h15007⟩:=Ow.chTail (j:=ve.toNat) h14807 (by have:=gqS;omega)
 refine RW.appendL (d:=kTableO) (l:=[(w36.heap.size,some w38.heap.size,some 26)]) (li:=[(w3.heap.size,some w37.heap.size,some 66)]) (ly:=[(w3.heap.size,some w5.heap.size,some 66)]) (xs:=(y10++[(⟨vb,vc,va⟩:Table)])) (ys:=(y2.Tables.drop ve.toNat)) tk h14707 h14907 h15007 ⟨⟨.inl (nq rfl),trivial⟩,trivial⟩ (by simp only [maxLen];omega) gqB ⟨rfl,rfl,rfl,rfl⟩ rfl rfl rfl rfl rfl rfl rfl (by rw [List.length_drop]) ?_
 intro A24 c_24 w39 x31 h15107
 have sx31:=x31.size
 have h15207:=h15107.close.sub (l':=[(w36.heap.size,some w39.heap.size,some 26)]) (li':=[(w3.heap.size,some w37.heap.size,some 66)]) ⟨(.inl ⟨by omega,by omega,rfl⟩),⟨(.inl ⟨by omega,by omega,rfl⟩),trivial⟩⟩ ⟨(.inl ⟨by omega,by omega,rfl⟩),⟨(.inl ⟨by omega,by omega,rfl⟩),trivial⟩⟩
 refine pu 1 rfl ?_
 have h15307:=(((h136.ext x28).ext x29).tL x30).tL x31
 refine RW.sp tk h15307 [.slice A20 (y8++(vd.drop (w64 (y3+1)).toNat)).length c_20,.slice A24 ((y10++[(⟨vb,vc,va⟩:Table)])++(y2.Tables.drop ve.toNat)).length c_24,iv y2.Job.Dev,iv vg,iv vb,iv vc,.slice vh va.length vi,iv y2.Next] fun w40 x32 sx32 h15507=>?_
 refine RW.done ?_
 have h15607:=h15207.tB x32 h15307
 have h15707:=((((((vr.ext vf).ext x27).ext x28).ext x29).tL x30).tL x31).tB x32 h15307
 have h15807:=((h14407.tL x30).tL x31).tB x32 h15307
 have h15907:=((((((vt.ext vf).ext x27).ext x28).ext x29).tL x30).tL x31).tB x32 h15307
 have h16007:=(Ext.turn (Ext.turn (((vv.tr x27).tr x28).tr x29) x30 ⟨by omega,trivial⟩) x31 ⟨by omega,trivial⟩).tB x32
 have h16106:=((((((vu.ext vf).ext x27).ext x28).ext x29).tL x30).tL x31).tB x32
 exact NW.J fun a ha=>⟨((y10++[(⟨vb,vc,va⟩:Table)])++(y2.Tables.drop ve.toNat)),A24,c_24,ha.sb,by omega,(h15607.sb),h15707,h15807,h15907,h16007,h15507,h16106,H⟩
 rintro a w34 ⟨vw,vA,vB,hS,hle,zq,zr,zB,zs,zt,vS,zu,H⟩ hp
 unfold r9_Step.j5 at H
 refine CW.go hp hS ?_
 have h164:Ow kTableO 26 w34.heap (okL [(w32.heap.size,some w34.heap.size,some 26)]) (okL [(w3.heap.size,some w34.heap.size,some 66)]) vA vB vw:=zq.close
 have xt5:Ext w34 w34:=Upd.refl _ _
 refine CW.lex [.W,.W,.M] rfl (pu 2 rfl (RW.sp tk vS [.slice A20 (y8++(vd.drop (w64 (y3+1)).toNat)).length c_20,.slice vA vw.length vB,iv 0,iv 0,iv 0,iv 0,.slice none 0 0,iv y2.Next] fun w41 x33 sx33 h166=>?_))
 refine RW.done ?_
 have h167:=zr.tB x33 vS
 have h168:=h164.tB x33 vS
 have h169:=zs.tB x33 vS
 have h170:=zt.tB x33
 have h171:=zu.tB x33
 exact NW.J fun a ha=>⟨(y8++(vd.drop (w64 (y3+1)).toNat)),A20,c_20,vw,vA,vB,0,0,0,0,([]:List Entry),none,0,ha.sb,by omega,(h167.sb),(h168.sb),Ow.nil,h169,h170,h166,h171,H⟩
 refine CW.skip ?_
 have h175:=vU.tr x21
 exact NW.J fun a ha=>⟨vd,vm,vn,y2.Tables,A5,c_5,y2.Job.Dev,vg,vb,vc,va,vh,vi,ha.sb,by omega,(h106.sub ⟨(.inr (.inl ⟨by omega,by omega,rfl⟩)),trivial⟩ ⟨(.inl ⟨by omega,trivial,rfl⟩),trivial⟩),(j17.sub ⟨(.inr (.inl ⟨by omega,by omega,rfl⟩)),trivial⟩ ⟨(.inl ⟨by omega,trivial,rfl⟩),trivial⟩),(j18.sb),j19,h175,h105,j20,H⟩
 rintro a w25 ⟨vI,vN,vO,vJ,vP,vQ,vY,vZ,v0,v1,vR,v2,v3,hS,hle,zv,zw,zb,zx,zy,zz,zA,H⟩ hp
 unfold r9_Step.j3 at H
 refine CW.go hp hS ?_
 have h177:Ow kDeviceO 40 w25.heap (okL [(w9.heap.size,some w25.heap.size,some 40),(w3.heap.size,some w8.heap.size,some 40)]) (okL [(w3.heap.size,some w25.heap.size,some 105)]) vN vO vI:=zv.close
 have h178:Ow kTableO 26 w25.heap (okL [(w9.heap.size,some w25.heap.size,some 26),(w3.heap.size,some w5.heap.size,some 26)]) (okL [(w3.heap.size,some w25.heap.size,some 66)]) vP vQ vJ:=zw.close
 have xt6:Ext w25 w25:=Upd.refl _ _
 refine CW.seq (CW.lex [.L,.X,.W,.M,.W,.W] rfl (RW.lw tk zz ?_))
 obtain ⟨y12,h179,H⟩:=bind_some H
 refine RW.cl ent15 (r9_Commit.calls h179 (h177.all.to kDevice_ro rfl) h177.len (h178.all.to kTable_ro rfl) h178.len zb.all zb.len) ?_
 rintro _ w42 ⟨A25,c_25,A26,c_26,A27,c_27,rfl,x34,h180,h181,h182⟩
 refine ⟨_,rfl,x34,?_⟩
 have sx34:=x34.size
 have h183:Ow kDeviceO 40 w42.heap (okL [(w25.heap.size,some w42.heap.size,some 40)]) (okL [(w25.heap.size,some w42.heap.size,some 105)]) A25 c_25 y12.Devices:=h180.close
 have h184:Ow kTableO 26 w42.heap (okL [(w25.heap.size,some w42.heap.size,some 26)]) (okL [(w25.heap.size,some w42.heap.size,some 66)]) A26 c_26 y12.Tables:=h181.close
 have h185:Ow kEntry 66 w42.heap (okL [(w25.heap.size,some w42.heap.size,some 66)]) (okL []) A27 c_27 y12.Job.Table.List_:=h182.close
 refine pu 1 rfl ?_
 have h186:=zA.ext x34
 refine RW.sf tk h186 fun w43 x35 sx35 h188=>?_
 refine pu 2 rfl (RW.done (NW.next (CW.ret ?_)))
 have h189:=h183.tB x35 h186
 have h190:=h184.tB x35 h186
 have h191:=h185.tB x35 h186
 have h192:=(zx.ext x34).tB x35 h186
 obtain rfl:=Option.some.inj H
 have h193:=(zy.tr x34).tB x35
 exact NW.ret3 rfl (resOne_cell tk (h188.at 0) rfl rfl rfl) (by rfl) (by rfl) ⟨A25,c_25,A26,c_26,A27,c_27,vk,vl,rfl,h193,(h189.sub (l':=[(w.heap.size,none,some 40)]) (li':=[(w.heap.size,none,some 105)]) ⟨(.inl ⟨by omega,trivial,rfl⟩),trivial⟩ ⟨(.inl ⟨by omega,trivial,rfl⟩),trivial⟩),(h190.sub (l':=[(w.heap.size,none,some 26)]) (li':=[(w.heap.size,none,some 66)]) ⟨(.inl ⟨by omega,trivial,rfl⟩),trivial⟩ ⟨(.inl ⟨by omega,trivial,rfl⟩),trivial⟩),(h191.sub (l':=[(w.heap.size,none,some 66)]) (li':=[]) ⟨(.inl ⟨by omega,trivial,rfl⟩),trivial⟩ trivial),(h192.sub (l':=[(w.heap.size,none,some 124)]) (li':=[]) ⟨(.inl ⟨by omega,trivial,rfl⟩),trivial⟩ trivial)⟩
 refine CW.seq (CW.lex [.W,.M,.W,.W] rfl (pu 1 rfl (RW.sf tk j1 fun w44 x36 sx36 h196=>?_)))
 refine pu 2 rfl (RW.done (NW.next (CW.ret (NW.ret_then ?_))))
 obtain rfl:=Option.some.inj H
 have h197:=j2.tB x36
 exact NW.ret3 rfl (resOne_cell tk (h196.at 0) rfl rfl rfl) (by rfl) (by rfl) ⟨none,0,none,0,none,0,none,0,rfl,h197,Ow.nil,Ow.nil,Ow.nil,Ow.nil⟩
theorem r0_EqPairs.calls {k:Nat} {A1:Option Addr} {c_1:Nat} {p0:List Pair} {A2:Option Addr} {c_2:Nat} {p1:List Pair} {r:Bool} {w:World} (H:r0_EqPairs.f k p0 p1=some r) (hs1:Sl kPair w.heap okAll A1 p0) (hl1:p0.length≤c_1) (hs2:Sl kPair w.heap okAll A2 p1) (hl2:p1.length≤c_2):
 Calls Tryz.prog 109 #[.slice A1 p0.length c_1,.slice A2 p1.length c_2] w fun e w'=>e=.returned (.bool r)∧Ext w w':=by
 have h1:Sl kPair w.heap (okL [(0,some w.heap.size,none)]) A1 p0:=hs1.old _ rfl
 have h2:Sl kPair w.heap (okL [(0,some w.heap.size,none)]) A2 p1:=hs2.old _ rfl
 have x0:Ext w w:=Upd.refl _ w
 unfold r0_EqPairs.f at H
 refine cst Tryz.func109 26 ?_
 refine CW.seq (CW.lw 1 rfl (pu 1 rfl (RW.done (NW.next (CW.seq (CW.seq (CW.lw 5 rfl ?_)))))))
 refine pu 5 rfl (RW.done (NW.next (CW.n H (fun c1 H=>?_) fun c1 H=>?_)))
 refine CW.skip (NW.next (CW.seq (CW.seq (CW.lw 1 rfl (pu 1 rfl (RW.done (NW.next ?_)))))))
 refine CW.block ?_
 refine CW.loop (fun n1 a w1=>∃(va:Int),Sat 26 [(0,.slice A1 p0.length c_1),(1,.slice A2 p1.length c_2),(5,iv va)] a∧w.heap.size≤w1.heap.size∧Ext w w1∧r0_EqPairs.l0 p0 p1 n1 va=some r) k ?_ ?_
 exact fun a ha=>⟨0,ha.sb,by omega,x0,H⟩
 rintro n1 a w1 ⟨va,hS,hle,vb,H⟩ hp
 obtain _|n1:=n1
 cases H
 rw [r0_EqPairs.l0] at H
 refine CW.go hp hS (CW.seq (CW.seq (CW.lw 4 rfl (pu 4 rfl (RW.done (NW.next (CW.i H (fun c2 H=>?_) fun c2 H=>?_)))))))
 refine CW.skip (NW.next (CW.seq (CW.block (CW.seq (CW.ord [0,0,3,7,0,0,48,112,255] (ofL [(0,.W),(1,.W),(2,.W),(4,.W),(5,.W),(6,.W),(3,.L),(7,.L),(8,.W)] .nil) mixed (by kernel_rfl) ?_)))))
 intro w2 x1
 have sx1:=x1.size
 refine pu 2 rfl ?_
 obtain ⟨g1,H⟩:=guard_some H
 have h3:=(h1.ext vb).ext x1
 obtain ⟨ad1,e1,a1⟩:=kPair_at h3 g1.1 g1.2
 refine RW.ix tk g1 e1 ?_
 refine pu 2 rfl ?_
 obtain ⟨g2,H⟩:=guard_some H
 have h4:=(h2.ext vb).ext x1
 obtain ⟨ad2,e2,a2⟩:=kPair_at h4 g2.1 g2.2
 refine RW.ix tk g2 e2 ?_
 refine RW.ld tk _ a1 ?_
 refine RW.ld tk _ a2 ?_
 refine RW.eqAgg eqgPair (eqPair (⟨((rd p0 va).From),((rd p0 va).To)⟩:Pair) (⟨((rd p1 va).From),((rd p1 va).To)⟩:Pair)) ⟨rfl,rfl,rfl,rfl⟩ rfl rfl rfl rfl (RW.done (NW.next ?_))
 have j1:=vb.tr x1
 refine CW.n H (fun c3 H=>?_) fun c3 H=>?_
 refine CW.skip ?_
 refine NW.norm_block (NW.next ?_)
 refine CW.lw 3 rfl (pu 3 rfl (RW.done ?_))
 exact NW.J fun a ha=>⟨n1,Nat.lt_succ_self n1,(w64 (va+1)),ha.sb,by omega,j1,H⟩
 refine CW.seq (CW.lw 1 rfl (pu 1 rfl (RW.done (NW.next (CW.ret ?_)))))
 refine NW.ret_block (NW.ret_then (NW.ret_then (NW.ret_block (NW.ret_then ?_))))
 obtain rfl:=Option.some.inj H
 exact NW.r1 ⟨rfl,j1⟩
 refine CW.exit ?_
 refine NW.exit_then (NW.exit_then (NW.exit_hit ?_))
 refine NW.next (CW.seq (CW.lw 1 rfl (pu 1 rfl (RW.done (NW.next (CW.ret ?_))))))
 obtain rfl:=Option.some.inj H
 exact NW.r1 ⟨rfl,vb⟩
 refine CW.seq (CW.lw 1 rfl (pu 1 rfl (RW.done (NW.next (CW.ret (NW.ret_then ?_))))))
 obtain rfl:=Option.some.inj H
 exact NW.r1 ⟨rfl,x0⟩
theorem r0_EqPtrs.calls {k:Nat} {A1:Option Addr} {c_1:Nat} {p0:List Ptr} {A2:Option Addr} {c_2:Nat} {p1:List Ptr} {r:Bool} {w:World} (H:r0_EqPtrs.f k p0 p1=some r) (hs1:Sl kPtr w.heap okAll A1 p0) (hl1:p0.length≤c_1) (hs2:Sl kPtr w.heap okAll A2 p1) (hl2:p1.length≤c_2):
 Calls Tryz.prog 110 #[.slice A1 p0.length c_1,.slice A2 p1.length c_2] w fun e w'=>e=.returned (.bool r)∧Ext w w':=by
 have h1:Sl kPtr w.heap (okL [(0,some w.heap.size,none)]) A1 p0:=hs1.old _ rfl
 have h2:Sl kPtr w.heap (okL [(0,some w.heap.size,none)]) A2 p1:=hs2.old _ rfl
 have x0:Ext w w:=Upd.refl _ w
 unfold r0_EqPtrs.f at H
 refine cst Tryz.func110 26 ?_
 refine CW.seq (CW.lw 1 rfl (pu 1 rfl (RW.done (NW.next (CW.seq (CW.seq (CW.lw 5 rfl ?_)))))))
 refine pu 5 rfl (RW.done (NW.next (CW.n H (fun c1 H=>?_) fun c1 H=>?_)))
 refine CW.skip (NW.next (CW.seq (CW.seq (CW.lw 1 rfl (pu 1 rfl (RW.done (NW.next ?_)))))))
 refine CW.block ?_
 refine CW.loop (fun n1 a w1=>∃(va:Int),Sat 26 [(0,.slice A1 p0.length c_1),(1,.slice A2 p1.length c_2),(5,iv va)] a∧w.heap.size≤w1.heap.size∧Ext w w1∧r0_EqPtrs.l0 p0 p1 n1 va=some r) k ?_ ?_
 exact fun a ha=>⟨0,ha.sb,by omega,x0,H⟩
 rintro n1 a w1 ⟨va,hS,hle,vb,H⟩ hp
 obtain _|n1:=n1
 cases H
 rw [r0_EqPtrs.l0] at H
 refine CW.go hp hS (CW.seq (CW.seq (CW.lw 4 rfl (pu 4 rfl (RW.done (NW.next (CW.i H (fun c2 H=>?_) fun c2 H=>?_)))))))
 refine CW.skip (NW.next (CW.seq (CW.block (CW.seq (CW.ord [0,0,3,7,0,0,48,112,255] (ofL [(0,.W),(1,.W),(2,.W),(4,.W),(5,.W),(6,.W),(3,.L),(7,.L),(8,.W)] .nil) mixed (by kernel_rfl) ?_)))))
 intro w2 x1
 have sx1:=x1.size
 refine pu 2 rfl ?_
 obtain ⟨g1,H⟩:=guard_some H
 have h3:=(h1.ext vb).ext x1
 obtain ⟨ad1,e1,a1⟩:=kPtr_at h3 g1.1 g1.2
 refine RW.ix tk g1 e1 ?_
 refine pu 2 rfl ?_
 obtain ⟨g2,H⟩:=guard_some H
 have h4:=(h2.ext vb).ext x1
 obtain ⟨ad2,e2,a2⟩:=kPtr_at h4 g2.1 g2.2
 refine RW.ix tk g2 e2 ?_
 refine RW.ld tk _ a1 ?_
 refine RW.ld tk _ a2 ?_
 refine RW.eqAgg eqgPtr (eqPtr (rd p0 va) (rd p1 va)) ⟨rfl,rfl,rfl,rfl⟩ rfl rfl rfl rfl (RW.done (NW.next ?_))
 have j1:=vb.tr x1
 refine CW.n H (fun c3 H=>?_) fun c3 H=>?_
 refine CW.skip ?_
 refine NW.norm_block (NW.next ?_)
 refine CW.lw 3 rfl (pu 3 rfl (RW.done ?_))
 exact NW.J fun a ha=>⟨n1,Nat.lt_succ_self n1,(w64 (va+1)),ha.sb,by omega,j1,H⟩
 refine CW.seq (CW.lw 1 rfl (pu 1 rfl (RW.done (NW.next (CW.ret ?_)))))
 refine NW.ret_block (NW.ret_then (NW.ret_then (NW.ret_block (NW.ret_then ?_))))
 obtain rfl:=Option.some.inj H
 exact NW.r1 ⟨rfl,j1⟩
 refine CW.exit ?_
 refine NW.exit_then (NW.exit_then (NW.exit_hit ?_))
 refine NW.next (CW.seq (CW.lw 1 rfl (pu 1 rfl (RW.done (NW.next (CW.ret ?_))))))
 obtain rfl:=Option.some.inj H
 exact NW.r1 ⟨rfl,vb⟩
 refine CW.seq (CW.lw 1 rfl (pu 1 rfl (RW.done (NW.next (CW.ret (NW.ret_then ?_))))))
 obtain rfl:=Option.some.inj H
 exact NW.r1 ⟨rfl,x0⟩
end Go.Proofs.YtnaajldlloglkaaGreatDoor.W
