/- Walks; printed by a program of the claim. -/
import Derived.Test.YtnaajldlloglkaaGreatDoorMoveW7
set_option linter.unusedVariables false
set_option linter.unusedSimpArgs false
set_option maxHeartbeats 20000000
set_option maxRecDepth 100000
namespace Go.Proofs.YtnaajldlloglkaaGreatDoor.W
open Go.H Go.Proofs
theorem l10_only.calls {k:Nat} {p0:Script} {A1:Option Addr} {c_1:Nat} {A2:Option Addr} {c_2:Nat} {A3:Option Addr} {c_3:Nat} {A4:Option Addr} {c_4:Nat} {A5:Option Addr} {c_5:Nat} {p1:List Int} {r:Bool} {w:World} (H:l10_only.f k p0 p1=some r) (hs1:Sl kDeviceR w.heap okAll A1 p0.P.Devices) (hl1:p0.P.Devices.length≤c_1) (hs2:Sl kTableR w.heap okAll A2 p0.P.Tables) (hl2:p0.P.Tables.length≤c_2) (hs3:Sl kEntry w.heap okAll A3 p0.P.Job.Table.List_) (hl3:p0.P.Job.Table.List_.length≤c_3) (hs4:Sl kActR w.heap okAll A4 p0.A) (hl4:p0.A.length≤c_4) (hs5:Sl (Kd.int .i64) w.heap okAll A5 p1) (hl5:p1.length≤c_5) {gT:Nat} (hG:Box w.heap 0 gT (arrI .u8 64 tz)):
 Calls Tryz.prog 18 #[.agg #[.slice A1 p0.P.Devices.length c_1,.slice A2 p0.P.Tables.length c_2,iv p0.P.Job.Dev,iv p0.P.Job.At,iv p0.P.Job.Table.Dev,iv p0.P.Job.Table.Size,.slice A3 p0.P.Job.Table.List_.length c_3,iv p0.P.Next,.slice A4 p0.A.length c_4],.slice A5 p1.length c_5] w fun e w'=>e=.returned (.bool r)∧Ext w w':=by
 have h1:Sl kDeviceR w.heap (okL [(0,some w.heap.size,none)]) A1 p0.P.Devices:=hs1.old _ rfl
 have h2:Sl kTableR w.heap (okL [(0,some w.heap.size,none)]) A2 p0.P.Tables:=hs2.old _ rfl
 have h3:Sl kEntry w.heap (okL [(0,some w.heap.size,none)]) A3 p0.P.Job.Table.List_:=hs3.old _ rfl
 have h4:Sl kActR w.heap (okL [(0,some w.heap.size,none)]) A4 p0.A:=hs4.old _ rfl
 have h5:Sl (Kd.int .i64) w.heap (okL [(0,some w.heap.size,none)]) A5 p1:=hs5.old _ rfl
 have hG0:0<w.heap.size:=hG.lt
 have x0:Ext w w:=Upd.refl _ w
 unfold l10_only.f at H
 refine cst Tryz.func18 39 ?_
 refine CW.seq (CW.lex [.X,.W] rfl (RW.bx fun b1 w1 x1 sx1 l1 ltb1 h6=>?_))
 refine pu 1 rfl (RW.done (NW.next (CW.seq (CW.lex [.W,.L,.W,.X,.M] rfl (pu 1 rfl (RW.lb tk [.slice A1 p0.P.Devices.length c_1,.slice A2 p0.P.Tables.length c_2,iv p0.P.Job.Dev,iv p0.P.Job.At,iv p0.P.Job.Table.Dev,iv p0.P.Job.Table.Size,.slice A3 p0.P.Job.Table.List_.length c_3,iv p0.P.Next] h6 0 ?_))))))
 refine pu 1 rfl (RW.al tk fun b2 w2 x2 sx2 l2 ltb2 h7=>?_)
 refine RW.sf tk h7 fun w3 x3 sx3 h9=>?_
 refine RW.done (NW.next (CW.seq (CW.seq (CW.lw 1 rfl (pu 1 rfl (RW.done (NW.next ?_)))))))
 refine CW.block ?_
 refine CW.loop (fun n1 a w4=>∃(va:Int) (vb:List Act) (vd:Option Addr) (ve:Nat),Sat 39 [(1,.slice A5 p1.length c_5),(2,.pointer (some ⟨b1,0,none⟩)),(5,.pointer (some ⟨b2,0,none⟩)),(6,iv va)] a∧w3.heap.size≤w4.heap.size∧Ow kActR 60 w4.heap (okL [(w3.heap.size,none,some 60)]) (okL [(w3.heap.size,none,some 43),(0,some w.heap.size,none)]) vd ve vb∧Ext w w4∧Box w4.heap b1 33 [.slice A1 p0.P.Devices.length c_1,.slice A2 p0.P.Tables.length c_2,iv p0.P.Job.Dev,iv p0.P.Job.At,iv p0.P.Job.Table.Dev,iv p0.P.Job.Table.Size,.slice A3 p0.P.Job.Table.List_.length c_3,iv p0.P.Next,.slice A4 p0.A.length c_4]∧Box w4.heap b2 33 [.slice A1 p0.P.Devices.length c_1,.slice A2 p0.P.Tables.length c_2,iv p0.P.Job.Dev,iv p0.P.Job.At,iv p0.P.Job.Table.Dev,iv p0.P.Job.Table.Size,.slice A3 p0.P.Job.Table.List_.length c_3,iv p0.P.Next,.slice vd vb.length ve]∧l10_only.l0 p0 p1 k n1 va vb=some r) k ?_ ?_
 have h10:=((x0.tr x1).tr x2).tB x3
 have h11:=(h6.ext x2).tB x3
 exact fun a ha=>⟨0,([]:List Act),none,0,ha.sb,by omega,Ow.nil,h10,h11,h9,H⟩
 rintro n1 a w4 ⟨va,vb,vd,ve,hS,hle,vh,vc,vf,vg,H⟩ hp
 obtain _|n1:=n1
 cases H
 rw [l10_only.l0] at H
 refine CW.go hp hS ?_
 have h12:Ow kActR 60 w4.heap (okL [(w3.heap.size,some w4.heap.size,some 60)]) (okL [(w3.heap.size,some w4.heap.size,some 43),(0,some w.heap.size,none)]) vd ve vb:=vh.close
 have xt1:Ext w4 w4:=Upd.refl _ _
 refine CW.seq (CW.seq (CW.lex [.W,.W,.L,.W,.W] rfl (pu 2 rfl (RW.lb tk [.slice A4 p0.A.length c_4] vf 8 ?_))))
 refine pu 2 rfl (RW.done (NW.next (CW.i H (fun c1 H=>?_) fun c1 H=>?_)))
 refine CW.skip (NW.next (CW.seq (CW.block (CW.seq (CW.lex [.W,.L,.W,.W,.L,.X,.M] rfl (pu 1 rfl (RW.lb tk [.slice A4 p0.A.length c_4] vf 8 ?_)))))))
 refine pu 1 rfl ?_
 obtain ⟨g1,H⟩:=guard_some H
 obtain ⟨ad1,A6,c_6,e1,a1,l3,h13⟩:=kActR_at (h4.ext vc) g1.1 g1.2
 refine RW.ix tk g1 e1 ?_
 refine RW.ld tk _ a1 ?_
 refine RW.al tk fun b3 w5 x4 sx4 l4 ltb3 h14=>?_
 refine RW.sf tk h14 fun w6 x5 sx5 h16=>?_
 refine RW.done (NW.next (CW.seq (CW.lex [.W,.W,.W,.W,.W,.W,.L,.W,.M] rfl (pu 4 rfl ?_))))
 obtain ⟨g2,H⟩:=guard_some H
 refine RW.div g2 ⟨rfl,rfl,rfl,rfl⟩ rfl rfl rfl rfl ?_
 obtain ⟨g3,H⟩:=guard_some H
 have h17:=((h5.ext vc).ext x4).turnB x5 h14 ⟨.inr (by omega),trivial⟩
 obtain ⟨ad2,e2,a2⟩:=at_i64 h17 g3.1 g3.2
 refine RW.ix tk g3 e2 ?_
 refine RW.ld tk _ a2 ?_
 refine pu 1 rfl (RW.sp tk h16 [iv (rd p1 (va.tmod (p1.length:Int))),iv ((rd p0.A va).N),.slice A6 ((rd p0.A va).Q).length c_6] fun w7 x6 sx6 h19=>?_)
 refine RW.done (NW.next (CW.lex [.W,.L,.L,.X,.M,.W,.M] rfl (pu 1 rfl ?_)))
 have h20:=((vg.ext x4).tB x5).tB x6
 refine RW.lb tk [.slice vd vb.length ve] h20 8 ?_
 refine RW.lw tk h19 ?_
 refine RW.buildSlice (cs:=[iv (rd p1 (va.tmod (p1.length:Int))),iv ((rd p0.A va).N),.slice A6 ((rd p0.A va).Q).length c_6]) tk (.inl rfl) ⟨rfl,rfl,rfl,rfl⟩ rfl rfl rfl rfl rfl rfl rfl ?_
 intro b4 w8 x7 l5 h21
 have sx7:=x7.size
 have ltb4:=h21.lt
 have h22:=(((h12.ext x4).turnB x5 h14 ⟨.inr (by omega),trivial⟩ ⟨.inl (nq rfl),⟨.inr (by omega),trivial⟩⟩).turnB x6 h16 ⟨.inr (by omega),trivial⟩ ⟨.inl (nq rfl),⟨.inr (by omega),trivial⟩⟩).ext x7
 have h23:=(((h13.ext x4).turnB x5 h14 ⟨.inr (by omega),trivial⟩).turnB x6 h16 ⟨.inr (by omega),trivial⟩).ext x7
 obtain ⟨g4,H⟩:=guard_some H
 refine RW.append1L (d:=kActR) (v:=(⟨rd p1 (va.tmod (p1.length:Int)),(rd p0.A va).N,(rd p0.A va).Q⟩:Act)) (l:=[(w3.heap.size,some w4.heap.size,some 60)]) (li:=[(w3.heap.size,some w4.heap.size,some 43),(0,some w.heap.size,none)]) (ly:=[(0,some w.heap.size,none)]) (xs:=vb) tk h22 h21 (kActR_mk (⟨rd p1 (va.tmod (p1.length:Int)),(rd p0.A va).N,(rd p0.A va).Q⟩:Act) l3 (Sl.sub (l':=[(0,some w.heap.size,none)]) h23 ⟨(.inl ⟨by omega,by omega,trivial⟩),trivial⟩)) ⟨⟨.inr (.inl (by omega)),trivial⟩,trivial⟩ (by simp only [maxLen];omega) g4 ⟨rfl,rfl,rfl,rfl⟩ rfl rfl rfl rfl rfl rfl rfl ?_
 intro A7 c_7 w9 x8 h24
 have sx8:=x8.size
 have h25:=h24.close.sub (l':=[(w3.heap.size,some w9.heap.size,some 60)]) (li':=[(w3.heap.size,some w4.heap.size,some 43),(0,some w.heap.size,none)]) ⟨(.inl ⟨by omega,by omega,rfl⟩),⟨(.inl ⟨by omega,by omega,rfl⟩),trivial⟩⟩ ⟨(.inl ⟨by omega,by omega,rfl⟩),⟨(.inr (.inl ⟨by omega,by omega,trivial⟩)),⟨(.inr (.inl ⟨by omega,by omega,trivial⟩)),trivial⟩⟩⟩
 refine pu 1 rfl ?_
 have h26:=(h20.ext x7).tL x8
 refine RW.sp tk h26 [.slice A1 p0.P.Devices.length c_1,.slice A2 p0.P.Tables.length c_2,iv p0.P.Job.Dev,iv p0.P.Job.At,iv p0.P.Job.Table.Dev,iv p0.P.Job.Table.Size,.slice A3 p0.P.Job.Table.List_.length c_3,iv p0.P.Next,.slice A7 (vb++[(⟨rd p1 (va.tmod (p1.length:Int)),(rd p0.A va).N,(rd p0.A va).Q⟩:Act)]).length c_7] fun w10 x9 sx9 h28=>?_
 refine RW.done ?_
 refine NW.norm_block (NW.next ?_)
 refine CW.lw 3 rfl (pu 3 rfl (RW.done ?_))
 have h29:=h25.turnB x9 h26 ⟨.inl (nq rfl),trivial⟩ ⟨.inl (nq rfl),⟨.inr (by omega),trivial⟩⟩
 have h30:=(Ext.turn ((((vc.tr x4).tB x5).tB x6).tr x7) x8 ⟨by omega,trivial⟩).tB x9
 have h31:=(((((vf.ext x4).tB x5).tB x6).ext x7).tL x8).tB x9
 exact NW.J fun a ha=>⟨n1,Nat.lt_succ_self n1,(w64 (va+1)),(vb++[(⟨rd p1 (va.tmod (p1.length:Int)),(rd p0.A va).N,(rd p0.A va).Q⟩:Act)]),A7,c_7,ha.sb,by omega,(h29.sub ⟨(.inl ⟨by omega,trivial,rfl⟩),trivial⟩ ⟨(.inl ⟨by omega,trivial,rfl⟩),⟨(.inr (.inl ⟨by omega,by omega,trivial⟩)),trivial⟩⟩),h30,h31,h28,H⟩
 refine CW.exit ?_
 refine NW.exit_then (NW.exit_then (NW.exit_hit ?_))
 refine NW.next (CW.seq (CW.lex [.L,.X,.W] rfl (RW.lw tk vg ?_)))
 refine RW.cp H ent48 (fun _ h=>l10_MoveExact.calls h (h1.ext vc).all hl1 (h2.ext vc).all hl2 (h3.ext vc).all hl3 h12.all h12.len (hG.ext vc)) fun y1 w11 x10 sx10 H=>?_
 refine pu 1 rfl (RW.done (NW.next (CW.ret ?_)))
 obtain rfl:=Option.some.inj H
 have h33:=vc.tr x10
 exact NW.r1 ⟨rfl,h33⟩
theorem l10_MoveTidies.calls {k:Nat} {p0:Script} {A1:Option Addr} {c_1:Nat} {A2:Option Addr} {c_2:Nat} {A3:Option Addr} {c_3:Nat} {A4:Option Addr} {c_4:Nat} {r:Bool} {w:World} (H:l10_MoveTidies.f k p0=some r) (hs1:Sl kDeviceR w.heap okAll A1 p0.P.Devices) (hl1:p0.P.Devices.length≤c_1) (hs2:Sl kTableR w.heap okAll A2 p0.P.Tables) (hl2:p0.P.Tables.length≤c_2) (hs3:Sl kEntry w.heap okAll A3 p0.P.Job.Table.List_) (hl3:p0.P.Job.Table.List_.length≤c_3) (hs4:Sl kActR w.heap okAll A4 p0.A) (hl4:p0.A.length≤c_4) {gT:Nat} (hG:Box w.heap 0 gT (arrI .u8 64 tz)):
 Calls Tryz.prog 6 #[.agg #[.slice A1 p0.P.Devices.length c_1,.slice A2 p0.P.Tables.length c_2,iv p0.P.Job.Dev,iv p0.P.Job.At,iv p0.P.Job.Table.Dev,iv p0.P.Job.Table.Size,.slice A3 p0.P.Job.Table.List_.length c_3,iv p0.P.Next,.slice A4 p0.A.length c_4]] w fun e w'=>e=.returned (.bool r)∧Ext w w':=by
 have h1:Sl kDeviceR w.heap (okL [(0,some w.heap.size,none)]) A1 p0.P.Devices:=hs1.old _ rfl
 have h2:Sl kTableR w.heap (okL [(0,some w.heap.size,none)]) A2 p0.P.Tables:=hs2.old _ rfl
 have h3:Sl kEntry w.heap (okL [(0,some w.heap.size,none)]) A3 p0.P.Job.Table.List_:=hs3.old _ rfl
 have h4:Sl kActR w.heap (okL [(0,some w.heap.size,none)]) A4 p0.A:=hs4.old _ rfl
 have hG0:0<w.heap.size:=hG.lt
 have x0:Ext w w:=Upd.refl _ w
 unfold l10_MoveTidies.f at H
 refine cst Tryz.func6 6 ?_
 refine CW.seq (CW.lex [.X,.W] rfl (RW.bx fun b1 w1 x1 sx1 l1 ltb1 h5=>?_))
 refine pu 1 rfl (RW.done (NW.next (CW.seq (CW.lex [.L,.X,.X,.W] rfl (RW.lw tk h5 ?_)))))
 refine RW.buildSlice (cs:=[iv 1,iv 3,iv 3,iv 7,iv 7]) tk (.inl rfl) ⟨rfl,rfl,rfl,rfl⟩ rfl rfl rfl rfl rfl rfl rfl ?_
 intro b2 w2 x2 l2 h6
 have sx2:=x2.size
 have ltb2:=h6.lt
 have h7:=(h1.ext x1).ext x2
 have h8:=(h2.ext x1).ext x2
 have h9:=(h3.ext x1).ext x2
 have h10:=(h4.ext x1).ext x2
 have h11:Ow (Kd.int .i64) 3 w2.heap (okL [(w1.heap.size,some w2.heap.size,some 3)]) (okL []) (some ⟨b2,0,none⟩) 5 ([1,3,3,7,7]:List Int):=Ow.of_box h6 (.inl ⟨l2,ltb2,rfl⟩) (Nat.le_of_ble_eq_true rfl) (Ch.cons (d:=(Kd.int .i64)) (cs:=[iv 1]) (x:=1) rfl (Ch.cons (d:=(Kd.int .i64)) (cs:=[iv 3]) (x:=3) rfl (Ch.cons (d:=(Kd.int .i64)) (cs:=[iv 3]) (x:=3) rfl (Ch.cons (d:=(Kd.int .i64)) (cs:=[iv 7]) (x:=7) rfl (Ch.cons (d:=(Kd.int .i64)) (cs:=[iv 7]) (x:=7) rfl Ch.nil)))))
 have h12:=(hG.ext x1).ext x2
 refine RW.cp H ent18 (fun _ h=>l10_only.calls h h7.all hl1 h8.all hl2 h9.all hl3 h10.all hl4 h11.all h11.len h12) fun y1 w3 x3 sx3 H=>?_
 refine pu 1 rfl (RW.done (NW.next (CW.ret ?_)))
 obtain rfl:=Option.some.inj H
 have h14:=((x0.tr x1).tr x2).tr x3
 exact NW.r1 ⟨rfl,h14⟩
end Go.Proofs.YtnaajldlloglkaaGreatDoor.W
