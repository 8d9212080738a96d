/- slices.Delete and slices.Insert on rows of the call's own. -/
import Derived.Test.YtnaajldlloglkaaGreatDoorMoveW
import Derived.Test.YtnaajldlloglkaaGreatDoorL2
set_option linter.unusedVariables false
set_option linter.unusedSimpArgs false
namespace Go.Proofs.YtnaajldlloglkaaGreatDoor.W
open Go.H Go.Proofs
theorem zeroDevice {h:Go.H.Heap} {ok:Fp}:kDeviceO.rep h ok [.int .i64 0,.int .i64 0,.slice none 0 0,.slice none 0 0] (⟨0,0,[],[]⟩:Device):=kDeviceO_mk ⟨0,0,[],[]⟩ Ow.nil Ow.nil
theorem zeroTable {h:Go.H.Heap} {ok:Fp}:kTableO.rep h ok [.int .i64 0,.int .i64 0,.slice none 0 0] (⟨0,0,[]⟩:Table):=kTableO_mk ⟨0,0,[]⟩ Ow.nil
set_option maxRecDepth 100000 in
theorem slices_Delete_Device.calls {l li:List Seg3} (A:Option Addr) (c:Nat) (p0:List Device) (p1 p2:Int) (r:List Device) (w:World) (hO:Ow kDeviceO 40 w.heap (okL l) (okL li) A c p0) (H:slices_Delete_Device.f p0 p1 p2=some r):
 Calls Tryz.prog 73 #[.slice A p0.length c,.int .i64 p1,.int .i64 p2] w fun e w'=>e=.returned (.slice A r.length c)∧Upd (rowS (okL l) 40) w w'∧Ow kDeviceO 40 w'.heap (okL l) (okL li) A c r:=by
 unfold slices_Delete_Device.f at H
 obtain ⟨g,H⟩:=guard_some H
 obtain rfl:=Option.some.inj H
 have hlen:=hO.len
 refine calls_start Tryz.func73 rfl 33 rfl [.slice A p0.length c,.int .i64 p1,.int .i64 p2] rfl ?_
 refine CW.seq ?_
 refine CW.lex [.W] rfl ?_
 refine RW.pure tk 1 rfl ?_
 refine RW.done ?_
 refine NW.next ?_
 refine CW.seq ?_
 refine CW.lex [.W,.W,.W,.W,.W,.W] rfl ?_
 refine RW.pure tk 5 rfl ?_
 refine RW.sliceAll tk g.1 g.2.1 g.2.2 (by omega) ⟨rfl,rfl,rfl,rfl⟩ rfl rfl rfl rfl rfl rfl rfl rfl ?_
 refine RW.done ?_
 refine NW.next ?_
 refine CW.seq ?_
 refine CW.seq ?_
 refine CW.lex [.W,.W,.W] rfl ?_
 refine RW.pure tk 3 rfl ?_
 refine RW.done ?_
 refine NW.next ?_
 by_cases c1:p1=p2
 ·refine CW.cond_t rfl (beq_t c1) ?_
  refine CW.seq ?_
  refine CW.lex [.W,.W] rfl ?_
  refine RW.pure tk 2 rfl ?_
  refine RW.done ?_
  refine NW.next ?_
  refine CW.ret ?_
  refine NW.ret_then ?_
  have e:p0.take p1.toNat++p0.drop p2.toNat=p0:=by subst c1;exact List.take_append_drop _ _
  rw [e]
  exact NW.ret1 rfl (by rfl) ⟨rfl,Upd.refl _ _,hO⟩
 ·refine CW.cond_f rfl (beq_f c1) ?_
  refine CW.skip ?_
  refine NW.next ?_
  refine CW.seq ?_
  refine CW.lex [.W,.W,.W] rfl ?_
  refine RW.pure tk 3 rfl ?_
  refine RW.done ?_
  refine NW.next ?_
  refine CW.seq ?_
  refine CW.ord [0,0,3,0,0,24,63,127] (ofL [(0,.W),(1,.W),(2,.W),(3,.W),(4,.W),(5,.W),(6,.M),(7,.W)] .nil) mixed (by kernel_rfl) ?_
  intro w1 x1
  have h1:=hO.ext x1
  have e1:(p0.take p1.toNat).length=p1.toNat:=by rw [List.length_take];omega
  refine RW.pure tk 2 rfl ?_
  refine RW.sliceTo tk g.1 (show p1≤(p0.length:Int) by omega) hlen ⟨rfl,rfl,rfl,rfl⟩ rfl rfl rfl rfl rfl rfl ?_
  rw [e1]
  refine RW.pure tk 2 rfl ?_
  refine RW.sliceFrom tk (show 0≤p2 by omega) g.2.2 hlen ⟨rfl,rfl,rfl,rfl⟩ rfl rfl rfl rfl rfl rfl ?_
  refine RW.slide tk h1 (p:=p1.toNat) (q:=p2.toNat) (by omega) (by omega) ⟨rfl,rfl,rfl,rfl⟩ rfl rfl rfl rfl rfl rfl rfl ?_
  intro w2 x2 h2
  have e2:(p0.take p1.toNat++p0.drop p2.toNat).length=p1.toNat+(p0.length-p2.toNat):=by rw [List.length_append,e1,List.length_drop]
  have e3:(p0.take p1.toNat++p0.drop p2.toNat++p0.drop (p1.toNat+(p0.length-p2.toNat))).length=p0.length:=by rw [List.length_append,e2,List.length_drop];omega
  refine RW.pure tk 1 rfl ?_
  refine RW.done ?_
  refine NW.next ?_
  refine CW.seq ?_
  refine CW.lex [.W,.W,.W,.W,.W,.M] rfl ?_
  refine RW.pure tk 4 rfl ?_
  refine RW.sliceMid tk (j:=((p1.toNat+(p0.length-p2.toNat):Nat):Int)) (j':=(p0.length:Int)) (by omega) (by omega) (by omega) ⟨rfl,rfl,rfl,rfl⟩ rfl rfl rfl rfl rfl rfl rfl ?_
  refine RW.clearTail (j:=p1.toNat+(p0.length-p2.toNat)) (z0:=(⟨0,0,[],[]⟩:Device)) tk h2 (by rw [e3];omega) ⟨rfl,rfl,rfl⟩ rfl rfl rfl rfl rfl (fun _=>zeroDevice) (by rw [e3];rfl) ?_
  intro w3 x3 h3
  refine RW.done ?_
  refine NW.next ?_
  refine CW.seq ?_
  refine CW.lex [.W,.W] rfl ?_
  refine RW.pure tk 2 rfl ?_
  refine RW.done ?_
  refine NW.next ?_
  refine CW.ret ?_
  have h4:=h3.take (p1.toNat+(p0.length-p2.toNat))
  rw [List.take_left' (by rw [List.length_take,e3];omega),List.take_left' (by rw [e2])] at h4
  rw [←e2]
  exact NW.ret1 rfl (by rfl) ⟨rfl,Upd.ext_left x1 (Upd.trans x2 x3 fun i hi h1 h2=>h1 h2),h4⟩
theorem shape_cells {w:World} {b:Nat} {cur:Array Value} {T:TypeId} (h:w.heap[b]?=some (.cells cur T (0,0))):w.shape? b=some (T,cur.size):=by
 simp [World.shape?,h]
theorem frozen_cells {w:World} {b k:Nat} {cur:Array Value} {T:TypeId} (h:w.heap[b]?=some (.cells cur T (0,0))):w.frozen? ⟨b,k,none⟩=false:=by
 simp [World.frozen?,h]
set_option maxHeartbeats 4000000 in
set_option maxRecDepth 100000 in
theorem slices_Insert_Table.calls {l li ly:List Seg3} (A:Option Addr) (c:Nat) (p0:List Table) (p1:Int) (v:Table) (vb:Nat) (ycs:List Value) (r:List Table) (w:World) (hO:Ow kTableO 26 w.heap (okL l) (okL li) A c p0) (hb:Box w.heap vb 26 ycs) (hv:kTableO.rep w.heap (okL ly) ycs v) (hap:allD 26 ly l) (hnb:notIn vb 26 l) (H:slices_Insert_Table.f p0 p1 v=some r):
 Calls Tryz.prog 74 #[.slice A p0.length c,.int .i64 p1,.slice (some ⟨vb,0,none⟩) 1 1] w fun e w'=>∃(A':Option Addr) (c':Nat),e=.returned (.slice A' r.length c')∧Upd (rowS (okL l) 26) w w'∧Ow kTableO 26 w'.heap (okL (l++[(w.heap.size,none,some 26)])) (okL (li++ly)) A' c' r:=by
 unfold slices_Insert_Table.f at H
 obtain ⟨g,H⟩:=guard_some H
 obtain rfl:=Option.some.inj H
 have hlen:=hO.len
 have hcap:c≤maxLen∨p0.length=0:=by
  rcases hO with ⟨rfl,rfl⟩|⟨b,cur,fl,_,_,h2,_⟩
  ·exact .inr rfl
  ·exact .inl h2
 have hvc:Ch kTableO w.heap (okL ly) (ycs++[]) [v]:=Ch.cons hv Ch.nil
 rw [List.append_nil] at hvc
 have hvl:ycs.length=3:=kTableO.len hv
 obtain ⟨n,hn⟩:∃n:Nat,p1=(n:Int):=⟨p1.toNat,by omega⟩
 subst hn
 simp only [Int.toNat_natCast]
 refine calls_start Tryz.func74 rfl 95 rfl [.slice A p0.length c,.int .i64 (n:Int),.slice (some ⟨vb,0,none⟩) 1 1] rfl ?_
 refine CW.seq ?_
 refine CW.lex [.W] rfl ?_
 refine RW.pure tk 1 rfl ?_
 refine RW.done ?_
 refine NW.next ?_
 refine CW.seq ?_
 refine CW.lex [.W,.W,.W] rfl ?_
 refine RW.pure tk 2 rfl ?_
 refine RW.sliceLo tk (q:=n) rfl (by omega) hlen ⟨rfl,rfl,rfl,rfl⟩ rfl rfl rfl rfl rfl rfl ?_
 refine RW.done ?_
 refine NW.next ?_
 refine CW.seq ?_
 refine CW.lex [.W,.W,.W] rfl ?_
 refine RW.pure tk 3 rfl ?_
 refine RW.done ?_
 refine NW.next ?_
 refine CW.seq ?_
 refine CW.seq ?_
 refine CW.lex [.W,.W] rfl ?_
 refine RW.pure tk 2 rfl ?_
 refine RW.done ?_
 refine NW.next ?_
 refine CW.cond_f rfl (by decide) ?_
 refine CW.skip ?_
 refine NW.next ?_
 refine CW.seq ?_
 refine CW.lex [.W,.W,.W] rfl ?_
 refine RW.pure tk 3 rfl ?_
 refine RW.done ?_
 refine NW.next ?_
 refine CW.seq ?_
 refine CW.seq ?_
 refine CW.lex [.W,.W,.W] rfl ?_
 refine RW.pure tk 3 rfl ?_
 refine RW.done ?_
 refine NW.next ?_
 by_cases c1:(n:Int)=(p0.length:Int)
 ·refine CW.cond_t rfl (beq_t c1) ?_
  refine CW.seq ?_
  refine CW.lex [.W,.W,.M,.W] rfl ?_
  refine RW.pure tk 2 rfl ?_
  refine RW.append1L (d:=kTableO) (v:=v) (l:=l) (li:=li) (ly:=ly) (xs:=p0) tk hO hb hv hap (by simp only [maxLen];omega) g.2.2 ⟨rfl,rfl,rfl,rfl⟩ rfl rfl rfl rfl rfl rfl rfl ?_
  intro A2 c2 w2 x2 h2
  refine RW.pure tk 1 rfl ?_
  refine RW.done ?_
  refine NW.next ?_
  refine CW.ret ?_
  refine NW.ret_then ?_
  have e:p0.take n++v::p0.drop n=p0++[v]:=by rw [List.take_of_length_le (by omega),List.drop_of_length_le (by omega)]
  rw [e]
  exact NW.ret1 rfl (by rfl) ⟨A2,c2,rfl,x2,h2⟩
 ·refine CW.cond_f rfl (beq_f c1) ?_
  refine CW.skip ?_
  refine NW.next ?_
  have hnl:n<p0.length:=by omega
  have hcm:c≤maxLen:=by rcases hcap with h|h;exact h;omega
  have hcm':c≤9223372036854775807:=by simp only [maxLen] at hcm;omega
  have ew:w64 ((p0.length:Int)+((1:Nat):Int))=((p0.length+1:Nat):Int):=by rw [w64_id (by omega) (by omega)];omega
  have en:w64 ((n:Int)+((1:Nat):Int))=((n+1:Nat):Int):=by rw [w64_id (by omega) (by omega)];omega
  refine CW.seq ?_
  refine CW.seq ?_
  refine CW.lex [.W,.W,.W,.W,.W,.W] rfl ?_
  refine RW.pure tk 4 rfl ?_
  refine RW.capS tk ⟨rfl,rfl,rfl,rfl⟩ rfl rfl rfl rfl ?_
  refine RW.pure tk 1 rfl ?_
  refine RW.done ?_
  refine NW.next ?_
  by_cases c2:(c:Int)<w64 ((p0.length:Int)+((1:Nat):Int))
  ·refine CW.cond_t rfl (decide_eq_true c2) ?_
   rw [ew] at c2
   have hcn:c<n+(p0.length+1-n):=by omega
   refine CW.seq ?_
   refine CW.lex [.W,.W,.W,.W,.W,.W,.W,.W,.M,.W] rfl ?_
   refine RW.pure tk 2 rfl ?_
   refine RW.sliceHi tk (q:=n) rfl (by omega) ⟨rfl,rfl,rfl,rfl⟩ rfl rfl rfl rfl rfl rfl ?_
   refine RW.pure tk 5 rfl ?_
   refine RW.appendZ (d:=kTableO) (j:=n) (k:=p0.length+1-n) (z0:=(⟨0,0,[]⟩:Table)) tk hO (by omega) (by omega) hcn (by simp only [maxLen];omega) (by show (n+(p0.length+1-n))*40≤_;omega) ⟨rfl,rfl,rfl,rfl⟩ rfl rfl rfl rfl Tryz.underlying3 rfl (fun _ _=>zeroTable) rfl rfl (by show w64 (w64 ((p0.length:Int)+((1:Nat):Int))-(n:Int))=_;rw [ew,w64_id (by omega) (by omega)];omega) ?_
   intro c3 w3 x3 lt3 hc3 h3
   have e3:(p0.take n++List.replicate (p0.length+1-n) (⟨0,0,[]⟩:Table)).length=p0.length+1:=by rw [List.length_append,List.length_take,List.length_replicate];omega
   rw [e3]
   refine RW.pure tk 1 rfl ?_
   refine RW.done ?_
   refine NW.next ?_
   refine CW.seq ?_
   refine CW.lex [.W,.W,.W,.W,.M] rfl ?_
   refine RW.pure tk 2 rfl ?_
   refine RW.sliceLo tk (q:=n) rfl (by omega) (by omega) ⟨rfl,rfl,rfl,rfl⟩ rfl rfl rfl rfl rfl rfl ?_
   refine RW.pure tk 1 rfl ?_
   have hb3:=hb.ext x3
   have own3:∀{b:Nat},ownS (some ⟨w.heap.size,0,none⟩) c3 b none→b=w.heap.size:=fun {b} hs=>by
    obtain ⟨_,ad,e,e'⟩:=hs
    cases e
    exact e'.symm
   have hv3:Ch kTableO w3.heap (okL (closeS w.heap.size ly)) ycs [v]:=(hvc.mono fun b hb' ho=>closeS_ok hb' ho).upd fun b hb' _=>x3.get hb'
   have cl:∀{l:List Seg3} {b:Nat} {t:Option TypeId},okL (closeS w.heap.size l) b t→b<w.heap.size∨∃h,w.heap.size<h:=fun {l b t} ho=>by
    by_cases z:b<w.heap.size
    ·exact .inl z
    ·exact .inr ⟨w.heap.size+1,by omega⟩
   have hv3':Ch kTableO w3.heap (fun b t=>okL ly b t∧b<w.heap.size) ycs [v]:=(hvc.mono (ok':=fun b t=>okL ly b t∧b<w.heap.size) fun b hb' ho=>⟨ho,hb'⟩).upd fun b hb' _=>x3.get hb'
   refine RW.copyPut (d:=kTableO) (ys:=[v]) (j:=n) (us:=ycs) (ad:=⟨vb,0,none⟩) tk h3 (by rw [e3];omega) (by rw [e3];simp only [List.length_cons,List.length_nil];omega) hv3' (by have:=hb3.at 0;simpa using this) (fun b hb' ho hs=>by have:=own3 hs;have:=ho.2;omega) ⟨rfl,rfl,rfl,rfl⟩ rfl rfl rfl rfl rfl (by rw [e3];rfl) rfl rfl ?_
   intro w4 m4 x4 h4
   have x34:Ext w w4:=Ext.of_new x3 x4 fun i hi hs=>by have:=own3 hs;omega
   have e4:(p0.take n++List.replicate (p0.length+1-n) (⟨0,0,[]⟩:Table)).take n=p0.take n:=by rw [List.take_left' (by rw [List.length_take];omega)]
   have e5:(p0.take n++List.replicate (p0.length+1-n) (⟨0,0,[]⟩:Table)).drop (n+[v].length)=List.replicate (p0.length-n) (⟨0,0,[]⟩:Table):=by
    rw [List.drop_append,List.length_take,List.drop_of_length_le (by rw [List.length_take];simp only [List.length_cons,List.length_nil];omega),List.nil_append,List.drop_replicate]
    congr 1
    simp only [List.length_cons,List.length_nil]
    omega
   rw [e4,e5] at h4
   refine RW.done ?_
   refine NW.next ?_
   refine CW.seq ?_
   refine CW.ord [0,0,0,6,15,0,0,96,255] (ofL [(0,.W),(1,.W),(2,.W),(3,.W),(4,.W),(5,.W),(6,.W),(7,.W),(8,.M)] .nil) mixed (by kernel_rfl) ?_
   intro w5 x5
   have x35:=x34.trans x5
   have h5:Ow kTableO 26 w5.heap (newS w.heap.size 26) (orS (okL li) fun b t=>okL ly b t∧b<w.heap.size) (some ⟨w.heap.size,0,none⟩) c3 (p0.take n++[v]++List.replicate (p0.length-n) (⟨0,0,[]⟩:Table)):=h4.ext x5
   have e6:(p0.take n++[v]++List.replicate (p0.length-n) (⟨0,0,[]⟩:Table)).length=p0.length+1:=by simp only [List.length_append,List.length_take,List.length_replicate,List.length_cons,List.length_nil];omega
   refine RW.pure tk 4 rfl ?_
   refine RW.sliceLo tk (q:=n+1) en (by omega) (by omega) ⟨rfl,rfl,rfl,rfl⟩ rfl rfl rfl rfl rfl rfl ?_
   refine RW.pure tk 2 rfl ?_
   refine RW.sliceLo tk (q:=n) rfl (by omega) hlen ⟨rfl,rfl,rfl,rfl⟩ rfl rfl rfl rfl rfl rfl ?_
   obtain ⟨yc,hyc,hB⟩:=Ow.chTail (j:=n) hO (by omega)
   obtain ⟨ad,ead,had⟩:=hB (by rw [List.length_drop];omega)
   have ead':(if c=n then A else A.map fun x=>x.add (n*3))=some ad:=ead
   have hyc':Ch kTableO w5.heap (fun b t=>okL li b t∧b<w.heap.size) yc (p0.drop n):=(hyc.mono (ok':=fun b t=>okL li b t∧b<w.heap.size) fun b hb' ho=>⟨ho,hb'⟩).upd fun b hb' _=>x35.get hb'
   have had':=had.ext x35
   refine RW.copyPut (d:=kTableO) (ys:=p0.drop n) (j:=n+1) (us:=yc) (ad:=ad) (n:=p0.length-n) (cB:=c-n) tk h5 (by rw [e6];omega) (by rw [e6,List.length_drop];omega) hyc' had' (fun b hb' ho hs=>by have:=own3 hs;have:=ho.2;omega) ⟨rfl,rfl,rfl,rfl⟩ rfl rfl rfl rfl rfl (by rw [e6];rfl) (by rw [←ead'];rfl) (by rw [List.length_drop]) ?_
   intro w6 m6 x6 h6
   have x36:Ext w w6:=Ext.of_new x35 x6 fun i hi hs=>by have:=own3 hs;omega
   refine RW.done ?_
   refine NW.next ?_
   refine CW.seq ?_
   refine CW.lex [.W,.W] rfl ?_
   refine RW.pure tk 2 rfl ?_
   refine RW.done ?_
   refine NW.next ?_
   refine CW.ret ?_
   refine NW.ret_then ?_
   have e7:(p0.take n++[v]++List.replicate (p0.length-n) (⟨0,0,[]⟩:Table)).take (n+1)=p0.take n++[v]:=List.take_left' (by simp only [List.length_append,List.length_take,List.length_cons,List.length_nil];omega)
   have e8:(p0.take n++[v]++List.replicate (p0.length-n) (⟨0,0,[]⟩:Table)).drop (n+1+(p0.drop n).length)=[]:=List.drop_of_length_le (by rw [e6,List.length_drop];omega)
   rw [e7,e8,List.append_nil] at h6
   have e9:p0.take n++[v]++p0.drop n=p0.take n++v::p0.drop n:=by simp
   rw [e9] at h6
   have e10:(p0.take n++v::p0.drop n).length=p0.length+1:=by simp only [List.length_append,List.length_take,List.length_cons,List.length_drop];omega
   rw [e10]
   refine NW.ret1 rfl (by rfl) ⟨_,_,rfl,x36.upd,h6.mono (fun b _ ho=>?_) fun b _ ho=>?_⟩
   ·exact okL_append.2 (.inr (.inl ⟨ho.1,trivial,ho.2⟩))
   ·rcases ho with (ho|ho)|ho
    ·exact okL_append.2 (.inl ho)
    ·exact okL_append.2 (.inr ho.1)
    ·exact okL_append.2 (.inl ho.1)
  ·refine CW.cond_f rfl (decide_eq_false c2) ?_
   rw [ew] at c2
   have hroom:p0.length+1≤c:=by omega
   refine CW.skip ?_
   refine NW.next ?_
   refine CW.seq ?_
   refine CW.lex [.W,.W,.W,.W,.W,.W] rfl ?_
   refine RW.pure tk 4 rfl ?_
   refine RW.sliceHi tk (q:=p0.length+1) ew hroom ⟨rfl,rfl,rfl,rfl⟩ rfl rfl rfl rfl rfl rfl ?_
   refine RW.pure tk 1 rfl ?_
   refine RW.done ?_
   refine NW.next ?_
   refine CW.seq ?_
   refine CW.seq ?_
   refine CW.lex [.W,.W,.W,.W,.W,.W,.M,.W] rfl ?_
   refine RW.pure tk 5 rfl ?_
   refine RW.sliceLo tk (q:=n+1) en (by omega) hroom ⟨rfl,rfl,rfl,rfl⟩ rfl rfl rfl rfl rfl rfl ?_
   obtain ⟨b,cur,fl,hA',hc,_,hxc,hok,hbl,hcs,hfl,hch⟩:=hO.storeAt hnl
   have hbv:vb≠b:=fun z=>by subst z;exact notIn_no hnb hok
   have hov:(callFunc 98 #[.slice (some ⟨vb,0,none⟩) 1 1,.slice (if c=n+1 then A else A.map (·.add ((n+1)*3))) (p0.length+1-(n+1)) (c-(n+1))]).run Tryz.prog w=.ok (.value (.bool false)) w:=by
    rw [if_neg (show ¬c=n+1 by omega),hA',Option.map_some,add_lit0]
    have hbx:w.heap[vb]?=some (.cells ycs.toArray 26 (0,0)):=hb
    obtain ⟨inf,hi,hs,_⟩:=(tk.get (show tab.get 26=some _ from rfl)).info
    rw [run_callFunc_extern Tryz.func98 (by kernel_rfl) (by kernel_rfl) (by kernel_rfl) (e:=Extern.SlicesOverlaps.overlaps #[23,23] #[4]) (by kernel_rfl),
     Lib.run_overlaps_apart w 23 4 26 Tryz.underlying23 3 (tk.get (show tab.get 26=some _ from rfl)).run_sizeOf ⟨vb,0,none⟩ ⟨b,(n+1)*3,none⟩ 1 1 _ _ hbv 26 26 _ _ (shape_cells hbx) (shape_cells hbl) (by rw [hcs];have:0<kTableO.sz:=kTableO.pos;exact Nat.ne_of_gt (Nat.mul_pos hc this)) (frozen_cells hbx) (frozen_cells hbx)]
    rfl
   refine RW.callExt ⟨rfl,rfl,rfl,rfl⟩ rfl rfl hov ?_
   refine RW.pure tk 1 rfl ?_
   refine RW.done ?_
   refine NW.next ?_
   refine CW.cond_t rfl rfl ?_
   refine CW.seq ?_
   refine CW.ord [0,0,0,6,15,0,0,96,255] (ofL [(0,.W),(1,.W),(2,.W),(3,.W),(4,.W),(5,.W),(6,.W),(7,.W),(8,.M)] .nil) mixed (by kernel_rfl) ?_
   intro w3 x3
   have h3:=hO.ext x3
   refine RW.pure tk 4 rfl ?_
   refine RW.sliceLo tk (q:=n+1) en (by omega) hroom ⟨rfl,rfl,rfl,rfl⟩ rfl rfl rfl rfl rfl rfl ?_
   refine RW.pure tk 2 rfl ?_
   refine RW.sliceLo tk (q:=n) rfl (by omega) hroom ⟨rfl,rfl,rfl,rfl⟩ rfl rfl rfl rfl rfl rfl ?_
   refine RW.copyShift (d:=kTableO) (j:=n) tk h3 hnl hroom ⟨rfl,rfl,rfl,rfl⟩ rfl rfl rfl rfl rfl rfl rfl ?_
   intro w4 m4 x4 h4
   have e4:(p0.take (n+1)++p0.drop n).length=p0.length+1:=by simp only [List.length_append,List.length_take,List.length_drop];omega
   refine RW.done ?_
   refine NW.next ?_
   refine CW.seq ?_
   refine CW.lex [.W,.W,.W,.W,.M] rfl ?_
   refine RW.pure tk 2 rfl ?_
   refine RW.sliceLo tk (q:=n) rfl (by omega) hroom ⟨rfl,rfl,rfl,rfl⟩ rfl rfl rfl rfl rfl rfl ?_
   refine RW.pure tk 1 rfl ?_
   have own4:∀{b':Nat},ownS A c b' none→b'=b:=fun {b'} hs=>by
    obtain ⟨_,ad,e,e'⟩:=hs
    rw [hA'] at e
    cases e
    exact e'.symm
   have bT:∀{b':Nat},ownS A c b' none→Go.H.ty w.heap b'=some 26:=fun {b'} hs=>by rw [own4 hs];exact ty_cells hbl
   have x34:Upd (ownS A c) w w4:=Upd.ext_left x3 x4
   have okb:∀b',b'<w.heap.size→okL ly b' (Go.H.ty w.heap b')→ownS A c b' none→False:=fun b' hb' ho hs=>by
    have e:=own4 hs
    subst e
    rw [ty_cells hbl] at ho
    exact dis_of hap _ _ ho ⟨hok,rfl⟩
   have hb4:Box w4.heap vb 26 ycs:=by
    show w4.heap[vb]?=_
    rw [x34.keep vb hb.lt fun hs=>hbv (own4 hs)]
    exact hb
   have hv4:Ch kTableO w4.heap (fun b' t=>okL ly b' t∧b'≠b) ycs [v]:=(hvc.mono (ok':=fun b' t=>okL ly b' t∧b'≠b) fun b' hb' ho=>⟨ho,fun e=>okb b' hb' ho ⟨hc,_,hA',e.symm⟩⟩).upd fun b' hb' ho=>x34.keep b' hb' fun hs=>ho.2 (own4 hs)
   refine RW.copyPut (d:=kTableO) (ys:=[v]) (j:=n) (us:=ycs) (ad:=⟨vb,0,none⟩) tk h4 (by rw [e4];omega) (by rw [e4];simp only [List.length_cons,List.length_nil];omega) hv4 (by have:=hb4.at 0;simpa using this) (fun b' hb' ho hs=>ho.2 (own4 hs)) ⟨rfl,rfl,rfl,rfl⟩ rfl rfl rfl rfl rfl (by rw [e4];rfl) rfl rfl ?_
   intro w5 m5 x5 h5
   refine RW.done ?_
   refine NW.next ?_
   refine CW.seq ?_
   refine CW.lex [.W,.W] rfl ?_
   refine RW.pure tk 2 rfl ?_
   refine RW.done ?_
   refine NW.next ?_
   refine CW.ret ?_
   refine NW.ret_then ?_
   have e5:(p0.take (n+1)++p0.drop n).take n=p0.take n:=by rw [List.take_append_of_le_length (by rw [List.length_take];omega),List.take_take,Nat.min_eq_left (by omega)]
   have e6:(p0.take (n+1)++p0.drop n).drop (n+[v].length)=p0.drop n:=by
    rw [List.drop_left' (by rw [List.length_take];simp only [List.length_cons,List.length_nil];omega)]
   rw [e5,e6] at h5
   have e7:p0.take n++[v]++p0.drop n=p0.take n++v::p0.drop n:=by simp
   rw [e7] at h5
   have e8:(p0.take n++v::p0.drop n).length=p0.length+1:=by simp only [List.length_append,List.length_take,List.length_cons,List.length_drop];omega
   rw [e8]
   refine NW.ret1 rfl (by rfl) ⟨A,c,rfl,hO.upd_sub (Upd.trans x34 x5 fun i _ h1 h2=>h1 h2),h5.mono (fun b' _ ho=>okL_append.2 (.inl ho)) fun b' _ ho=>?_⟩
   rcases ho with ho|ho
   ·exact okL_append.2 (.inl ho)
   ·exact okL_append.2 (.inr ho.1)
end Go.Proofs.YtnaajldlloglkaaGreatDoor.W
