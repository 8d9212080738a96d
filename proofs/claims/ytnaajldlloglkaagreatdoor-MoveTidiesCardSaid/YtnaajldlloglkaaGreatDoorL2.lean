/- Arguments that are handed in, opened: what they read as, and that memory holds them. Plain theorems over any program. -/
import Derived.Test.YtnaajldlloglkaaGreatDoorL1
import Derived.ChangeArms
import Derived.WideShapes
import Derived.SizedLaws
import Derived.Carry
import Derived.Below
import Derived.MapKept
import Derived.Lib.AppendZerosOnto
import Derived.Lib.Overlaps
set_option linter.unusedVariables false
set_option linter.unusedSimpArgs false
namespace Go.H
open Go.RowKit
structure Opn (P:Program) (T:TypeId) {α:Type} (d:Kd α) (good:α→Prop):Prop where
 cells:P.cellsOf T=d.sz
 open_:∀{H:Type} {enc:TypeId×Value→H} {w:World} {base:Nat} {spare:Nat→Bool} {held:Bool} {fuel:Nat} {cs:List Value} {x:DataW H×List MemPlace},DataW.trod enc P w base spare held fuel T cs=some x→
  (x.1.weights P T).all (· ≤reachBytes)=true→∃v,d.rep w.heap okAll cs v∧good v
section
variable {P:Program}
theorem Opn.int {T:TypeId} {k:IntKind} (hu:P.underlying T=some (.int k)) (hc:P.cellsOf T=1):Opn P T (Kd.int k) fun n=>(Lit.int k n).wf=true where
 cells:=hc
 open_ h _:=by
  obtain ⟨n,rfl,_,hw⟩:=DataW.trod_int hu h
  exact ⟨n,rfl,hw⟩
theorem Opn.bool {T:TypeId} (hu:P.underlying T=some .bool) (hc:P.cellsOf T=1):Opn P T Kd.bool fun _=>True where
 cells:=hc
 open_ h _:=by
  obtain ⟨b,rfl,_⟩:=DataW.trod_bool hu h
  exact ⟨b,rfl,trivial⟩
theorem cells_at {w:World} {base n:Nat} {a:Addr} {cs:List Value} (h:w.cells? base a n=some cs):cs.length=n∧At w.heap a cs:=by
 unfold World.cells? at h
 split at h
 ·have hl:=mapM_some_length h
  refine ⟨by simpa using hl,fun j u hu=>?_⟩
  have hj:=(List.getElem?_eq_some_iff.1 hu).1
  have hg:=mapM_some_get h j j (by rw [List.getElem?_range (by simpa [hl] using hj)])
  rw [hu] at hg
  exact hg
 ·cases h
theorem At.lt0 {h:Heap} {p:Addr} {cs:List Value} (k:At h p cs) (h0:0<cs.length):p.block<h.size:=by
 cases cs with
 |nil=>simp at h0
 |cons v r=>exact k.lt
theorem weightsAll_mem {H:Type} {e:TypeId} {b:Nat→Bool}:∀{l:List (DataW H)},(DataW.weightsAll P e l).all b=true→∀d∈l,(d.weights P e).all b=true
 |[],_,d,hd=>by simp at hd
 |x::r,h,d,hd=>by
  unfold DataW.weightsAll at h
  rw [List.all_append,Bool.and_eq_true] at h
  rcases List.mem_cons.1 hd with rfl|hd
  ·exact h.1
  ·exact weightsAll_mem h.2 d hd
theorem list_choice {β:Type} {n:Nat} {p:Nat→β→Prop} (h:∀i,i<n→∃x,p i x):∃l:List β,l.length=n∧∀i x,l[i]?=some x→p i x:=by
 induction n with
 |zero=>exact ⟨[],rfl,fun i x hx=>by simp at hx⟩
 |succ n ih=>
  obtain ⟨l,hl,hp⟩:=ih fun i hi=>h i (by omega)
  obtain ⟨x,hx⟩:=h n (by omega)
  refine ⟨l++[x],by simp [hl],fun i y hy=>?_⟩
  rw [List.getElem?_append] at hy
  split at hy
  ·exact hp i y hy
  ·rename_i hlt
   have e:i-l.length=0:=by
    rcases Nat.eq_zero_or_pos (i-l.length) with h'|h'
    ·exact h'
    ·rw [List.getElem?_eq_none (by simp;omega)] at hy;cases hy
   rw [e] at hy
   simp at hy
   subst hy
   have:i=n:=by omega
   subst this
   exact hx
theorem Opn.sl {T e:TypeId} {α:Type} {d:Kd α} {good:α→Prop} (hu:P.underlying T=some (.slice e)) (hc:P.cellsOf T=1) (he:Opn P e d good):Opn P T (Kd.sl d) fun xs=>xs.length*P.bytesOf e≤reachBytes∧∀x∈xs,good x where
 cells:=hc
 open_ {H enc w base spare held fuel cs x} h hw:=by
  rcases DataW.trod_slice hu h with ⟨rfl,_⟩|⟨a,len,cap,elems,rest,n,_,rfl,rfl,hb,hlen,hcap,hel,hget,_,_⟩
  ·exact ⟨[],⟨none,0,rfl,by simp,Sl.nil⟩,by simp,by simp⟩
  ·simp only [DataW.weights,hu,List.all_cons,List.all_append,Bool.and_eq_true,decide_eq_true_eq,List.length_map] at hw
   obtain ⟨hw1,hw2,_⟩:=hw
   obtain ⟨xs,hxl,hxs⟩:=list_choice (n:=len) (p:=fun i v=>∃cs,d.rep w.heap okAll cs v∧At w.heap (a.add (i*d.sz)) cs∧good v) fun i hi=>by
    have hg:=hget i hi
    rw [List.getElem?_eq_getElem (by omega)] at hg
    simp only [Option.bind_eq_some_iff] at hg
    obtain ⟨cs,h1,h2⟩:=hg
    obtain ⟨hcl,hat⟩:=cells_at h1
    rw [he.cells] at hat
    obtain ⟨v,hv,hgood⟩:=he.open_ h2 (weightsAll_mem hw2 _ (List.mem_map.2 ⟨_,List.getElem_mem _,rfl⟩))
    exact ⟨v,cs,hv,hat,hgood⟩
   refine ⟨xs,⟨some a,cap,by rw [hxl],by omega,fun i v hv=>?_⟩,?_,fun v hv=>?_⟩
   ·obtain ⟨cs,h1,h2,_⟩:=hxs i v hv
    have:=h2.lt0 (by rw [d.len h1];exact d.pos)
    rw [add_block] at this
    exact ⟨a,cs,rfl,this,trivial,h1,h2⟩
   ·rw [hxl]
    exact Nat.le_trans (Nat.mul_le_mul_right _ (by omega)) hw1
   ·obtain ⟨i,hi⟩:=List.getElem?_of_mem hv
    obtain ⟨_,_,_,hg⟩:=hxs i v hi
    exact hg
structure OpnF (P:Program) (fs:List Field) (off n:Nat) {α:Type} (d:Kd α) (good:α→Prop):Prop where
 go:∀{H:Type} {enc:TypeId×Value→H} {w:World} {base:Nat} {spare:Nat→Bool} {held:Bool} {fuel:Nat} {cs:List Value} {xs:List (DataW H×List MemPlace)},cs.length=n→xs.length=fs.length→
  (∀(i:Nat) (f:Field),fs[i]?=some f→DataW.trod enc P w base spare held fuel f.type ((cs.drop f.offset).take (P.cellsOf f.type))=xs[i]?)→(DataW.weightsEach P (fs.map fun f:Field=>f.type) (xs.map (·.1))).all (· ≤reachBytes)=true→∃v,d.rep w.heap okAll (cs.drop off) v∧good v
theorem OpnF.one {f:Field} {off n:Nat} {α:Type} {d:Kd α} {good:α→Prop} (h:Opn P f.type d good) (ho:f.offset=off) (hn:n=off+d.sz):OpnF P [f] off n d good:=by
 constructor
 intro H enc w base spare held fuel cs xs hl hx hf hw
 match xs,hx with
 |[x],_=>
  have h1:=hf 0 f rfl
  simp only [List.getElem?_cons_zero,List.map_cons,List.map_nil,DataW.weightsEach,List.append_nil] at h1 hw
  rw [ho,h.cells,List.take_of_length_le (by rw [List.length_drop];omega)] at h1
  exact h.open_ h1 hw
theorem OpnF.cons {f:Field} {r:List Field} {off n:Nat} {α β:Type} {a:Kd α} {b:Kd β} {g1:α→Prop} {g2:β→Prop} (h:Opn P f.type a g1) (ho:f.offset=off) (hn:off+a.sz≤n) (hr:OpnF P r (off+a.sz) n b g2):OpnF P (f::r) off n (Kd.pair a b) fun p=>g1 p.1∧g2 p.2:=by
 constructor
 intro H enc w base spare held fuel cs xs hl hx hf hw
 match xs,hx with
 |x::ys,hx=>
  have h1:=hf 0 f rfl
  simp only [List.getElem?_cons_zero] at h1
  simp only [List.map_cons,DataW.weightsEach,List.all_append,Bool.and_eq_true] at hw
  rw [ho,h.cells] at h1
  obtain ⟨u,hu,hg⟩:=h.open_ h1 hw.1
  obtain ⟨v,hv,hg2⟩:=hr.go hl (by simpa using hx) (fun i f' hf'=>by
   have:=hf (i+1) f' (by simpa using hf')
   simpa using this) hw.2
  refine ⟨(u,v),⟨_,_,?_,hu,hv⟩,hg,hg2⟩
  rw [←List.drop_drop]
  exact (List.take_append_drop a.sz (cs.drop off)).symm
theorem Opn.struct {T:TypeId} {fs:Array Field} {n:Nat} {α β:Type} {d:Kd α} {good:α→Prop} (hu:P.underlying T=some (.struct fs)) (hc:P.cellsOf T=n) (hn:d.sz=n) (h:OpnF P fs.toList 0 n d good) (f:β→α) (mk:α→β) (hm:∀v,f (mk v)=v):Opn P T (Kd.iso d f) fun y=>good (f y) where
 cells:=hc.trans hn.symm
 open_ {H enc w base spare held fuel cs x} ht hw:=by
  obtain ⟨xs,m,_,rfl,hl,hx,hf⟩:=DataW.trod_struct hu ht
  simp only [DataW.weights,hu] at hw
  obtain ⟨v,hv,hg⟩:=h.go (hl.trans hc) (by simpa using hx) (fun i f' hf'=>hf i f' (by simpa using hf')) hw
  rw [List.drop_zero] at hv
  exact ⟨mk v,by show d.rep _ _ _ (f (mk v));rw [hm];exact hv,by rw [hm];exact hg⟩
end
end Go.H
namespace Go.H
open Go.RowKit
theorem sl_none {α:Type} {d:Kd α} {h:Heap} {ok:Fp} {A:Option Addr} {xs:List α} (k:Sl d h ok A xs) (hA:A.isNone=true):xs=[]:=by
 cases xs with
 |nil=>rfl
 |cons x r=>
  obtain ⟨ad,cs,e,_⟩:=k 0 x rfl
  rw [e] at hA
  cases hA
theorem take_rep_len {α:Type} {z:α} {xs:List α} {j:Nat} (h:j≤xs.length):(xs.take j++List.replicate (xs.length-j) z).length=xs.length:=by
 rw [List.length_append,List.length_take,List.length_replicate];omega
theorem zeros_eq (z:List Value) (n:Nat):(Builtin.zeroCells z.toArray n).toList=rowZero z n:=by
 unfold Builtin.zeroCells
 rw [Array.toList_map,Array.toList_range]
 simpa using rowZero_eq z n
theorem rowZero_len (z:List Value):∀n,(rowZero z n).length=n*z.length
 |0=>by simp [rowZero]
 |n+1=>by simp only [rowZero,List.length_append,rowZero_len z n];rw [Nat.succ_mul];omega
theorem rowZero_one {z:List Value} (hz:∀u∈z,u.oneCell'=true):∀n,∀u∈rowZero z n,u.oneCell'=true
 |0,u,h=>by simp [rowZero] at h
 |n+1,u,h=>by
  simp only [rowZero,List.mem_append] at h
  rcases h with h|h
  ·exact hz u h
  ·exact rowZero_one hz n u h
section
variable {α:Type} {d:Kd α} {h:Heap} {ok oi:Fp} {A:Option Addr} {c:Nat} {xs:List α} {T:TypeId}
theorem Ch.zeros {z:List Value} {z0:α} (hr:d.rep h ok z z0):∀n,Ch d h ok (rowZero z n) (List.replicate n z0)
 |0=>Ch.nil
 |n+1=>by
  rw [List.replicate_succ]
  exact Ch.cons hr (Ch.zeros hr n)
theorem Ch.take {fl:List Value} (k:Ch d h ok fl xs) (n:Nat):Ch d h ok (fl.take ((xs.take n).length*d.sz)) (xs.take n):=by
 have hl:(xs.take n).length≤xs.length:=by rw [List.length_take];omega
 have hm:(xs.take n).length*d.sz≤xs.length*d.sz:=Nat.mul_le_mul_right _ hl
 refine ⟨by rw [List.length_take,k.1];omega,fun i x hx=>?_⟩
 have hi:i<(xs.take n).length:=(List.getElem?_eq_some_iff.1 hx).1
 have hx':xs[i]?=some x:=by
  rw [List.getElem?_take] at hx
  split at hx
  ·exact hx
  ·cases hx
 obtain ⟨cs,h1,h2⟩:=k.2 i x hx'
 refine ⟨cs,h1,fun j u hu=>?_⟩
 have hj:j<cs.length:=(List.getElem?_eq_some_iff.1 hu).1
 rw [d.len h1] at hj
 have hb:i*d.sz+d.sz≤(xs.take n).length*d.sz:=by rw [←Nat.succ_mul];exact Nat.mul_le_mul_right _ hi
 rw [List.getElem?_take,if_pos (by omega)]
 exact h2 j u hu
theorem Ow.take (k:Ow d T h ok oi A c xs) (n:Nat):Ow d T h ok oi A c (xs.take n):=by
 rcases k with ⟨rfl,rfl⟩|⟨b,cur,fl,rfl,h1,h2,h3,h4,h5,h6,h7⟩
 ·exact .inl ⟨by simp,rfl⟩
 ·have hl:(xs.take n).length≤xs.length:=by rw [List.length_take];omega
  have hm:(xs.take n).length*d.sz≤xs.length*d.sz:=Nat.mul_le_mul_right _ hl
  refine .inr ⟨b,cur,fl.take ((xs.take n).length*d.sz),rfl,by omega,h2,h3,h4,h5,?_,h7.take n⟩
  rw [←h6,List.take_take,Nat.min_eq_left hm]
end
section
variable {P:Program} {N:Nat} {Q:Exit→Act→World→Prop} {E:Env} {w:World} {ops:List Oper} {tab:Tab} {α:Type} {d:Kd α}
theorem RW.sliceFrom {i dd:Nat} {o:Oper} {r:OT} {T e:TypeId} {x y:Operand} {t te:Ti} {A:Option Addr} {xs:List α} {c:Nat} {k:IntKind} {j:Int} (hT:TabOk P tab) (h0:0≤j) (h1:j≤xs.length) (hc:xs.length≤c) (hn:Nx ops N E i o dd) (hop:o.op=.slice T x (some y) none none) (hg:tab.get T=some t) (hti:t.ti=.slice e) (hge:tab.get e=some te) (hx:ev E x=some (.slice A xs.length c)) (hy:ev E y=some (.int k j))
 (h:RW P N ops Q r ((dd,.slice (if c=j.toNat then A else A.map (·.add (j.toNat*te.size))) (xs.length-j.toNat) (c-j.toNat))::E) w):RW P N ops Q (.one i .W r) E w:=
 RW.stepW hn (fun ρ hρ w'=>by
  obtain ⟨d,hd,ho⟩:=(hT.get hg).desc
  rw [hti] at ho
  cases ho
  unfold execOp
  simp [hop,hρ x _ hx,hρ y _ hy,Instr.sliceAt,Instr.slice,Instr.sliceBounds,Instr.sliceBound,asIntOf,underlying,hd,h0,h1,(hT.get hge).run_sizeOf]) h
theorem RW.stepM0 {i:Nat} {o:Oper} {r:OT} {v:Value} {w1:World} (hn:Nx0 ops E i o) (hrun:∀ρ,Knows E ρ→(execOp ρ o).run P w=.ok (.value v) w1) (h:RW P N ops Q r E w1):RW P N ops Q (.one i .M r) E w:=fun hp a ha=>by
 refine ⟨o,hn.op,?_⟩
 rw [wantE_sound hn.want ha]
 simp only [if_true]
 unfold Oper.wp
 rw [hrun _ ha.knows]
 have:a.put o.dst v=a:=by rw [hn.dst];rfl
 show wpOrd P ops Q r (a.put o.dst v) w1
 rw [this]
 exact h hp _ ha
theorem Ow.clear {T:TypeId} {ok oi:Fp} {A:Option Addr} {c:Nat} {xs:List α} {z:List Value} {z0:α} (hO:Ow d T w.heap ok oi A c xs) {j:Nat} (hj:j<xs.length) (hz:∀ok',d.rep w.heap ok' z z0):
 ∃b w',A=some ⟨b,0,none⟩∧(storeCells ⟨b,j*d.sz,none⟩ (rowZero z (xs.length-j))).run P w=.ok () w'∧Upd (ownS A c) w w'∧Ow d T w'.heap ok oi A c (xs.take j++List.replicate (xs.length-j) z0):=by
 obtain ⟨b,cur,fl,hA',hc,hcm,hxc,hok,hb,hcs,hfl,hch⟩:=hO.storeAt hj
 subst hA'
 have hzl:z.length=d.sz:=d.len (hz ok)
 have hz1:∀u∈z,u.oneCell'=true:=d.one (hz ok)
 have hul:(rowZero z (xs.length-j)).length=(xs.length-j)*d.sz:=by rw [rowZero_len,hzl]
 have hin:j*d.sz+(xs.length-j)*d.sz=xs.length*d.sz:=by rw [←Nat.add_mul];congr 1;omega
 have hin2:xs.length*d.sz≤c*d.sz:=Nat.mul_le_mul_right _ hxc
 have hfit:j*d.sz+(rowZero z (xs.length-j)).length≤cur.size:=by rw [hul,hcs];omega
 have hrun:=run_storeCells_at P b (j*d.sz) T (rowZero z (xs.length-j)) 0 cur w hb (by omega) (rowZero_one hz1 _)
 simp only [Nat.add_zero] at hrun
 rw [lay_eq _ cur.toList _ (by simpa using hfit)] at hrun
 have hs:=setRow_upd (w:=w) (b:=b) (cs:=(lay cur.toList (j*d.sz) (rowZero z (xs.length-j))).toArray) hb
 refine ⟨b,_,rfl,hrun,hs.1.mono fun i' _ e'=>⟨hc,_,rfl,by simpa using e'.symm⟩,.inr ⟨b,_,fl.take ((xs.take j).length*d.sz)++rowZero z (xs.length-j),rfl,?_,hcm,hok,hs.2,by simp [lay_length,hcs],?_,?_⟩⟩
 ·rw [List.length_append,List.length_take,List.length_replicate];omega
 ·have hfll:fl.length=xs.length*d.sz:=hch.1
  have e1:(xs.take j).length=j:=by rw [List.length_take];omega
  have e2:(xs.take j++List.replicate (xs.length-j) z0).length=xs.length:=by rw [List.length_append,List.length_replicate,e1];omega
  rw [e2,e1,List.toList_toArray,lay_take _ _ _ _ (by rw [hul];omega),hfl,←lay_eq _ _ _ (by rw [hul,hfll];omega),List.drop_eq_nil_of_le (by rw [hul,hfll];omega),List.append_nil]
 ·exact ((hch.take j).append (Ch.zeros (hz _) _)).upd fun b' _ ho=>setRow_other w b b' _ ho.2
theorem RW.clearTail {i:Nat} {o:Oper} {r:OT} {T e:TypeId} {t te:Ti} {y:Operand} {l li:List Seg3} {A:Option Addr} {c:Nat} {xs:List α} {j:Nat} {z0:α} (hT:TabOk P tab) (hO:Ow d e w.heap (okL l) (okL li) A c xs) (hj:j≤xs.length)
 (hn:Nx0 ops E i o) (hop:o.op=.call ⟨.builtin .clear,#[y],#[T]⟩) (hg:tab.get T=some t) (hti:t.ti=.slice e) (hge:tab.get e=some te) (hd:d.sz=te.size) (hz:∀ok',d.rep w.heap ok' te.zero z0)
 (hy:ev E y=some (.slice (if c=j then A else A.map (·.add (j*te.size))) (xs.length-j) (c-j)))
 (h:∀w',Upd (rowS (okL l) e) w w'→Ow d e w'.heap (okL l) (okL li) A c (xs.take j++List.replicate (xs.length-j) z0)→RW P N ops Q r E w'):RW P N ops Q (.one i .M r) E w:=by
 have hke:=hT.get hge
 obtain ⟨dd,hdd,ho⟩:=(hT.get hg).desc
 rw [hti] at ho
 cases ho
 have hbi:∀ρ,Knows E ρ→∃cs,execOp ρ o=builtin .clear #[T] o.type cs #[.slice (if c=j then A else A.map (·.add (j*te.size))) (xs.length-j) (c-j)]:=fun ρ hρ=>by
  refine ⟨#[y].map (fun|.const _=>true|_=>false),?_⟩
  unfold execOp
  simp only [hop,resolve,List.map_toArray,List.map_cons,List.map_nil,hρ y _ hy]
  rfl
 rcases Nat.lt_or_ge j xs.length with hlt|hge'
 ·obtain ⟨b,w',hA,hrun,hu,hO'⟩:=Ow.clear (P:=P) (z:=te.zero) (z0:=z0) hO hlt hz
  refine RW.stepM0 (v:=.tuple #[]) hn (fun ρ hρ=>?_) (h w' (hO.upd_sub hu) hO')
  obtain ⟨cs,hcs⟩:=hbi ρ hρ
  rw [hcs]
  subst hA
  have hcj:¬c=j:=by have:=hO.len;omega
  have hn0:∃m,xs.length-j=m+1:=⟨xs.length-j-1,by omega⟩
  obtain ⟨m,hm⟩:=hn0
  rw [hm] at hrun ⊢
  rw [hd] at hrun
  have hz2:(ofCells te.ti te.zero).cells=te.zero.toArray:=ofCells_cells hke
  have hrun':(storeCells ⟨b,j*te.size,none⟩ (Builtin.zeroCells te.zero.toArray (m+1)).toList).run P w=.ok () w':=by rw [zeros_eq];exact hrun
  unfold builtin
  simp [hcj,Builtin.clear_,underlying,hdd,hke.run_zero,hz2,add_lit0,hrun']
 ·have e1:xs.take j++List.replicate (xs.length-j) z0=xs:=by
   rw [List.take_of_length_le (by omega),show xs.length-j=0 by omega,List.replicate_zero,List.append_nil]
  rw [e1] at h
  refine RW.stepM0 (v:=.tuple #[]) hn (fun ρ hρ=>?_) (h w ⟨rfl,rfl,rfl,Nat.le_refl _,fun _ _ _=>rfl⟩ hO)
  obtain ⟨cs,hcs⟩:=hbi ρ hρ
  rw [hcs,show xs.length-j=0 by omega]
  unfold builtin
  cases (if c=j then A else A.map (·.add (j*te.size))) <;>simp [Builtin.clear_,underlying,hdd]
theorem RW.makeSlice {i dd:Nat} {o:Oper} {r:OT} {T e:TypeId} {t te:Ti} {x y:Operand} {k k':IntKind} {n:Int} {cl:Cls} {z0:α} (hT:TabOk P tab) (h0:0≤n) (h1:n<4294967296) (hc:cl=.X∨cl=.M) (hn:Nx ops N E i o dd) (hop:o.op=.makeSlice T x y) (hg:tab.get T=some t) (hti:t.ti=.slice e) (hge:tab.get e=some te) (hbs:Nat.ble te.bytes 1000=true) (hd:d.sz=te.size) (hz:∀ok',d.rep w.heap ok' te.zero z0)
 (hx:ev E x=some (.int k n)) (hy:ev E y=some (.int k' n))
 (h:∀b w',Ext w w'→w.heap.size≤b→Ow d e w'.heap (okL [(w.heap.size,some w'.heap.size,some e)]) (okL []) (some ⟨b,0,none⟩) n.toNat (List.replicate n.toNat z0)→RW P N ops Q r ((dd,(.slice (some ⟨b,0,none⟩) (List.replicate n.toNat z0).length n.toNat))::E) w'):RW P N ops Q (.one i cl r) E w:=by
 have hke:=hT.get hge
 obtain ⟨ds,hdd,ho⟩:=(hT.get hg).desc
 rw [hti] at ho
 cases ho
 have hw:IntKind.i64.wrap n=n:=by simp [IntKind.wrap,IntKind.bits,IntKind.signed];omega
 have hbs':te.bytes≤1000:=Nat.le_of_ble_eq_true hbs
 have hb0:(te.bytes:Int)*n≤1000*4294967296:=by
  refine Int.le_trans (Int.mul_le_mul_of_nonneg_right (show (te.bytes:Int)≤1000 by omega) h0) ?_
  omega
 have hb2:n.toNat*te.bytes≤4294967296*1000:=Nat.mul_le_mul (by omega) hbs'
 have hzl:te.zero.length=te.size:=hke.len
 refine RW.new (v:=fun b=>.slice (some ⟨b,0,none⟩) n.toNat n.toNat) (T:=e) (cs:=rowZero te.zero n.toNat) hc hn (fun ρ hρ=>?_) ?_
 ·obtain ⟨inf,hi1,hi2,hi3,hi4⟩:=hke.run_info w
  have n1:¬n<0:=by omega
  have n2:¬(te.bytes:Int)*n>2^48:=by omega
  have n4:¬281474976710656<(te.bytes:Int)*n:=by omega
  have n3:¬n.toNat*te.bytes>2^47:=by omega
  unfold execOp
  have hz0:(Array.range (n.toNat*te.size)).map (fun x=>(te.zero.toArray)[x%te.zero.toArray.size]!)=(rowZero te.zero n.toNat).toArray:=by
   apply Array.ext'
   simp only [Array.toList_map,Array.toList_range]
   rw [←hke.len]
   exact rowZero_eq te.zero n.toNat
  by_cases hz1:n.toNat*te.size=0
  ·have hl0:n.toNat=0:=by
    rcases Nat.mul_eq_zero.1 hz1 with h|h
    ·exact h
    ·have:=hke.pos;omega
   simp [hop,hρ x _ hx,hρ y _ hy,Instr.makeSlice,underlying,hdd,asInt,asIntOf,hi1,hi3,hw,n1,n2,n3,askRoom,roomBytes,hke.run_sizeOf,hl0,newRow,rowZero,n4]
   congr 2
   apply Array.ext'
   simp
  ·simp [hop,hρ x _ hx,hρ y _ hy,Instr.makeSlice,underlying,hdd,asInt,asIntOf,hi1,hi3,hw,n1,n2,n3,askRoom,roomBytes,hke.run_sizeOf,hz1,hke.run_zero,ofCells_cells hke,newRow,n4]
   simp at hz0
   rw [hz0]
 ·intro b w' hx hle hb
  have hlen:(List.replicate n.toNat z0).length=n.toNat:=List.length_replicate
  have hcm:n.toNat≤maxLen:=by simp only [maxLen];omega
  have:=h b w' hx hle (by
   have hz':∀ok',d.rep w'.heap ok' te.zero z0:=fun ok'=>d.mono (d.upd (h':=w'.heap) (hz none') fun _ _ ho=>ho.elim) fun _ _ ho=>ho.elim
   have hlt:b<w'.heap.size:=hb.lt
   have:=Ow.of_box (ok:=okL [(w.heap.size,some w'.heap.size,some e)]) (oi:=okL []) hb (.inl ⟨hle,hlt,rfl⟩) (by rw [hlen];exact hcm) (Ch.zeros (hz' _) n.toNat)
   rw [hlen] at this
   exact this)
  rw [hlen] at this
  exact this
end
end Go.H
namespace Go.H
theorem w64_id {x:Int} (h0: -9223372036854775808≤x) (h1:x<9223372036854775808):w64 x=x:=by
 have hk:IntKind.i64.wrap x=if x%18446744073709551616≥9223372036854775808 then x%18446744073709551616-18446744073709551616 else x%18446744073709551616:=by
  simp [IntKind.wrap,IntKind.bits,IntKind.signed]
 show IntKind.i64.wrap x=x
 rw [hk]
 split <;>omega
theorem wu64_id {x:Int} (h0:0≤x) (h1:x<18446744073709551616):wu64 x=x:=by
 simp only [wu64,IntKind.wrap,IntKind.bits,IntKind.signed]
 simp
 omega
theorem wu64_mod (x:Int):wu64 x=x%18446744073709551616:=by
 simp [wu64,IntKind.wrap,IntKind.bits,IntKind.signed]
theorem rd_nat {α:Type} [Inhabited α] {l:List α} {i:Nat} (h:i<l.length):rd l (i:Int)=l[i]:=by
 unfold rd
 rw [Int.toNat_natCast,List.getD_eq_getElem?_getD,List.getElem?_eq_getElem h]
 rfl
theorem w64_succ {i n:Nat} (h:i<n) (hn:n<4611686018427387904):w64 ((i:Int)+1)=((i+1:Nat):Int):=by
 rw [w64_id (by omega) (by omega)];omega
theorem w64_pred {i n:Nat} (h0:0<i) (h:i≤n) (hn:n<4611686018427387904):w64 ((i:Int)-1)=((i-1:Nat):Int):=by
 rw [w64_id (by omega) (by omega)];omega
theorem snoc_cases {α:Type} (l:List α):l=[]∨∃m s,l=m++[s]:=by
 rcases List.eq_nil_or_concat l with h|⟨m,s,h⟩
 ·exact .inl h
 ·exact .inr ⟨m,s,by rw [h];simp⟩
end Go.H
namespace Go.H
open Go.RowKit Go.MapKept
section
variable {β:Type}
def mget:List (Int×β)→Int→Option β
 |[],_=>none
 |(a,v)::r,k=>if a=k then some v else mget r k
def mset:List (Int×β)→Int→β→List (Int×β)
 |[],k,v=>[(k,v)]
 |(a,x)::r,k,v=>if a=k then (a,v)::r else (a,x)::mset r k v
def MapB (h:Heap) (b:Nat) (enc:β→Value) (m:List (Int×β)):Prop:=∃es clock,h[b]?=some (.map es clock)∧es.toList.map (fun e=>(e.key,e.val))=m.map fun p=>(.int .i64 p.1,enc p.2)
variable {enc:β→Value} {m:List (Int×β)} {b:Nat} {h:Heap}
theorem MapB.lt (k:MapB h b enc m):b<h.size:=by
 obtain ⟨es,c,hb,_⟩:=k
 exact (Array.getElem?_eq_some_iff.1 hb).1
theorem MapB.ty (k:MapB h b enc m):ty h b=none:=by
 obtain ⟨es,c,hb,_⟩:=k
 unfold Go.H.ty
 rw [hb]
theorem MapB.keep {h':Heap} (k:MapB h b enc m) (e:h'[b]?=h[b]?):MapB h' b enc m:=by
 obtain ⟨es,c,hb,hm⟩:=k
 exact ⟨es,c,e.trans hb,hm⟩
theorem MapB.ext {w w':World} (k:MapB w.heap b enc m) (hx:Ext w w'):MapB w'.heap b enc m:=k.keep (hx.get k.lt)
theorem MapB.turnL {w w':World} {T:TypeId} {l:List Seg3} (k:MapB w.heap b enc m) (hx:Upd (rowS (okL l) T) w w'):MapB w'.heap b enc m:=k.keep (hx.keep b k.lt fun hs=>by rw [k.ty] at hs;cases hs.2)
theorem MapB.turnB {w w':World} {n:Nat} (k:MapB w.heap b enc m) (hx:Upd (fun j _=>j=n) w w') (hne:b≠n):MapB w'.heap b enc m:=k.keep (hx.keep b k.lt hne)
theorem find_map (k:Int) (v:β):∀(l:List MapEntry) (m:List (Int×β)) (i:Nat),l.map (fun e=>(e.key,e.val))=m.map (fun p=>(.int .i64 p.1,enc p.2))→
 (mget m k=none∧Instr.findNow (.int .i64) (.int .i64 k) l i=some none∧mset m k v=m++[(k,v)])∨
 ∃j x e,mget m k=some x∧Instr.findNow (.int .i64) (.int .i64 k) l i=some (some (i+j,enc x))∧l[j]?=some e∧e.key=.int .i64 k∧mset m k v=m.set j (k,v)
 |[],[],i,_=>.inl ⟨rfl,rfl,rfl⟩
 |[],p::m,i,hh=>by simp at hh
 |e::l,[],i,hh=>by simp at hh
 |e::l,(a,x)::m,i,hh=>by
  simp only [List.map_cons,List.cons.injEq,Prod.mk.injEq] at hh
  obtain ⟨⟨h1,h2⟩,h3⟩:=hh
  unfold mget mset Instr.findNow
  rw [h1]
  simp only [Instr.sameNow,if_true]
  by_cases c:a=k
  ·rw [if_pos c,if_pos c]
   subst c
   refine .inr ⟨0,x,e,rfl,?_,rfl,h1,rfl⟩
   simp [h2]
  ·rw [if_neg c,if_neg c]
   have c':(k==a)=false:=by simp;exact fun e=>c e.symm
   rw [c']
   rcases find_map k v l m (i+1) h3 with ⟨g1,g2,g3⟩|⟨j,y,e',g1,g2,g3,g4,g5⟩
   ·exact .inl ⟨g1,g2,by rw [g3];rfl⟩
   ·refine .inr ⟨j+1,y,e',g1,?_,g3,g4,by rw [g5];rfl⟩
    rw [g2]
    congr 3
    rw [Nat.add_assoc,Nat.add_comm 1 j]
end
section
variable {P:Program} {N:Nat} {Q:Exit→Act→World→Prop} {E:Env} {w:World} {ops:List Oper} {tab:Tab} {β:Type} {enc:β→Value}
theorem RW.makeMap {i d:Nat} {o:Oper} {r:OT} {T:TypeId} {c:Cls} (enc:β→Value) (hc:c=.X∨c=.M) (hn:Nx ops N E i o d) (hop:o.op=.makeMap T none)
 (h:∀b w',Ext w w'→w.heap.size≤b→MapB w'.heap b enc []→RW P N ops Q r ((d,(.map (some b)))::E) w'):RW P N ops Q (.one i c r) E w:=by
 have hx:Ext w (w.alloc (.map #[] 0)):=Ext.alloc w _
 refine RW.stepX (v:=.map (some w.heap.size)) hc hn (fun ρ hρ=>?_) hx (h w.heap.size _ hx (Nat.le_refl _) ⟨#[],0,(heap_alloc w _).1,rfl⟩)
 unfold execOp
 simp [hop,Instr.makeMap]
theorem run_lookupB {T kt et:TypeId} {te:Ti} {m:List (Int×β)} {b:Nat} {k:Int} {z0:β} (hT:TabOk P tab) (hu:P.underlying T=some (.map kt et)) (hk:P.underlying kt=some (.int .i64)) (hge:tab.get et=some te) (hz:ofCells te.ti te.zero=enc z0) {w:World} (hm:MapB w.heap b enc m) (ok:Bool):
 (Instr.lookup T (.map (some b)) (.int .i64 k) ok).run P w=.ok (if ok then .tuple #[enc ((mget m k).getD z0),.bool (mget m k).isSome] else enc ((mget m k).getD z0)) w:=by
 obtain ⟨es,clock,hb,he⟩:=hm
 have hck:∀e,(Instr.checkKey e 10000 kt (.int .i64 k)).run P w=.ok () w:=fun e=>run_checkKey (d:=.int .i64) (k:=.int .i64 k) hk rfl e 9999
 rcases find_map k z0 es.toList m 0 he with ⟨g1,g2,_⟩|⟨j,x,e,g1,g2,_⟩
 ·rw [g1]
  simp [Instr.lookup,run_underlying hu,Go.MapKept.run_getObj_map hb,hck,run_findKey hk g2,(hT.get hge).run_zero,hz]
 ·rw [g1]
  simp [Instr.lookup,run_underlying hu,Go.MapKept.run_getObj_map hb,hck,run_findKey hk g2]
theorem RW.lookup {i d:Nat} {o:Oper} {r:OT} {T kt et:TypeId} {te:Ti} {x y:Operand} {m:List (Int×β)} {b:Nat} {k:Int} {z0:β} {ok:Bool} (hT:TabOk P tab) (hu:P.underlying T=some (.map kt et)) (hk:P.underlying kt=some (.int .i64)) (hge:tab.get et=some te) (hz:ofCells te.ti te.zero=enc z0) (hm:MapB w.heap b enc m)
 (hn:Nx ops N E i o d) (hop:o.op=.lookup T x y ok) (hx:ev E x=some (.map (some b))) (hy:ev E y=some (.int .i64 k))
 (h:RW P N ops Q r ((d,(if ok then .tuple #[enc ((mget m k).getD z0),.bool (mget m k).isSome] else enc ((mget m k).getD z0)))::E) w):RW P N ops Q (.one i .L r) E w:=
 RW.stepL hn (fun ρ hρ w' hxt=>by
  unfold execOp
  simp only [hop,hρ x _ hx,hρ y _ hy,Sem.run_bind,run_lookupB hT hu hk hge hz (hm.ext hxt) ok,Result.andThen_ok]
  rfl) h
theorem RW.lookup1 {i d:Nat} {o:Oper} {r:OT} {T kt et:TypeId} {te:Ti} {x y:Operand} {m:List (Int×β)} {b:Nat} {k:Int} {z0:β} (hT:TabOk P tab) (hu:P.underlying T=some (.map kt et)) (hk:P.underlying kt=some (.int .i64)) (hge:tab.get et=some te) (hz:ofCells te.ti te.zero=enc z0) (hm:MapB w.heap b enc m)
 (hn:Nx ops N E i o d) (hop:o.op=.lookup T x y false) (hx:ev E x=some (.map (some b))) (hy:ev E y=some (.int .i64 k))
 (h:RW P N ops Q r ((d,enc ((mget m k).getD z0))::E) w):RW P N ops Q (.one i .L r) E w:=RW.lookup hT hu hk hge hz hm hn hop hx hy h
theorem RW.mapUpdate {i:Nat} {o:Oper} {r:OT} {T kt et:TypeId} {x y z:Operand} {m:List (Int×β)} {b:Nat} {k:Int} {v:β} (hu:P.underlying T=some (.map kt et)) (hk:P.underlying kt=some (.int .i64)) (hm:MapB w.heap b enc m)
 (hn:Nx0 ops E i o) (hop:o.op=.mapUpdate T x y z) (hx:ev E x=some (.map (some b))) (hy:ev E y=some (.int .i64 k)) (hz:ev E z=some (enc v))
 (h:∀w',Upd (fun j _=>j=b) w w'→MapB w'.heap b enc (mset m k v)→RW P N ops Q r E w'):RW P N ops Q (.one i .M r) E w:=by
 obtain ⟨es,clock,hb,he⟩:=hm
 have hck:∀e,(Instr.checkKey e 10000 kt (.int .i64 k)).run P w=.ok () w:=fun e=>run_checkKey (d:=.int .i64) (k:=.int .i64 k) hk rfl e 9999
 have upd:∀o':Obj,Upd (fun j _=>j=b) w {w with heap:=w.heap.setIfInBounds b o'}:=fun o'=>
  ⟨rfl,rfl,rfl,by simp,fun j _ hj=>by simp [Ne.symm hj]⟩
 have hsz:es.toList.length=m.length:=by have:=congrArg List.length he;simpa using this
 rcases find_map k v es.toList m 0 he with ⟨g1,g2,g3⟩|⟨j,x',e,g1,g2,g4,g5,g3⟩
 ·refine RW.stepS hn (fun ρ hρ=>?_) (h {w with heap:=w.heap.setIfInBounds b (.map (es.push {key:=.int .i64 k,val:=enc v,born:=clock}) (clock+1))} (upd _) ⟨_,_,(heap_set hb).1,?_⟩)
  ·unfold execOp
   simp [hop,hρ x _ hx,hρ y _ hy,hρ z _ hz,Instr.mapUpdate,run_underlying hu,Go.MapKept.run_getObj_map hb,hck,run_findKey hk g2,Go.MapKept.run_setObj_map _ hb]
  ·rw [g3,Array.toList_push,List.map_append,List.map_append,he]
   rfl
 ·have hj:es[j]?=some e:=by simpa using g4
  refine RW.stepS hn (fun ρ hρ=>?_) (h {w with heap:=w.heap.setIfInBounds b (.map (es.modify j fun e=>{e with key:=.int .i64 k,val:=enc v}) clock)} (upd _) ⟨_,_,(heap_set hb).1,?_⟩)
  ·unfold execOp
   simp [hop,hρ x _ hx,hρ y _ hy,hρ z _ hz,Instr.mapUpdate,run_underlying hu,Go.MapKept.run_getObj_map hb,hck,run_findKey hk g2,Go.MapKept.run_setObj_map _ hb,hj,g5,run_keyThatStays (d:=.int .i64) (k:=.int .i64 k) rfl]
  ·rw [g3,Array.toList_modify]
   apply List.ext_getElem?
   intro q
   have hq:=congrArg (fun l=>l[q]?) he
   simp only [List.getElem?_map] at hq
   simp only [List.getElem?_map,List.getElem?_modify,List.getElem?_set]
   by_cases c:j=q
   ·subst c
    rw [g4]
    rw [g4] at hq
    have hjm:j<m.length:=by
     have:=(List.getElem?_eq_some_iff.1 g4).1
     omega
    simp [hjm]
   ·simp only [if_neg c]
    rw [←hq]
    cases es.toList[q]? <;>simp
end
theorem UpdB.same {n:Nat} {a b c:World} (h:Upd (fun j _=>j=n) a b) (k:Upd (fun j _=>j=n) b c):Upd (fun j _=>j=n) a c:=Upd.trans h k fun i _ h1 h2=>h1 h2
theorem UpdB.turn {n:Nat} {T:TypeId} {l:List Seg3} {a b c:World} (h:Upd (fun j _=>j=n) a b) (k:Upd (rowS (okL l) T) b c) (hn:newL a.heap.size l):Upd (fun j _=>j=n) a c:=Upd.trans h k fun i hi _ h2=>by have:=newL_le hn h2.1;omega
theorem UpdB.turnB {n m:Nat} {a b c:World} (h:Upd (fun j _=>j=n) a b) (k:Upd (fun j _=>j=m) b c) (hn:a.heap.size≤m):Upd (fun j _=>j=n) a c:=Upd.trans h k fun i hi _ h2=>by omega
section
variable {w w':World} {n:Nat} {β:Type} {enc:β→Value} {m:List (Int×β)} {α:Type} {d:Kd α} {l li:List Seg3} {A:Option Addr} {c:Nat} {xs:List α} {T2:TypeId}
end
end Go.H
namespace Go.H
section
variable {α:Type} {d:Kd α} {T:TypeId} {w:World} {ok oi:Fp} {l li li':List Seg3} {A:Option Addr} {c n:Nat} {xs:List α} {h:Heap}
end
end Go.H
namespace Go.H
open Go.RowKit
section
variable {α:Type} {d:Kd α} {h:Heap} {ok ok':Fp} {A:Option Addr} {xs:List α} {T:TypeId} {z0:α}
def Laid {α:Type} (d:Kd α) (w w':World) (e:TypeId) (A:Option Addr) (j k:Nat) (us:List Value):Prop:=
 ∃b cur,A=some ⟨b,0,none⟩∧w.heap[b]?=some (.cells cur e (0,0))∧j*d.sz+k+us.length≤cur.size∧w'.heap[b]?=some (.cells (lay cur.toList (j*d.sz+k) us).toArray e (0,0))
def OwPart (d:Kd α) (h:Heap) (ok:Fp) (A:Option Addr) (xs:List α) (z:α) (i:Nat):Prop:=
 ∀j,j<i→∃ad cs,A=some ad∧d.rep h ok cs (xs.getD j z)∧At h (ad.add (j*d.sz)) cs
theorem OwPart.zero:OwPart d h ok A xs z0 0:=fun j hj=>by omega
theorem OwPart.ext {w w':World} {i:Nat} (k:OwPart d w.heap ok A xs z0 i) (hx:Ext w w'):OwPart d w'.heap ok A xs z0 i:=fun j hj=>by
 obtain ⟨ad,cs,e,hr,hA⟩:=k j hj
 exact ⟨ad,cs,e,d.upd hr fun b hb _=>hx.get hb,hA.ext hx⟩
theorem OwPart.mono {i:Nat} (k:OwPart d h ok A xs z0 i) (hm:∀b,b<h.size→ok b (ty h b)→ok' b (ty h b)):OwPart d h ok' A xs z0 i:=fun j hj=>by
 obtain ⟨ad,cs,e,hr,hA⟩:=k j hj
 exact ⟨ad,cs,e,d.mono hr hm,hA⟩
theorem cellH_lit {h:Heap} {b o:Nat} {cur:Array Value} (hb:h[b]?=some (.cells cur T (0,0))):cellH h ⟨b,o,none⟩=cur[o]?:=by
 unfold cellH
 rw [hb]
 simp [Addr.spot]
theorem At.other {w w':World} {e:TypeId} {j k m:Nat} {us cs:List Value} {ad:Addr} (hX:Laid d w w' e A j k us) (hA:A=some ad) (hm:m<j) (hc:cs.length=d.sz) (ha:At w.heap (ad.add (m*d.sz)) cs):At w'.heap (ad.add (m*d.sz)) cs:=by
 obtain ⟨b,cur,e1,h1,h2,h3⟩:=hX
 rw [hA] at e1
 cases e1
 intro q u hu
 have:=ha q u hu
 have hq:q<cs.length:=by
  rcases Nat.lt_or_ge q cs.length with c|c
  ·exact c
  ·rw [List.getElem?_eq_none c] at hu;cases hu
 have hmj:m*d.sz+d.sz≤j*d.sz:=by rw [←Nat.succ_mul];exact Nat.mul_le_mul_right _ hm
 rw [add_lit0,show (⟨b,m*d.sz,none⟩:Addr).add q=⟨b,m*d.sz+q,none⟩ by unfold Addr.add;split <;>simp_all] at this ⊢
 rw [cellH_lit h1] at this
 rw [cellH_lit h3]
 rw [List.getElem?_toArray,lay_get us _ _ (by simpa using h2),if_neg (by omega)]
 simpa using this
theorem At.here {w w':World} {e:TypeId} {j k:Nat} {us cs:List Value} {ad:Addr} (hX:Laid d w w' e A j k us) (hA:A=some ad) (hk:k+us.length≤cs.length) (ha:At w.heap (ad.add (j*d.sz)) cs):At w'.heap (ad.add (j*d.sz)) (lay cs k us):=by
 obtain ⟨b,cur,e1,h1,h2,h3⟩:=hX
 rw [hA] at e1
 cases e1
 intro q u hu
 rw [lay_get us cs k hk] at hu
 rw [add_lit0,show (⟨b,j*d.sz,none⟩:Addr).add q=⟨b,j*d.sz+q,none⟩ by unfold Addr.add;split <;>simp_all]
 rw [cellH_lit h3,List.getElem?_toArray,lay_get us _ _ (by simpa using h2)]
 by_cases c:k≤q∧q<k+us.length
 ·rw [if_pos c] at hu
  rw [if_pos (by omega),show j*d.sz+q-(j*d.sz+k)=q-k by omega]
  exact hu
 ·rw [if_neg c] at hu
  rw [if_neg (by omega)]
  have:=ha q u hu
  rw [add_lit0,show (⟨b,j*d.sz,none⟩:Addr).add q=⟨b,j*d.sz+q,none⟩ by unfold Addr.add;split <;>simp_all,cellH_lit h1] at this
  simpa using this
theorem OwPart.store {w w':World} {e:TypeId} {i j k:Nat} {us:List Value} {y:α} {l:List Seg3} (hp:OwPart d w.heap ok A xs z0 i) (hu:Upd (rowS (okL l) e) w w') (hX:Laid d w w' e A j k us) (hij:i≤j) (hno:∀b,ok b (some e)→False):OwPart d w'.heap ok A (xs.set j y) z0 i:=fun m hm=>by
 obtain ⟨ad,cs,ea,hr,ha⟩:=hp m hm
 refine ⟨ad,cs,ea,?_,ha.other hX ea (by omega) (d.len hr)⟩
 have:(xs.set j y).getD m z0=xs.getD m z0:=by
  rw [List.getD_eq_getElem?_getD,List.getD_eq_getElem?_getD,List.getElem?_set_ne (by omega)]
 rw [this]
 exact d.upd hr fun b hb ho=>hu.keep b hb fun hs=>by
  have e2:=hs.2
  rw [e2] at ho
  exact hno b ho
theorem OwPart.snoc {i:Nat} (hp:OwPart d h ok A xs z0 i) {ad:Addr} {cs:List Value} (hA:A=some ad) (hr:d.rep h ok cs (xs.getD i z0)) (ha:At h (ad.add (i*d.sz)) cs):OwPart d h ok A xs z0 (i+1):=fun j hj=>by
 by_cases c:j=i
 ·subst c;exact ⟨ad,cs,hA,hr,ha⟩
 ·exact hp j (by omega)
theorem Ow.upgrade {dR:Kd α} {oi:Fp} {c i:Nat} (k:Ow dR T h ok oi A c xs) (hsz:dR.sz=d.sz) (hp:OwPart d h ok' A xs z0 i) (hi:xs.length≤i) (hno:∀b,ok' b (some T)→False):Ow d T h ok ok' A c xs:=by
 rcases k with ⟨rfl,rfl⟩|⟨b,cur,fl,rfl,h1,h2,h3,h4,h5,h6,h7⟩
 ·exact .inl ⟨rfl,rfl⟩
 ·refine .inr ⟨b,cur,fl,rfl,h1,h2,h3,h4,by rw [←hsz];exact h5,by rw [←hsz];exact h6,by rw [←hsz];exact h7.1,fun j x hx=>?_⟩
  have hj:j<xs.length:=by
   rcases Nat.lt_or_ge j xs.length with c|c
   ·exact c
   ·rw [List.getElem?_eq_none c] at hx;cases hx
  obtain ⟨ad,cs,e,hr,ha⟩:=hp j (by omega)
  cases e
  have hg:xs.getD j z0=x:=by rw [List.getD_eq_getElem?_getD,hx];rfl
  rw [hg] at hr
  refine ⟨cs,d.mono hr fun b' hb' ho=>⟨ho,fun eb=>?_⟩,fun q u hu=>?_⟩
  ·subst eb
   rw [ty_cells h4] at ho
   exact hno _ ho
  ·have:=ha q u hu
   have hq:q<cs.length:=by
    rcases Nat.lt_or_ge q cs.length with c|c
    ·exact c
    ·rw [List.getElem?_eq_none c] at hu;cases hu
   have hcl:=d.len hr
   have hin:j*d.sz+d.sz≤xs.length*d.sz:=by rw [←Nat.succ_mul];exact Nat.mul_le_mul_right _ hj
   rw [add_lit0,show (⟨b,j*d.sz,none⟩:Addr).add q=⟨b,j*d.sz+q,none⟩ by unfold Addr.add;split <;>simp_all,cellH_lit h4] at this
   rw [←h6,hsz,List.getElem?_take,if_pos (by omega)]
   simpa using this
end
section
variable {P:Program} {N:Nat} {Q:Exit→Act→World→Prop} {E:Env} {w:World} {ops:List Oper} {tab:Tab} {α:Type} {d:Kd α}
theorem RW.storeElX {i:Nat} {o:Oper} {r:OT} {T0 e:TypeId} {t0:Ti} {x z:Operand} {l li lv:List Seg3} {A:Option Addr} {ad:Addr} {c:Nat} {xs:List α} {j k:Nat} {v:Value} {y:α} (hT:TabOk P tab) (hO:Ow d e w.heap (okL l) (okL li) A c xs) (hj:j<xs.length) (z0:α) (us:List Value)
 (hy:∀cs ok',d.rep w.heap ok' cs (xs.getD j z0)→k+us.length≤cs.length∧d.rep w.heap (orS ok' (okL lv)) (lay cs k us) y) (hap:allD e lv l)
 (hn:Nx0 ops E i o) (hop:o.op=.store T0 x z) (hg:tab.get T0=some t0) (hA:A=some ad) (hx:ev E x=some (.pointer (some (addA (ad.add (j*d.sz)) k)))) (hz:ev E z=some v) (hu:v.cells=us.toArray) (hl:us.length=t0.size) (h1:us.all Value.oneCell'=true)
 (h:∀w',Upd (rowS (okL l) e) w w'→Laid d w w' e A j k us→Ow d e w'.heap (okL l) (okL (li++lv)) A c (xs.set j y)→RW P N ops Q r E w'):RW P N ops Q (.one i .M r) E w:=by
 obtain ⟨b,cur,fl,hA',hc,hcm,hxc,hok,hb,hcs,hfl,hch⟩:=hO.storeAt hj
 have hA2:=hA
 rw [hA'] at hA2
 cases hA2
 obtain ⟨cs,hr,hcc⟩:=hch.2 j _ (List.getElem?_eq_getElem hj)
 have hgd:xs.getD j z0=xs[j]:=by rw [List.getD_eq_getElem?_getD,List.getElem?_eq_getElem hj];rfl
 obtain ⟨hk,hry⟩:=hy cs _ (by rw [hgd];exact hr)
 have hcl:=d.len hr
 have hin:j*d.sz+d.sz≤xs.length*d.sz:=by rw [←Nat.succ_mul];exact Nat.mul_le_mul_right _ hj
 have hin2:xs.length*d.sz≤c*d.sz:=Nat.mul_le_mul_right _ hxc
 have hp:addA ((⟨b,0,none⟩:Addr).add (j*d.sz)) k=⟨b,j*d.sz+k,none⟩:=by rw [addA_eq,add_add,add_lit0]
 have hfit:j*d.sz+k+us.length≤cur.size:=by rw [hcs];omega
 have hs:=setRow_upd (w:=w) (b:=b) (cs:=(lay cur.toList (j*d.sz+k) us).toArray) hb
 have key:∀w',w'=w.setRow b (lay cur.toList (j*d.sz+k) us).toArray→Upd (rowS (okL l) e) w w'∧Laid d w w' e A j k us∧Ow d e w'.heap (okL l) (okL (li++lv)) A c (xs.set j y):=by
  rintro w' rfl
  have hupd:Upd (ownS A c) w (w.setRow b (lay cur.toList (j*d.sz+k) us).toArray):=hs.1.mono fun i' _ e'=>⟨hc,_,hA',by simpa using e'.symm⟩
  refine ⟨hO.upd_sub hupd,⟨b,cur,hA',hb,hfit,hs.2⟩,?_⟩
  have hap':∀b,b<w.heap.size→okL lv b (Go.H.ty w.heap b)→ownS A c b none→False:=fun b hb ho hs=>by
   obtain ⟨h1,h2⟩:=hO.own_ok hs
   rw [h2] at ho
   exact dis_of hap b _ ho ⟨h1,rfl⟩
  have hel:lay fl (j*d.sz+k) us=lay fl (j*d.sz) (lay cs k us):=by
   rw [←lay_lay cs fl us (j*d.sz) k hk (by have:=hch.1;omega)]
   congr 1
   apply List.ext_getElem?
   intro m
   rw [lay_get cs fl _ (by have:=hch.1;omega)]
   split
   ·rename_i hm
    have hm2:m-j*d.sz<cs.length:=by omega
    have:=hcc (m-j*d.sz) _ (List.getElem?_eq_getElem hm2)
    rw [show j*d.sz+(m-j*d.sz)=m by omega] at this
    rw [this,List.getElem?_eq_getElem hm2]
   ·rfl
  have hx1:=hch.mono (ok':=off1 (orS (okL li) (okL lv)) b) fun b' _ ho=>⟨.inl ho.1,ho.2⟩
  have hr1:d.rep w.heap (off1 (orS (okL li) (okL lv)) b) (lay cs k us) y:=by
   exact d.mono hry fun b' hb' ho=>by
    rcases ho with ho|ho
    ·exact ⟨.inl ho.1,ho.2⟩
    ·exact ⟨.inr ho,fun eb=>hap' _ hb' ho ⟨hc,_,hA',eb.symm⟩⟩
  have ho:Ow d e (w.setRow b (lay cur.toList (j*d.sz+k) us).toArray).heap (okL l) (orS (okL li) (okL lv)) A c (xs.set j y):=by
   refine .inr ⟨b,_,lay fl (j*d.sz+k) us,hA',by rw [List.length_set];exact hxc,hcm,hok,hs.2,by simp [lay_length,hcs],?_,?_⟩
   ·rw [List.length_set,←hfl]
    simp only [List.toList_toArray]
    exact lay_take us _ _ _ (by have:=hch.1;omega)
   ·rw [hel]
    exact (hx1.set hj hr1).upd fun b' _ ho=>setRow_other w b b' _ ho.2
  exact ho.mono (fun b hb hh=>hh) fun b hb hh=>okL_append.2 hh
 obtain ⟨k1,k2,k3⟩:=key _ rfl
 refine RW.stepS hn (fun ρ hρ=>?_) (h _ k1 k2 k3)
 have:=run_storeBlock (hT.get hg) (o:=j*d.sz+k) hb hu hl (fun u hh=>List.all_eq_true.1 h1 u hh) hfit
 unfold execOp
 simp only [hop,hρ x _ hx,hρ z _ hz,Instr.storeAt,Instr.sureAddr,Sem.run_bind,Sem.run_pure,Result.andThen_ok,hp,this]
end
end Go.H
namespace Go.H
open Go.RowKit
theorem Ow.short {α:Type} {d:Kd α} {T:TypeId} {h:Heap} {ok oi:Fp} {A:Option Addr} {c:Nat} {xs:List α} (k:Ow d T h ok oi A c xs):xs.length≤maxLen:=by
 rcases k with ⟨rfl,rfl⟩|⟨b,cur,fl,rfl,h1,h2,_⟩
 ·exact Nat.zero_le _
 ·omega
end Go.H
namespace Go.H
open Go.RowKit
section
variable {α β:Type} {T:TypeId} {h:Heap} {ok oi:Fp} {A:Option Addr} {c n:Nat}
def Kd.any (α:Type) (n:Nat):Kd α where
 sz:=n+1
 pos:=by omega
 rep:=fun _ _ cs _=>cs.length=n+1∧∀c∈cs,c.oneCell'=true
 len:=fun e=>e.1
 one:=fun e=>e.2
 upd:=fun e _=>e
 mono:=fun e _=>e
theorem Ow.conv {d d':Kd α} {xs:List α} (hs:d.sz=d'.sz) (hr:∀ok cs x,d.rep h ok cs x→d'.rep h ok cs x) (k:Ow d T h ok oi A c xs):Ow d' T h ok oi A c xs:=by
 rcases k with ⟨rfl,rfl⟩|⟨b,cur,fl,rfl,h1,h2,h3,h4,h5,h6,h7⟩
 ·exact .inl ⟨rfl,rfl⟩
 ·refine .inr ⟨b,cur,fl,rfl,h1,h2,h3,h4,by rw [←hs];exact h5,by rw [←hs];exact h6,by rw [←hs];exact h7.1,fun i x hx=>?_⟩
  obtain ⟨cs,hr',hc⟩:=h7.2 i x hx
  exact ⟨cs,hr _ _ _ hr',by rw [←hs];exact hc⟩
theorem Ow.hollow {d:Kd α} {xs:List α} (hs:d.sz=n+1) (k:Ow d T h ok oi A c xs):Ow (Kd.any α n) T h ok oi A c xs:=
 k.conv hs fun ok cs x hr=>⟨(d.len hr).trans hs,d.one hr⟩
structure Stored (w w':World) (e:TypeId) (b o:Nat) (us:List Value):Prop where
 at_:∃cur,w.heap[b]?=some (.cells cur e (0,0))∧o+us.length≤cur.size∧w'.heap[b]?=some (.cells (lay cur.toList o us).toArray e (0,0))
 rest:∀b',b'≠b→w'.heap[b']?=w.heap[b']?
 one:∀u∈us,u.oneCell'=true
theorem Ow.any_kept {w w':World} {e:TypeId} {b o:Nat} {us:List Value} {xs:List α} (s:Stored w w' e b o us) (k:Ow (Kd.any α n) T w.heap ok oi A c xs):Ow (Kd.any α n) T w'.heap ok oi A c xs:=by
 rcases k with ⟨rfl,rfl⟩|⟨b0,cur,fl,rfl,h1,h2,h3,h4,h5,h6,h7⟩
 ·exact .inl ⟨rfl,rfl⟩
 ·by_cases eb:b0=b
  ·subst eb
   obtain ⟨cur',c1,c2,c3⟩:=s.at_
   rw [h4] at c1
   injection c1 with c1
   injection c1 with c1 c4
   subst c1
   subst c4
   have hsz:(Kd.any α n).sz=n+1:=rfl
   rw [hsz] at h5 h6
   have hin:xs.length*(n+1)≤c*(n+1):=Nat.mul_le_mul_right _ h1
   have hfl:fl.length=xs.length*(n+1):=h7.1
   have hcl:cur.toList.length=c*(n+1):=by rw [Array.length_toList];exact h5
   have hl1:∀q u,(lay cur.toList o us)[q]?=some u→q<xs.length*(n+1)→u.oneCell'=true:=by
    intro q u hu hq
    rw [lay_get us _ _ (by simpa using c2)] at hu
    split at hu
    ·exact s.one u (List.mem_of_getElem? hu)
    ·have hi:q/(n+1)<xs.length:=Nat.div_lt_of_lt_mul (by rw [Nat.mul_comm];exact hq)
     obtain ⟨cs,hr,hc⟩:=h7.2 (q/(n+1)) _ (List.getElem?_eq_getElem hi)
     have hm:q%(n+1)<n+1:=Nat.mod_lt _ (by omega)
     have:=hc (q%(n+1)) _ (List.getElem?_eq_getElem (by rw [hr.1];exact hm))
     have eq:q/(n+1)*(Kd.any α n).sz+q%(n+1)=q:=by rw [hsz,Nat.mul_comm];exact Nat.div_add_mod q (n+1)
     rw [eq,←h6,List.getElem?_take,if_pos hq,hu] at this
     injection this with this
     rw [this]
     exact hr.2 _ (List.getElem_mem _)
   refine .inr ⟨b0,_,(lay cur.toList o us).take (xs.length*(n+1)),rfl,h1,h2,h3,c3,by rw [hsz];simp [lay_length,h5],by rw [hsz],?_,fun i x hx=>?_⟩
   ·rw [hsz,List.length_take,lay_length,hcl];omega
   ·have hi:i<xs.length:=by
     rcases Nat.lt_or_ge i xs.length with z|z
     ·exact z
     ·rw [List.getElem?_eq_none z] at hx;cases hx
    have hi2:i*(n+1)+(n+1)≤xs.length*(n+1):=by rw [←Nat.succ_mul];exact Nat.mul_le_mul_right _ hi
    refine ⟨((lay cur.toList o us).drop (i*(n+1))).take (n+1),⟨?_,fun u hu=>?_⟩,fun j u hu=>?_⟩
    ·rw [List.length_take,List.length_drop,lay_length,hcl];omega
    ·obtain ⟨q,hq,e1⟩:=List.getElem_of_mem hu
     have e2:=List.getElem?_eq_getElem hq
     rw [List.length_take] at hq
     rw [e1,List.getElem?_take,if_pos (by omega),List.getElem?_drop] at e2
     exact hl1 _ u e2 (by omega)
    ·rw [List.getElem?_take] at hu
     split at hu
     ·rw [hsz,List.getElem?_take,if_pos (by omega)]
      rw [List.getElem?_drop] at hu
      exact hu
     ·cases hu
  ·exact .inr ⟨b0,cur,fl,rfl,h1,h2,h3,(s.rest b0 eb).trans h4,h5,h6,h7.1,h7.2⟩
def Kept (d:Kd α) (w w':World):Prop:=∀ok cs x,d.rep w.heap ok cs x→d.rep w'.heap ok cs x
theorem Kept.scalar {f:α→Value} {h1:∀x,(f x).oneCell'=true} {w w':World}:Kept (Kd.scalar f h1) w w':=fun _ _ _ h=>h
theorem Kept.pair {a:Kd α} {b:Kd β} {w w':World} (ha:Kept a w w') (hb:Kept b w w'):Kept (.pair a b) w w':=fun ok cs x ⟨u,v,e,hu,hv⟩=>⟨u,v,e,ha _ _ _ hu,hb _ _ _ hv⟩
theorem Kept.iso {a:Kd α} {f:β→α} {w w':World} (ha:Kept a w w'):Kept (.iso a f) w w':=fun ok cs x h=>ha _ _ _ h
theorem Kept.ow {w w':World} {e:TypeId} {b o:Nat} {us:List Value} (s:Stored w w' e b o us):Kept (.ow (Kd.any α n) T) w w':=fun ok cs x ⟨A,c,e,k⟩=>⟨A,c,e,k.any_kept s⟩
theorem Ow.kept {d:Kd α} {w w':World} {e:TypeId} {b o:Nat} {us:List Value} {xs:List α} (k:Ow d T w.heap ok oi A c xs) (s:Stored w w' e b o us) (hne:T≠e) (hk:Kept d w w'):Ow d T w'.heap ok oi A c xs:=by
 rcases k with ⟨rfl,rfl⟩|⟨b0,cur,fl,rfl,h1,h2,h3,h4,h5,h6,h7⟩
 ·exact .inl ⟨rfl,rfl⟩
 ·have eb:b0≠b:=fun z=>by
   subst z
   obtain ⟨cur',c1,_⟩:=s.at_
   rw [h4] at c1
   injection c1 with c1
   injection c1 with _ c2
   exact hne c2
  refine .inr ⟨b0,cur,fl,rfl,h1,h2,h3,(s.rest b0 eb).trans h4,h5,h6,h7.1,fun i x hx=>?_⟩
  obtain ⟨cs,hr,hc⟩:=h7.2 i x hx
  exact ⟨cs,hk _ _ _ hr,hc⟩
end
section
variable {P:Program} {N:Nat} {Q:Exit→Act→World→Prop} {E:Env} {w:World} {ops:List Oper} {tab:Tab} {α:Type} {d:Kd α}
theorem RW.storeElY {i:Nat} {o:Oper} {r:OT} {T0 e:TypeId} {t0:Ti} {x z:Operand} {l li lv:List Seg3} {A:Option Addr} {ad:Addr} {c:Nat} {xs:List α} {j k:Nat} {v:Value} {y:α} (hT:TabOk P tab) (hO:Ow d e w.heap (okL l) (okL li) A c xs) (hj:j<xs.length) (z0:α) (us:List Value)
 (hy:∀cs ok',d.rep w.heap ok' cs (xs.getD j z0)→k+us.length≤cs.length∧d.rep w.heap (orS ok' (okL lv)) (lay cs k us) y) (hap:allD e lv l)
 (hn:Nx0 ops E i o) (hop:o.op=.store T0 x z) (hg:tab.get T0=some t0) (hA:A=some ad) (hx:ev E x=some (.pointer (some (addA (ad.add (j*d.sz)) k)))) (hz:ev E z=some v) (hu:v.cells=us.toArray) (hl:us.length=t0.size) (h1:us.all Value.oneCell'=true)
 (h:∀w',Upd (rowS (okL l) e) w w'→(∃b,Stored w w' e b (j*d.sz+k) us)→Ow d e w'.heap (okL l) (okL (li++lv)) A c (xs.set j y)→RW P N ops Q r E w'):RW P N ops Q (.one i .M r) E w:=by
 obtain ⟨b,cur,fl,hA',hc,hcm,hxc,hok,hb,hcs,hfl,hch⟩:=hO.storeAt hj
 have hA2:=hA
 rw [hA'] at hA2
 cases hA2
 obtain ⟨cs,hr,hcc⟩:=hch.2 j _ (List.getElem?_eq_getElem hj)
 have hgd:xs.getD j z0=xs[j]:=by rw [List.getD_eq_getElem?_getD,List.getElem?_eq_getElem hj];rfl
 obtain ⟨hk,hry⟩:=hy cs _ (by rw [hgd];exact hr)
 have hcl:=d.len hr
 have hin:j*d.sz+d.sz≤xs.length*d.sz:=by rw [←Nat.succ_mul];exact Nat.mul_le_mul_right _ hj
 have hin2:xs.length*d.sz≤c*d.sz:=Nat.mul_le_mul_right _ hxc
 have hp:addA ((⟨b,0,none⟩:Addr).add (j*d.sz)) k=⟨b,j*d.sz+k,none⟩:=by rw [addA_eq,add_add,add_lit0]
 have hfit:j*d.sz+k+us.length≤cur.size:=by rw [hcs];omega
 have hs:=setRow_upd (w:=w) (b:=b) (cs:=(lay cur.toList (j*d.sz+k) us).toArray) hb
 have key:∀w',w'=w.setRow b (lay cur.toList (j*d.sz+k) us).toArray→Upd (rowS (okL l) e) w w'∧(∃b,Stored w w' e b (j*d.sz+k) us)∧Ow d e w'.heap (okL l) (okL (li++lv)) A c (xs.set j y):=by
  rintro w' rfl
  have hupd:Upd (ownS A c) w (w.setRow b (lay cur.toList (j*d.sz+k) us).toArray):=hs.1.mono fun i' _ e'=>⟨hc,_,hA',by simpa using e'.symm⟩
  refine ⟨hO.upd_sub hupd,⟨b,⟨cur,hb,hfit,hs.2⟩,fun b' hn=>setRow_other w b b' _ hn,fun u hu=>List.all_eq_true.1 h1 u hu⟩,?_⟩
  have hap':∀b,b<w.heap.size→okL lv b (Go.H.ty w.heap b)→ownS A c b none→False:=fun b hb ho hs=>by
   obtain ⟨h1,h2⟩:=hO.own_ok hs
   rw [h2] at ho
   exact dis_of hap b _ ho ⟨h1,rfl⟩
  have hel:lay fl (j*d.sz+k) us=lay fl (j*d.sz) (lay cs k us):=by
   rw [←lay_lay cs fl us (j*d.sz) k hk (by have:=hch.1;omega)]
   congr 1
   apply List.ext_getElem?
   intro m
   rw [lay_get cs fl _ (by have:=hch.1;omega)]
   split
   ·rename_i hm
    have hm2:m-j*d.sz<cs.length:=by omega
    have:=hcc (m-j*d.sz) _ (List.getElem?_eq_getElem hm2)
    rw [show j*d.sz+(m-j*d.sz)=m by omega] at this
    rw [this,List.getElem?_eq_getElem hm2]
   ·rfl
  have hx1:=hch.mono (ok':=off1 (orS (okL li) (okL lv)) b) fun b' _ ho=>⟨.inl ho.1,ho.2⟩
  have hr1:d.rep w.heap (off1 (orS (okL li) (okL lv)) b) (lay cs k us) y:=by
   exact d.mono hry fun b' hb' ho=>by
    rcases ho with ho|ho
    ·exact ⟨.inl ho.1,ho.2⟩
    ·exact ⟨.inr ho,fun eb=>hap' _ hb' ho ⟨hc,_,hA',eb.symm⟩⟩
  have ho:Ow d e (w.setRow b (lay cur.toList (j*d.sz+k) us).toArray).heap (okL l) (orS (okL li) (okL lv)) A c (xs.set j y):=by
   refine .inr ⟨b,_,lay fl (j*d.sz+k) us,hA',by rw [List.length_set];exact hxc,hcm,hok,hs.2,by simp [lay_length,hcs],?_,?_⟩
   ·rw [List.length_set,←hfl]
    simp only [List.toList_toArray]
    exact lay_take us _ _ _ (by have:=hch.1;omega)
   ·rw [hel]
    exact (hx1.set hj hr1).upd fun b' _ ho=>setRow_other w b b' _ ho.2
  exact ho.mono (fun b hb hh=>hh) fun b hb hh=>okL_append.2 hh
 obtain ⟨k1,k2,k3⟩:=key _ rfl
 refine RW.stepS hn (fun ρ hρ=>?_) (h _ k1 k2 k3)
 have:=run_storeBlock (hT.get hg) (o:=j*d.sz+k) hb hu hl (fun u hh=>List.all_eq_true.1 h1 u hh) hfit
 unfold execOp
 simp only [hop,hρ x _ hx,hρ z _ hz,Instr.storeAt,Instr.sureAddr,Sem.run_bind,Sem.run_pure,Result.andThen_ok,hp,this]
end
end Go.H
namespace Go.H
open Go.RowKit
theorem Kd.any_lay {α:Type} {n k:Nat} {us cs:List Value} {x y:α} {h h':Heap} {ok ok':Fp} (hr:(Kd.any α n).rep h ok cs x) (hk:k+us.length≤n+1) (h1:us.all Value.oneCell'=true):k+us.length≤cs.length∧(Kd.any α n).rep h' ok' (lay cs k us) y:=by
 have hl:cs.length=n+1:=hr.1
 refine ⟨by omega,by rw [lay_length];exact hl,fun c hc=>?_⟩
 obtain ⟨q,hq,e⟩:=List.getElem_of_mem hc
 have e2:=List.getElem?_eq_getElem hq
 rw [e,lay_get us cs k (by omega)] at e2
 split at e2
 ·exact List.all_eq_true.1 h1 c (List.mem_of_getElem? e2)
 ·exact hr.2 c (List.mem_of_getElem? e2)
end Go.H
namespace Go.H
open Go.RowKit
section
variable {P:Program} {N:Nat} {Q:Exit→Act→World→Prop} {E:Env} {w:World} {ops:List Oper} {tab:Tab} {α:Type} {d:Kd α}
theorem RW.storeElY0 {i:Nat} {o:Oper} {r:OT} {T0 e:TypeId} {t0:Ti} {x z:Operand} {l li lv:List Seg3} {A:Option Addr} {ad:Addr} {c:Nat} {xs:List α} {j:Nat} {v:Value} {y:α} (hT:TabOk P tab) (hO:Ow d e w.heap (okL l) (okL li) A c xs) (hj:j<xs.length) (z0:α) (us:List Value)
 (hy:∀cs ok',d.rep w.heap ok' cs (xs.getD j z0)→0+us.length≤cs.length∧d.rep w.heap (orS ok' (okL lv)) (lay cs 0 us) y) (hap:allD e lv l)
 (hn:Nx0 ops E i o) (hop:o.op=.store T0 x z) (hg:tab.get T0=some t0) (hA:A=some ad) (hx:ev E x=some (.pointer (some (ad.add (j*d.sz))))) (hz:ev E z=some v) (hu:v.cells=us.toArray) (hl:us.length=t0.size) (h1:us.all Value.oneCell'=true)
 (h:∀w',Upd (rowS (okL l) e) w w'→(∃b,Stored w w' e b (j*d.sz+0) us)→Ow d e w'.heap (okL l) (okL (li++lv)) A c (xs.set j y)→RW P N ops Q r E w'):RW P N ops Q (.one i .M r) E w:=
 RW.storeElY hT hO hj z0 us hy hap hn hop hg hA (by rw [addA_zero];exact hx) hz hu hl h1 h
end
end Go.H
namespace Go.H
open Go.RowKit
section
variable {P:Program} {N:Nat} {Q:Exit→Act→World→Prop} {E:Env} {w:World} {ops:List Oper} {tab:Tab} {α:Type} {d:Kd α}
theorem RW.storeElX0 {i:Nat} {o:Oper} {r:OT} {T0 e:TypeId} {t0:Ti} {x z:Operand} {l li lv:List Seg3} {A:Option Addr} {ad:Addr} {c:Nat} {xs:List α} {j:Nat} {v:Value} {y:α} (hT:TabOk P tab) (hO:Ow d e w.heap (okL l) (okL li) A c xs) (hj:j<xs.length) (z0:α) (us:List Value)
 (hy:∀cs ok',d.rep w.heap ok' cs (xs.getD j z0)→0+us.length≤cs.length∧d.rep w.heap (orS ok' (okL lv)) (lay cs 0 us) y) (hap:allD e lv l)
 (hn:Nx0 ops E i o) (hop:o.op=.store T0 x z) (hg:tab.get T0=some t0) (hA:A=some ad) (hx:ev E x=some (.pointer (some (ad.add (j*d.sz))))) (hz:ev E z=some v) (hu:v.cells=us.toArray) (hl:us.length=t0.size) (h1:us.all Value.oneCell'=true)
 (h:∀w',Upd (rowS (okL l) e) w w'→Laid d w w' e A j 0 us→Ow d e w'.heap (okL l) (okL (li++lv)) A c (xs.set j y)→RW P N ops Q r E w'):RW P N ops Q (.one i .M r) E w:=
 RW.storeElX hT hO hj z0 us hy hap hn hop hg hA (by rw [addA_zero];exact hx) hz hu hl h1 h
end
end Go.H
namespace Go.H
open Go.RowKit
section
variable {P:Program} {tab:Tab}
theorem run_partAgg {T:TypeId} {t:Ti} (hk:TiOk P T t) (ha:t.ti.agg=true) (cs:List Value) (off:Nat) (w:World):(part T cs.toArray off).run P w=.ok (.agg ((cs.drop off).take t.size).toArray) w:=by
 unfold part
 rw [Sem.run_bind,hk.run_isAgg,ha]
 have e:cs.toArray.extract off (off+t.size)=((cs.drop off).take t.size).toArray:=by
  apply Array.ext'
  simp
 simp [hk.run_sizeOf,e]
theorem run_equalFlatD (hT:TabOk P tab) {T:TypeId} {fs:Array Field} (hu:P.underlying T=some (.struct fs)) (hs:P.stoodInHeld T=false) (cs ds:List Value) {b:Bool} (hf:flatEq tab cs ds fs.toList=some b) (d:Nat) (w:World):(Op.equalIn (d+2) T (.agg cs.toArray) (.agg ds.toArray)).run P w=.ok b w:=by
 have e:P.fieldsOf T=fs:=by unfold Program.fieldsOf;rw [hu]
 rw [run_equalIn_struct w (d+1) T _ _ (by rw [e];exact hu) hs,e]
 exact run_flatEq hT cs ds w d hf
theorem run_equal2 (hT:TabOk P tab) {T:TypeId} {f1 f2:Field} {t1 t2:Ti} (hu:P.underlying T=some (.struct #[f1,f2])) (hs:P.stoodInHeld T=false) (n1:f1.name≠ "_") (n2:f2.name≠ "_") (g1:tab.get f1.type=some t1) (g2:tab.get f2.type=some t2) (a1:t1.ti.agg=true) (a2:t2.ti.agg=true) (cs ds:List Value) {b1 b2:Bool}
 (h1:∀w,(Op.equalIn 9999 f1.type (.agg ((cs.drop f1.offset).take t1.size).toArray) (.agg ((ds.drop f1.offset).take t1.size).toArray)).run P w=.ok b1 w)
 (h2:∀w,(Op.equalIn 9999 f2.type (.agg ((cs.drop f2.offset).take t2.size).toArray) (.agg ((ds.drop f2.offset).take t2.size).toArray)).run P w=.ok b2 w) (w:World):
 (Op.equalIn 10000 T (.agg cs.toArray) (.agg ds.toArray)).run P w=.ok (b1&&b2) w:=by
 have e:P.fieldsOf T=#[f1,f2]:=by unfold Program.fieldsOf;rw [hu]
 rw [run_equalIn_struct w 9999 T _ _ (by rw [e];exact hu) hs,e]
 have p1:=run_partAgg (hT.get g1) a1 cs f1.offset w
 have p2:=run_partAgg (hT.get g1) a1 ds f1.offset w
 have p3:=run_partAgg (hT.get g2) a2 cs f2.offset w
 have p4:=run_partAgg (hT.get g2) a2 ds f2.offset w
 unfold Op.eqFields
 rw [if_pos n1]
 simp only [Sem.run_bind,p1,Result.andThen_ok,p2,h1 w]
 cases b1
 ·simp
 ·simp only [Bool.not_true,Bool.false_eq_true,if_false]
  unfold Op.eqFields
  rw [if_pos n2]
  simp only [Sem.run_bind,p3,Result.andThen_ok,p4,h2 w]
  cases b2
  ·simp
  ·simp only [Bool.not_true,Bool.false_eq_true,if_false]
   unfold Op.eqFields
   rfl
end
section
variable {α:Type} {d:Kd α} {h:Heap} {ok oi:Fp} {A:Option Addr} {c:Nat} {xs:List α} {T:TypeId}
theorem Ch.drop {fl:List Value} (k:Ch d h ok fl xs) {j:Nat} (hj:j≤xs.length):Ch d h ok (fl.drop (j*d.sz)) (xs.drop j):=by
 refine ⟨?_,fun i x hx=>?_⟩
 ·rw [List.length_drop,List.length_drop,k.1,Nat.sub_mul]
 ·rw [List.getElem?_drop] at hx
  obtain ⟨cs,hr,hc⟩:=k.2 (j+i) x hx
  refine ⟨cs,hr,fun q u hu=>?_⟩
  rw [List.getElem?_drop,←Nat.add_assoc,←Nat.add_mul]
  exact hc q u hu
theorem Ow.chTail {l li:List Seg3} {j:Nat} (k:Ow d T h (okL l) (okL li) A c xs) (hj:j≤xs.length):∃yc,Ch d h (okL li) yc (xs.drop j)∧(0<(xs.drop j).length→∃ad,(if c=j then A else Option.map (fun q=>q.add (j*d.sz)) A)=some ad∧At h ad yc):=by
 rcases k with ⟨rfl,rfl⟩|⟨b,cur,fl,rfl,h1,h2,h3,h4,h5,h6,h7⟩
 ·exact ⟨[],by rw [List.drop_nil];exact Ch.nil,fun h0=>by simp at h0⟩
 ·refine ⟨fl.drop (j*d.sz),(h7.mono fun _ _ ho=>ho.1).drop hj,fun h0=>?_⟩
  rw [List.length_drop] at h0
  have hcj:¬c=j:=by omega
  rw [if_neg hcj]
  refine ⟨_,rfl,fun q u hu=>?_⟩
  rw [add_add,add_lit0,cellH_block h4]
  rw [List.getElem?_drop,←h6,List.getElem?_take] at hu
  split at hu
  ·simpa using hu
  ·cases hu
end
end Go.H
namespace Go.H
open Go.RowKit
section
variable {α β:Type} {d dR:Kd α} {h:Heap} {ok ok' oi:Fp} {A:Option Addr} {c:Nat} {xs:List α} {T S:TypeId} {z0:α}
def inU (U:Nat→Prop) (S:TypeId):Fp:=fun b t=>U b∧t=some S
def OwB (d:Kd α) (T S:TypeId) (h:Heap) (ok oi:Fp) (A:Option Addr) (c:Nat) (xs:List α):Prop:=
 (xs=[]∧c=0)∨∃b cur fl,A=some ⟨b,0,none⟩∧xs.length≤c∧c≤maxLen∧ok b (some T)∧h[b]?=some (.cells cur T (0,0))∧cur.size=c*d.sz∧cur.toList.take (xs.length*d.sz)=fl∧fl.length=xs.length*d.sz∧
  ∃U:Nat→Nat→Prop,(∀i j b,i<j→U i b→U j b→False)∧(∀i b,U i b→oi b (some S)∧b<h.size)∧
   ∀i x,xs[i]?=some x→∃cs,d.rep h (inU (U i) S) cs x∧∀j u,cs[j]?=some u→fl[i*d.sz+j]?=some u
theorem OwB.ow (hne:S≠T) (k:OwB d T S h ok oi A c xs):Ow d T h ok oi A c xs:=by
 rcases k with k|⟨b,cur,fl,e,h1,h2,h3,h4,h5,h6,h7,U,u1,u2,u3⟩
 ·exact .inl k
 ·refine .inr ⟨b,cur,fl,e,h1,h2,h3,h4,h5,h6,h7,fun i x hx=>?_⟩
  obtain ⟨cs,hr,hc⟩:=u3 i x hx
  refine ⟨cs,d.mono hr fun b' hb ho=>⟨?_,fun eb=>?_⟩,hc⟩
  ·rw [ho.2];exact (u2 i b' ho.1).1
  ·subst eb
   have:=ho.2
   rw [ty_cells h4] at this
   exact hne (Option.some.inj this).symm
theorem OwB.upd {h':Heap} (k:OwB d T S h ok oi A c xs) (hsz:h.size≤h'.size) (hu:∀b,b<h.size→ok b (ty h b)→h'[b]?=h[b]?) (hi:∀b,b<h.size→oi b (ty h b)→h'[b]?=h[b]?):OwB d T S h' ok oi A c xs:=by
 rcases k with k|⟨b,cur,fl,e,h1,h2,h3,h4,h5,h6,h7,U,u1,u2,u3⟩
 ·exact .inl k
 ·refine .inr ⟨b,cur,fl,e,h1,h2,h3,(hu b (lt_cells h4) (by rw [ty_cells h4];exact h3)).trans h4,h5,h6,h7,U,u1,fun i b' hb=>⟨(u2 i b' hb).1,by have:=(u2 i b' hb).2;omega⟩,fun i x hx=>?_⟩
  obtain ⟨cs,hr,hc⟩:=u3 i x hx
  exact ⟨cs,d.upd hr fun b' hb ho=>hi b' hb (by rw [ho.2];exact (u2 i b' ho.1).1),hc⟩
theorem OwB.mono (k:OwB d T S h ok oi A c xs) {oi':Fp} (hm:∀b,b<h.size→ok b (ty h b)→ok' b (ty h b)) (hi:∀b,b<h.size→oi b (some S)→oi' b (some S)):OwB d T S h ok' oi' A c xs:=by
 rcases k with k|⟨b,cur,fl,e,h1,h2,h3,h4,h5,h6,h7,U,u1,u2,u3⟩
 ·exact .inl k
 ·exact .inr ⟨b,cur,fl,e,h1,h2,by have:=hm b (lt_cells h4) (by rw [ty_cells h4];exact h3);rwa [ty_cells h4] at this,h4,h5,h6,h7,U,u1,fun i b' hb=>⟨hi b' (u2 i b' hb).2 (u2 i b' hb).1,(u2 i b' hb).2⟩,u3⟩
theorem OwB.nil:OwB d T S h ok oi A 0 ([]:List α):=.inl ⟨rfl,rfl⟩
theorem OwB.len (k:OwB d T S h ok oi A c xs):xs.length≤c:=by
 rcases k with ⟨rfl,rfl⟩|⟨b,cur,fl,e,h1,_⟩
 ·simp
 ·exact h1
def OwPartB (d:Kd α) (S:TypeId) (h:Heap) (lo m:Nat) (A:Option Addr) (xs:List α) (z:α) (i:Nat):Prop:=
 ∃U:Nat→Nat→Prop,(∀i j b,i<j→U i b→U j b→False)∧(∀j b,U j b→j<i∧lo≤b∧b<m)∧
  ∀j,j<i→∃ad cs,A=some ad∧d.rep h (inU (U j) S) cs (xs.getD j z)∧At h (ad.add (j*d.sz)) cs
theorem OwPartB.zero {lo m:Nat}:OwPartB d S h lo m A xs z0 0:=⟨fun _ _=>False,fun _ _ _ _ h=>h.elim,fun _ _ h=>h.elim,fun j hj=>by omega⟩
theorem OwPartB.ext {w w':World} {i lo m:Nat} (k:OwPartB d S w.heap lo m A xs z0 i) (hx:Ext w w'):OwPartB d S w'.heap lo m A xs z0 i:=by
 obtain ⟨U,u1,u2,u3⟩:=k
 refine ⟨U,u1,u2,fun j hj=>?_⟩
 obtain ⟨ad,cs,e,hr,hA⟩:=u3 j hj
 exact ⟨ad,cs,e,d.upd hr fun b hb _=>hx.get hb,hA.ext hx⟩
theorem OwPartB.up {i lo m m':Nat} (k:OwPartB d S h lo m A xs z0 i) (hm:m≤m'):OwPartB d S h lo m' A xs z0 i:=by
 obtain ⟨U,u1,u2,u3⟩:=k
 exact ⟨U,u1,fun j b hb=>by have:=u2 j b hb;omega,u3⟩
theorem OwPartB.store {w w':World} {e:TypeId} {i j k lo m:Nat} {us:List Value} {y:α} {l:List Seg3} (hp:OwPartB d S w.heap lo m A xs z0 i) (hu:Upd (rowS (okL l) e) w w') (hX:Laid d w w' e A j k us) (hij:i≤j) (hno:S≠e):OwPartB d S w'.heap lo m A (xs.set j y) z0 i:=by
 obtain ⟨U,u1,u2,u3⟩:=hp
 refine ⟨U,u1,u2,fun q hq=>?_⟩
 obtain ⟨ad,cs,ea,hr,ha⟩:=u3 q hq
 refine ⟨ad,cs,ea,?_,ha.other hX ea (by omega) (d.len hr)⟩
 have:(xs.set j y).getD q z0=xs.getD q z0:=by
  rw [List.getD_eq_getElem?_getD,List.getD_eq_getElem?_getD,List.getElem?_set_ne (by omega)]
 rw [this]
 exact d.upd hr fun b hb ho=>hu.keep b hb fun hs=>by
  have e2:=hs.2
  rw [ho.2] at e2
  exact hno (Option.some.inj e2)
theorem OwPartB.snoc {i lo m n1 n2:Nat} (hp:OwPartB d S h lo m A xs z0 i) (h1:m≤n1) (h0:lo≤n1) (h2:m≤n2) {ad:Addr} {cs:List Value} (hA:A=some ad) (hr:d.rep h (okL [(n1,some n2,some S)]) cs (xs.getD i z0)) (ha:At h (ad.add (i*d.sz)) cs):OwPartB d S h lo n2 A xs z0 (i+1):=by
 obtain ⟨U,u1,u2,u3⟩:=hp
 refine ⟨fun j b=>U j b∨(j=i∧n1≤b∧b<n2),fun p q b hpq hp hq=>?_,fun j b hb=>?_,fun j hj=>?_⟩
 ·rcases hp with hp|hp <;>rcases hq with hq|hq
  ·exact u1 p q b hpq hp hq
  ·have:=u2 p b hp;omega
  ·have:=u2 q b hq;omega
  ·omega
 ·rcases hb with hb|hb
  ·have:=u2 j b hb;omega
  ·omega
 ·by_cases cj:j=i
  ·subst cj
   refine ⟨ad,cs,hA,d.mono hr fun b _ ho=>?_,ha⟩
   rcases ho with ⟨o1,o2,o3⟩|ho
   ·exact ⟨.inr ⟨rfl,o1,o2⟩,o3⟩
   ·exact ho.elim
  ·obtain ⟨ad',cs',e,hr',hA'⟩:=u3 j (by omega)
   exact ⟨ad',cs',e,d.mono hr' fun b _ ho=>⟨.inl ho.1,ho.2⟩,hA'⟩
end
section
variable {α β:Type} {d:Kd α} {de:Kd β} {A:Option Addr} {c:Nat} {xs:List α} {T S:TypeId} {l l' li li':List Seg3} {w w':World} {z0:α}
theorem OwB.ext (k:OwB d T S w.heap (okL l) (okL li) A c xs) (hx:Ext w w'):OwB d T S w'.heap (okL l) (okL li) A c xs:=k.upd hx.size (fun b hb _=>hx.get hb) fun b hb _=>hx.get hb
theorem OwB.turnL {e:TypeId} (k:OwB d T S w.heap (okL l) (okL li) A c xs) (hx:Upd (rowS (okL l') e) w w') (hd:allD e l l') (hi:allD e li l'):OwB d T S w'.heap (okL l) (okL li) A c xs:=
 k.upd hx.size (fun b hb ho=>hx.keep b hb fun hs=>dis_of hd b _ ho hs) fun b hb ho=>hx.keep b hb fun hs=>dis_of hi b _ ho hs
theorem OwB.turnB {e:TypeId} {n:Nat} {cs:List Value} (k:OwB d T S w.heap (okL l) (okL li) A c xs) (hx:Upd (fun j _=>j=n) w w') (hb:Box w.heap n e cs) (hn:notIn n e l) (hi:notIn n e li):OwB d T S w'.heap (okL l) (okL li) A c xs:=
 k.upd hx.size (fun b hb' ho=>hx.keep b hb' (fun e=>by subst e;rw [hb.ty] at ho;exact notIn_no hn ho)) fun b hb' ho=>hx.keep b hb' (fun e=>by subst e;rw [hb.ty] at ho;exact notIn_no hi ho)
theorem OwB.sub (k:OwB d T S w.heap (okL l) (okL li) A c xs) (h:subL l l') (hi:subL li li'):OwB d T S w.heap (okL l') (okL li') A c xs:=k.mono (fun _ _ ho=>okL_sub h ho) fun _ _ ho=>okL_sub hi ho
theorem OwB.close (k:OwB d T S w.heap (okL l) (okL li) A c xs):OwB d T S w.heap (okL (closeS w.heap.size l)) (okL (closeS w.heap.size li)) A c xs:=k.mono (fun _ hb ho=>closeS_ok hb ho) fun _ hb ho=>closeS_ok hb ho
theorem At.same {h:Heap} {a:Addr} {cs ds:List Value} (h1:At h a cs) (h2:At h a ds) (hl:cs.length=ds.length):cs=ds:=by
 refine List.ext_getElem hl fun i a1 a2=>?_
 have e1:=h1 i _ (List.getElem?_eq_getElem a1)
 have e2:=h2 i _ (List.getElem?_eq_getElem a2)
 rw [e1] at e2
 exact Option.some.inj e2
end
end Go.H
namespace Go.H
open Go.RowKit
section
variable {P:Program} {N:Nat} {Q:Exit→Act→World→Prop} {E:Env} {w:World} {ops:List Oper} {tab:Tab} {α:Type} {d:Kd α}
theorem RW.sliceMid {i dd:Nat} {o:Oper} {r:OT} {T e:TypeId} {x y z:Operand} {t te:Ti} {A:Option Addr} {n c:Nat} {k k':IntKind} {j j':Int} (hT:TabOk P tab) (h0:0≤j) (h1:j≤j') (h2:j'≤c) (hn:Nx ops N E i o dd) (hop:o.op=.slice T x (some y) (some z) none) (hg:tab.get T=some t) (hti:t.ti=.slice e) (hge:tab.get e=some te) (hx:ev E x=some (.slice A n c)) (hy:ev E y=some (.int k j)) (hz:ev E z=some (.int k' j'))
 (h:RW P N ops Q r ((dd,.slice (if c=j.toNat then A else A.map (·.add (j.toNat*te.size))) (j'.toNat-j.toNat) (c-j.toNat))::E) w):RW P N ops Q (.one i .W r) E w:=
 RW.stepW hn (fun ρ hρ w'=>by
  obtain ⟨d,hd,ho⟩:=(hT.get hg).desc
  rw [hti] at ho
  cases ho
  unfold execOp
  have p1:0≤j':=by omega
  have p2:max j' 0=j':=by omega
  simp [p1,p2,hop,hρ x _ hx,hρ y _ hy,hρ z _ hz,Instr.sliceAt,Instr.slice,Instr.sliceBounds,Instr.sliceBound,asIntOf,underlying,hd,h0,h1,h2,(hT.get hge).run_sizeOf]) h
theorem RW.sliceAll {i dd:Nat} {o:Oper} {r:OT} {T e:TypeId} {x y z m:Operand} {t te:Ti} {A:Option Addr} {n c:Nat} {k k' k2:IntKind} {j j' q:Int} (hT:TabOk P tab) (h0:0≤j) (h1:j≤j') (h2:j'≤q) (h3:q≤c) (hn:Nx ops N E i o dd) (hop:o.op=.slice T x (some y) (some z) (some m)) (hg:tab.get T=some t) (hti:t.ti=.slice e) (hge:tab.get e=some te) (hx:ev E x=some (.slice A n c)) (hy:ev E y=some (.int k j)) (hz:ev E z=some (.int k' j')) (hm:ev E m=some (.int k2 q))
 (h:RW P N ops Q r ((dd,.slice (if q.toNat=j.toNat then A else A.map (·.add (j.toNat*te.size))) (j'.toNat-j.toNat) (q.toNat-j.toNat))::E) w):RW P N ops Q (.one i .W r) E w:=
 RW.stepW hn (fun ρ hρ w'=>by
  obtain ⟨d,hd,ho⟩:=(hT.get hg).desc
  rw [hti] at ho
  cases ho
  unfold execOp
  have p1:0≤j':=by omega
  have p2:max j' 0=j':=by omega
  have p3:0≤q:=by omega
  have p4:max q 0=q:=by omega
  simp [p1,p2,p3,p4,hop,hρ x _ hx,hρ y _ hy,hρ z _ hz,hρ m _ hm,Instr.sliceAt,Instr.slice,Instr.sliceBounds,Instr.sliceBound,asIntOf,underlying,hd,h0,h1,h2,h3,(hT.get hge).run_sizeOf]) h
theorem Ow.slide {T e:TypeId} {t te:Ti} {ok oi:Fp} {A:Option Addr} {c:Nat} {xs:List α} {p q:Nat} (hT:TabOk P tab) (hO:Ow d e w.heap ok oi A c xs) (hpq:p<q) (hq:q≤xs.length) (hg:tab.get T=some t) (hti:t.ti=.slice e) (hge:tab.get e=some te) (hd:d.sz=te.size) (ty:TypeId):
 ∃w',(Builtin.append_ #[T,T] ty #[.slice A p c,.slice (if c=q then A else A.map (·.add (q*te.size))) (xs.length-q) (c-q)]).run P w=.ok (.slice A (p+(xs.length-q)) c) w'∧Upd (ownS A c) w w'∧Ow d e w'.heap ok oi A c (xs.take p++xs.drop q++xs.drop (p+(xs.length-q))):=by
 have hke:=hT.get hge
 obtain ⟨dT,hdT,hoT⟩:=(hT.get hg).desc
 rw [hti] at hoT
 cases hoT
 obtain ⟨inf,hi,hs,hb,hz⟩:=hke.info
 have hlen:=hO.len
 by_cases hq0:xs.length=q
 ·subst hq0
  refine ⟨w,?_,Upd.refl _ w,?_⟩
  ·rw [Nat.sub_self,Nat.add_zero]
   exact run_append_none w T ty e inf hdT hi A _ p c _ (by omega)
  ·rw [Nat.sub_self,Nat.add_zero,List.drop_length,List.append_nil,List.take_append_drop]
   exact hO
 ·obtain ⟨b,cur,fl,hA',hc,hcm,hxc,hok,hbl,hcs,hfl,hch⟩:=hO.storeAt (j:=p) (by omega)
  subst hA'
  have hcq:¬c=q:=by omega
  rw [if_neg hcq]
  have hfll:fl.length=xs.length*d.sz:=hch.1
  have m1:q*d.sz≤xs.length*d.sz:=Nat.mul_le_mul_right _ hq
  have m2:p*d.sz≤q*d.sz:=Nat.mul_le_mul_right _ (by omega)
  have m3:xs.length*d.sz≤c*d.sz:=Nat.mul_le_mul_right _ hxc
  have m4:(xs.length-q)*d.sz=xs.length*d.sz-q*d.sz:=Nat.sub_mul _ _ _
  have m5:(p+(xs.length-q))*d.sz=p*d.sz+(xs.length*d.sz-q*d.sz):=by rw [Nat.add_mul,m4]
  have hyl:(fl.drop (q*d.sz)).length=(xs.length-q)*inf.size:=by rw [List.length_drop,hfll,hs,←hd,m4]
  have hnews:∀j u,(fl.drop (q*d.sz))[j]?=some u→w.cell? (((⟨b,0,none⟩:Addr).add (q*te.size)).add j)=some u:=fun j u hu=>by
   rw [←hd,add_add,add_lit0,cell_H,cellH_block hbl]
   rw [List.getElem?_drop,←hfl,List.getElem?_take] at hu
   split at hu
   ·simpa using hu
   ·cases hu
  have hone:∀u∈fl.drop (q*d.sz),u.oneCell'=true:=fun u hu=>hch.one u (List.mem_of_mem_drop hu)
  have hr:=run_append_room (P:=P) w T ty e inf hdT hi b p c cur hbl ((⟨b,0,none⟩:Addr).add (q*te.size)) (xs.length-q) (c-q) (fl.drop (q*d.sz)) hyl hnews hone (by omega) (by rw [List.length_drop,hfll,hs,←hd,hcs];omega)
  refine ⟨_,hr,⟨rfl,rfl,rfl,by simp,fun k _ hk=>setRow_other w b k _ (fun e=>hk ⟨hc,_,rfl,e.symm⟩)⟩,.inr ⟨b,_,fl.take (p*d.sz)++fl.drop (q*d.sz)++fl.drop ((p+(xs.length-q))*d.sz),rfl,?_,hcm,hok,setRow_heap w b cur _ e _ hbl,?_,?_,?_⟩⟩
  ·simp only [List.length_append,List.length_take,List.length_drop];omega
  ·simp only [List.size_toArray,List.length_append,List.length_take,List.length_drop,Array.length_toList]
   rw [hs,←hd,hfll,hcs]
   omega
  ·have e1:(xs.take p++xs.drop q++xs.drop (p+(xs.length-q))).length=xs.length:=by simp only [List.length_append,List.length_take,List.length_drop];omega
   have l1:(cur.toList.take (p*d.sz)).length=p*d.sz:=by rw [List.length_take,Array.length_toList,hcs];omega
   rw [e1,hs,←hd,List.toList_toArray]
   have e2:fl.take (p*d.sz)=cur.toList.take (p*d.sz):=by rw [←hfl,List.take_take,Nat.min_eq_left (by omega)]
   have e3:fl.drop ((p+(xs.length-q))*d.sz)=(cur.toList.drop (p*d.sz+(fl.drop (q*d.sz)).length)).take (xs.length*d.sz-(p*d.sz+(fl.drop (q*d.sz)).length)):=by
    have:(p+(xs.length-q))*d.sz=p*d.sz+(fl.drop (q*d.sz)).length:=by rw [List.length_drop,hfll,m5]
    rw [this,←hfl,List.drop_take]
   have l2:(cur.toList.take (p*d.sz)++fl.drop (q*d.sz)).length=p*d.sz+(fl.drop (q*d.sz)).length:=by rw [List.length_append,l1]
   rw [e2,e3,List.take_append,l2,List.take_of_length_le (by rw [l2,List.length_drop,hfll];omega)]
  ·have h1:=(hch.take p).append (hch.drop hq)
   have h2:=h1.append (hch.drop (j:=p+(xs.length-q)) (by omega))
   have lp:(xs.take p).length=p:=by rw [List.length_take];omega
   rw [lp] at h2
   exact h2.upd fun b' _ ho=>setRow_other w b b' _ ho.2
theorem RW.slide {i dd:Nat} {o:Oper} {r:OT} {T e:TypeId} {t te:Ti} {x y:Operand} {l li:List Seg3} {A:Option Addr} {c:Nat} {xs:List α} {p q:Nat} (hT:TabOk P tab) (hO:Ow d e w.heap (okL l) (okL li) A c xs) (hpq:p<q) (hq:q≤xs.length) (hn:Nx ops N E i o dd) (hop:o.op=.call ⟨.builtin .append,#[x,y],#[T,T]⟩) (hg:tab.get T=some t) (hti:t.ti=.slice e) (hge:tab.get e=some te) (hd:d.sz=te.size)
 (hx:ev E x=some (.slice A p c)) (hy:ev E y=some (.slice (if c=q then A else A.map (·.add (q*te.size))) (xs.length-q) (c-q)))
 (h:∀w',Upd (rowS (okL l) e) w w'→Ow d e w'.heap (okL l) (okL li) A c (xs.take p++xs.drop q++xs.drop (p+(xs.length-q)))→RW P N ops Q r ((dd,.slice A (p+(xs.length-q)) c)::E) w'):RW P N ops Q (.one i .M r) E w:=by
 obtain ⟨w',hr,hu,ho⟩:=Ow.slide (P:=P) hT hO hpq hq hg hti hge hd o.type
 refine RW.stepM hn (fun ρ hρ=>?_) (h w' (hO.upd_sub hu) ho)
 obtain ⟨cs,hcs⟩:=run_builtin2 (b:=.append) hρ hop hx hy
 rw [hcs]
 unfold builtin
 simp only [Sem.run_bind,hr,Result.andThen_ok]
 rfl
end
end Go.H
namespace Go.H
open Go.RowKit
section
variable {P:Program} {tab:Tab} {w:World}
theorem run_copy_rowN (dT sT ty elem:TypeId) (inf:TypeInfo) (g o dLen dCap:Nat) (a:Addr) (sLen sCap:Nat) (cur:Array Value) (t:TypeId) (cs:List Value)
 (hu:P.underlying dT=some (.slice elem)) (hs:P.info? elem=some inf)
 (hg:w.heap[g]?=some (.cells cur t (0,0))) (hn:cs.length=Nat.min sLen dLen*inf.size)
 (hsrc:∀j v,cs[j]?=some v→w.cell? (a.add j)=some v) (hfit:o+cs.length≤cur.size) (h1:∀v∈cs,v.oneCell'=true):
 (Builtin.copy_ #[dT,sT] ty #[.slice (some ⟨g,o,none⟩) dLen dCap,.slice (some a) sLen sCap]).run P w=
  .ok (goInt (Nat.min sLen dLen)) (w.setRow g (cur.toList.take o++cs++cur.toList.drop (o+cs.length)).toArray):=by
 have hl:=run_loadCells_list (P:=P) w a cs hsrc
 have hst:=run_storeCells_at P g o t cs 0 cur w hg (by simpa using hfit) h1
 simp [Builtin.copy_,run_underlying hu,Builtin.lenOf,Builtin.firstCells,sizeOf,typeInfo,hs,←hn,hl,hst]
variable {α:Type} {d:Kd α}
theorem Ow.put {T e ty:TypeId} {t te:Ti} {ok oi oky:Fp} {A:Option Addr} {c:Nat} {xs ys:List α} {j cB:Nat} {ad:Addr} {us:List Value} (hT:TabOk P tab) (hO:Ow d e w.heap ok oi A c xs) (hj:j<xs.length) (hl:j+ys.length≤xs.length) (hys:Ch d w.heap oky us ys) (hB:At w.heap ad us)
 (hap:∀b,b<w.heap.size→oky b (Go.H.ty w.heap b)→ownS A c b none→False) (hg:tab.get T=some t) (hti:t.ti=.slice e) (hge:tab.get e=some te) (hd:d.sz=te.size):
 ∃w' n,(Builtin.copy_ #[T,T] ty #[.slice (if c=j then A else A.map (·.add (j*te.size))) (xs.length-j) (c-j),.slice (some ad) ys.length cB]).run P w=.ok (goInt n) w'∧Upd (ownS A c) w w'∧Ow d e w'.heap ok (orS oi oky) A c (xs.take j++ys++xs.drop (j+ys.length)):=by
 have hke:=hT.get hge
 obtain ⟨dT,hdT,hoT⟩:=(hT.get hg).desc
 rw [hti] at hoT
 cases hoT
 obtain ⟨inf,hi,hs,hb,hz⟩:=hke.info
 obtain ⟨b,cur,fl,hA',hc,hcm,hxc,hok,hbl,hcs,hfl,hch⟩:=hO.storeAt hj
 subst hA'
 have hcj:¬c=j:=by omega
 rw [if_neg hcj]
 have hfll:fl.length=xs.length*d.sz:=hch.1
 have hul:us.length=ys.length*d.sz:=hys.1
 have m1:(j+ys.length)*d.sz≤xs.length*d.sz:=Nat.mul_le_mul_right _ hl
 have m2:xs.length*d.sz≤c*d.sz:=Nat.mul_le_mul_right _ hxc
 have m3:(j+ys.length)*d.sz=j*d.sz+us.length:=by rw [Nat.add_mul,hul]
 have hmin:Nat.min ys.length (xs.length-j)=ys.length:=Nat.min_eq_left (by omega)
 have hr:=run_copy_rowN (P:=P) (w:=w) T T ty e inf b (j*te.size) (xs.length-j) (c-j) ad ys.length cB cur e us hdT hi hbl (by rw [hmin,hs,←hd];exact hul) (fun q u hu=>hB q u hu) (by rw [hcs,←hd];omega) hys.one
 have ea:Option.map (fun x=>x.add (j*te.size)) (some (⟨b,0,none⟩:Addr))=some ⟨b,j*te.size,none⟩:=by rw [Option.map_some,add_lit0]
 rw [ea]
 refine ⟨_,_,hr,⟨rfl,rfl,rfl,by simp,fun k _ hk=>setRow_other w b k _ (fun e=>hk ⟨hc,_,rfl,e.symm⟩)⟩,.inr ⟨b,_,fl.take (j*d.sz)++us++fl.drop ((j+ys.length)*d.sz),rfl,?_,hcm,hok,setRow_heap w b cur _ e _ hbl,?_,?_,?_⟩⟩
 ·simp only [List.length_append,List.length_take,List.length_drop];omega
 ·simp only [List.size_toArray,List.length_append,List.length_take,List.length_drop,Array.length_toList]
  rw [←hd,hcs]
  omega
 ·have e1:(xs.take j++ys++xs.drop (j+ys.length)).length=xs.length:=by simp only [List.length_append,List.length_take,List.length_drop];omega
  have l1:(cur.toList.take (j*d.sz)).length=j*d.sz:=by rw [List.length_take,Array.length_toList,hcs];omega
  rw [e1,←hd,List.toList_toArray]
  have e2:fl.take (j*d.sz)=cur.toList.take (j*d.sz):=by rw [←hfl,List.take_take,Nat.min_eq_left (by omega)]
  have e3:fl.drop ((j+ys.length)*d.sz)=(cur.toList.drop (j*d.sz+us.length)).take (xs.length*d.sz-(j*d.sz+us.length)):=by rw [m3,←hfl,List.drop_take]
  have l2:(cur.toList.take (j*d.sz)++us).length=j*d.sz+us.length:=by rw [List.length_append,l1]
  rw [e2,e3,List.take_append,l2,List.take_of_length_le (by rw [l2];omega)]
 ·have hx1:=hch.mono (ok':=off1 (orS oi oky) b) fun b' _ ho=>⟨.inl ho.1,ho.2⟩
  have hy1:=hys.mono (ok':=off1 (orS oi oky) b) fun b' hb' ho=>⟨.inr ho,fun eb=>hap b' hb' ho ⟨hc,_,rfl,eb.symm⟩⟩
  have h1:=((hx1.take j).append hy1).append (hx1.drop (j:=j+ys.length) hl)
  have lp:(xs.take j).length=j:=by rw [List.length_take];omega
  rw [lp] at h1
  exact h1.upd fun b' _ ho=>setRow_other w b b' _ ho.2
theorem Ow.shift {T e ty:TypeId} {t te:Ti} {ok oi:Fp} {A:Option Addr} {c:Nat} {xs:List α} {j:Nat} (hT:TabOk P tab) (hO:Ow d e w.heap ok oi A c xs) (hj:j<xs.length) (hl:xs.length+1≤c) (hg:tab.get T=some t) (hti:t.ti=.slice e) (hge:tab.get e=some te) (hd:d.sz=te.size):
 ∃w' n,(Builtin.copy_ #[T,T] ty #[.slice (if c=j+1 then A else A.map (·.add ((j+1)*te.size))) (xs.length+1-(j+1)) (c-(j+1)),.slice (if c=j then A else A.map (·.add (j*te.size))) (xs.length+1-j) (c-j)]).run P w=.ok (goInt n) w'∧Upd (ownS A c) w w'∧Ow d e w'.heap ok oi A c (xs.take (j+1)++xs.drop j):=by
 have hke:=hT.get hge
 obtain ⟨dT,hdT,hoT⟩:=(hT.get hg).desc
 rw [hti] at hoT
 cases hoT
 obtain ⟨inf,hi,hs,hb,hz⟩:=hke.info
 obtain ⟨b,cur,fl,hA',hc,hcm,hxc,hok,hbl,hcs,hfl,hch⟩:=hO.storeAt hj
 subst hA'
 rw [if_neg (show ¬c=j+1 by omega),if_neg (show ¬c=j by omega)]
 have hfll:fl.length=xs.length*d.sz:=hch.1
 have m0:j*d.sz≤xs.length*d.sz:=Nat.mul_le_mul_right _ (by omega)
 have m1:(xs.length+1)*d.sz≤c*d.sz:=Nat.mul_le_mul_right _ hl
 have m2:(xs.length+1)*d.sz=xs.length*d.sz+d.sz:=Nat.succ_mul _ _
 have m3:(j+1)*d.sz=j*d.sz+d.sz:=Nat.succ_mul _ _
 have m4:(xs.length-j)*d.sz=xs.length*d.sz-j*d.sz:=Nat.sub_mul _ _ _
 have m5:(j+1)*d.sz≤xs.length*d.sz:=Nat.mul_le_mul_right _ hj
 have hul:(fl.drop (j*d.sz)).length=xs.length*d.sz-j*d.sz:=by rw [List.length_drop,hfll]
 have hmin:Nat.min (xs.length+1-j) (xs.length+1-(j+1))=xs.length-j:=by show min (xs.length+1-j) (xs.length+1-(j+1))=xs.length-j;omega
 have hsrc:∀q u,(fl.drop (j*d.sz))[q]?=some u→w.cell? (((⟨b,0,none⟩:Addr).add (j*te.size)).add q)=some u:=fun q u hu=>by
  rw [←hd,add_add,add_lit0,cell_H,cellH_block hbl]
  rw [List.getElem?_drop,←hfl,List.getElem?_take] at hu
  split at hu
  ·simpa using hu
  ·cases hu
 have hone:∀u∈fl.drop (j*d.sz),u.oneCell'=true:=fun u hu=>hch.one u (List.mem_of_mem_drop hu)
 have hr:=run_copy_rowN (P:=P) (w:=w) T T ty e inf b ((j+1)*te.size) (xs.length+1-(j+1)) (c-(j+1)) ((⟨b,0,none⟩:Addr).add (j*te.size)) (xs.length+1-j) (c-j) cur e (fl.drop (j*d.sz)) hdT hi hbl (by rw [hmin,hs,←hd,hul,m4]) hsrc (by rw [hcs,←hd,hul];omega) hone
 have ea:Option.map (fun x=>x.add ((j+1)*te.size)) (some (⟨b,0,none⟩:Addr))=some ⟨b,(j+1)*te.size,none⟩:=by rw [Option.map_some,add_lit0]
 rw [ea]
 refine ⟨_,_,hr,⟨rfl,rfl,rfl,by simp,fun k _ hk=>setRow_other w b k _ (fun e=>hk ⟨hc,_,rfl,e.symm⟩)⟩,.inr ⟨b,_,fl.take ((j+1)*d.sz)++fl.drop (j*d.sz),rfl,?_,hcm,hok,setRow_heap w b cur _ e _ hbl,?_,?_,?_⟩⟩
 ·simp only [List.length_append,List.length_take,List.length_drop];omega
 ·simp only [List.size_toArray,List.length_append,List.length_take,List.length_drop,Array.length_toList]
  rw [←hd,hcs,hfll]
  omega
 ·have e1:(xs.take (j+1)++xs.drop j).length=xs.length+1:=by simp only [List.length_append,List.length_take,List.length_drop];omega
  have l1:(cur.toList.take ((j+1)*d.sz)).length=(j+1)*d.sz:=by rw [List.length_take,Array.length_toList,hcs];omega
  rw [e1,←hd,List.toList_toArray]
  have e2:fl.take ((j+1)*d.sz)=cur.toList.take ((j+1)*d.sz):=by rw [←hfl,List.take_take,Nat.min_eq_left (by omega)]
  rw [e2]
  exact List.take_left' (by rw [List.length_append,l1,hul];omega)
 ·have h1:=(hch.take (j+1)).append (hch.drop (j:=j) (by omega))
  have lp:(xs.take (j+1)).length=j+1:=by rw [List.length_take];omega
  rw [lp] at h1
  exact h1.upd fun b' _ ho=>setRow_other w b b' _ ho.2
theorem Ow.zeros {T Tn e ty:TypeId} {t te:Ti} {kq kn:IntKind} {ok oi:Fp} {A:Option Addr} {c j k:Nat} {xs:List α} {z0:α} (hT:TabOk P tab) (hO:Ow d e w.heap ok oi A c xs) (hj:j≤xs.length) (hk:0<k) (hroom:c<j+k) (h63:j+k≤maxLen) (hby:(j+k)*te.bytes≤140737488355328) (hg:tab.get T=some t) (hti:t.ti=.slice e) (hge:tab.get e=some te) (htn:P.underlying Tn=some (.int kn)) (hd:d.sz=te.size) (hz:∀h ok',d.rep h ok' te.zero z0):
 ∃c' w',(Builtin.append_ #[T,Tn] ty #[.slice A j c,.int kq (k:Int)]).run P w=.ok (.slice (some ⟨w.heap.size,0,none⟩) (j+k) c') w'∧Ext w w'∧w.heap.size<w'.heap.size∧j+k≤c'∧Ow d e w'.heap (newS w.heap.size e) oi (some ⟨w.heap.size,0,none⟩) c' (xs.take j++List.replicate k z0):=by
 have hke:=hT.get hge
 obtain ⟨dT,hdT,hoT⟩:=(hT.get hg).desc
 rw [hti] at hoT
 cases hoT
 obtain ⟨inf,hi,hs,hb,hzz⟩:=hke.info
 have hzc:(ofCells te.ti te.zero).cells=te.zero.toArray:=ofCells_cells hke
 have hzl:te.zero.length=d.sz:=d.len (hz w.heap ok)
 have hsp:0<inf.size:=by rw [hs];exact hke.pos
 have hfl:∃fl,Ch d w.heap oi fl (xs.take j)∧(Builtin.firstCells inf.size j (.slice A j c)).run P w.drew=.ok fl.toArray w.drew:=by
  rcases hO with ⟨rfl,rfl⟩|⟨b,cur,fl,rfl,h1,h2,h3,h4,h5,h6,h7⟩
  ·refine ⟨[],by rw [List.take_nil];exact Ch.nil,?_⟩
   have hj0:j=0:=by simpa using hj
   subst hj0
   cases A with
   |none=>exact run_firstCells_none w.drew inf.size 0 0 0
   |some a=>exact run_firstCells_some w.drew inf.size 0 a 0 0 [] (by simp) (fun q u hu=>by simp at hu)
  ·have lp:(xs.take j).length=j:=by rw [List.length_take];omega
   have h8:=(h7.mono (ok':=oi) fun b' _ ho=>ho.1).take j
   rw [lp] at h8
   refine ⟨_,h8,run_firstCells_some w.drew inf.size j ⟨b,0,none⟩ j c _ (by have:=h8.1;rw [lp] at this;rw [this,hs,←hd]) (fun q u hu=>?_)⟩
   show w.cell? _=_
   rw [add_lit0,cell_H,cellH_block h4]
   rw [List.getElem?_take] at hu
   split at hu
   ·rw [←h6,List.getElem?_take] at hu
    split at hu
    ·simpa using hu
    ·cases hu
   ·cases hu
 obtain ⟨fl,hch,hold⟩:=hfl
 have lp:(xs.take j).length=j:=by rw [List.length_take];omega
 have hfll:fl.length=j*d.sz:=by rw [hch.1,lp]
 have hr:=Lib.run_append_grow_zeros (P:=P) w T Tn ty e inf (ofCells te.ti te.zero) kq kn hdT htn hi hzz A j c fl hold k hk hsp hroom (by simp only [maxLen] at h63;omega) (by rw [hb];have:k*te.bytes≤(j+k)*te.bytes:=Nat.mul_le_mul_right _ (by omega);omega) (by rw [hb];exact growslice_fits hroom hby)
 have hge':=grownCap_ge w (j+k) c e
 have hcm:grownCap w (j+k) c e≤maxLen:=grownCap_le_maxLen w _ c e h63
 have hx:Ext w (w.drew.alloc (.cells (fl.toArray++Builtin.zeroCells (ofCells te.ti te.zero).cells k++Builtin.zeroCells (ofCells te.ti te.zero).cells (grownCap w (j+k) c e-(j+k))) e)):=Ext.trans (Ext.drew w) (Ext.alloc w.drew _)
 have hnew:=heap_alloc_new w.drew (.cells (fl.toArray++Builtin.zeroCells (ofCells te.ti te.zero).cells k++Builtin.zeroCells (ofCells te.ti te.zero).cells (grownCap w (j+k) c e-(j+k))) e (0,0))
 refine ⟨_,_,hr,hx,by simp,hge',.inr ⟨w.heap.size,_,fl++rowZero te.zero k,rfl,?_,hcm,⟨Nat.le_refl _,rfl⟩,hnew,?_,?_,?_⟩⟩
 ·rw [List.length_append,lp,List.length_replicate];exact hge'
 ·simp only [Array.size_append,List.size_toArray,size_zeroCells,hzc,hzl,hfll,←Nat.add_mul]
  congr 1
  omega
 ·have e1:(xs.take j++List.replicate k z0).length=j+k:=by rw [List.length_append,lp,List.length_replicate]
  rw [e1,hzc]
  simp only [Array.toList_append,List.append_assoc]
  rw [zeros_eq,←List.append_assoc]
  exact List.take_left' (by rw [List.length_append,hfll,rowZero_len,hzl,Nat.add_mul])
 ·have hx1:=hch.mono (ok':=off1 oi w.heap.size) fun b hb ho=>⟨ho,by omega⟩
  exact (hx1.append (Ch.zeros (hz _ _) k)).upd fun b hb _=>hx.get hb
end
section
variable {P:Program} {N:Nat} {Q:Exit→Act→World→Prop} {E:Env} {w:World} {ops:List Oper} {tab:Tab} {α:Type} {d:Kd α}
theorem RW.copyPut {i dd:Nat} {o:Oper} {r:OT} {T e:TypeId} {t te:Ti} {x y:Operand} {ok oi oky:Fp} {A:Option Addr} {c j cB n:Nat} {xs ys:List α} {ad:Addr} {us:List Value} (hT:TabOk P tab) (hO:Ow d e w.heap ok oi A c xs) (hj:j<xs.length) (hl:j+ys.length≤xs.length) (hys:Ch d w.heap oky us ys) (hB:At w.heap ad us)
 (hap:∀b,b<w.heap.size→oky b (Go.H.ty w.heap b)→ownS A c b none→False) (hn:Nx ops N E i o dd) (hop:o.op=.call ⟨.builtin .copy,#[x,y],#[T,T]⟩) (hg:tab.get T=some t) (hti:t.ti=.slice e) (hge:tab.get e=some te) (hd:d.sz=te.size)
 (hx:ev E x=some (.slice (if c=j then A else A.map (·.add (j*te.size))) (xs.length-j) (c-j))) (hy:ev E y=some (.slice (some ad) n cB)) (hlen:n=ys.length)
 (h:∀w' m,Upd (ownS A c) w w'→Ow d e w'.heap ok (orS oi oky) A c (xs.take j++ys++xs.drop (j+ys.length))→RW P N ops Q r ((dd,m)::E) w'):RW P N ops Q (.one i .M r) E w:=by
 subst hlen
 obtain ⟨w',m,hr,hu,ho⟩:=Ow.put (P:=P) (ty:=o.type) (cB:=cB) hT hO hj hl hys hB hap hg hti hge hd
 refine RW.stepM hn (fun ρ hρ=>?_) (h w' (goInt m) hu ho)
 obtain ⟨cs,hcs⟩:=run_builtin2 (b:=.copy) hρ hop hx hy
 rw [hcs]
 unfold builtin
 simp only [Sem.run_bind,hr,Result.andThen_ok]
 rfl
theorem RW.copyShift {i dd:Nat} {o:Oper} {r:OT} {T e:TypeId} {t te:Ti} {x y:Operand} {ok oi:Fp} {A:Option Addr} {c j:Nat} {xs:List α} (hT:TabOk P tab) (hO:Ow d e w.heap ok oi A c xs) (hj:j<xs.length) (hl:xs.length+1≤c)
 (hn:Nx ops N E i o dd) (hop:o.op=.call ⟨.builtin .copy,#[x,y],#[T,T]⟩) (hg:tab.get T=some t) (hti:t.ti=.slice e) (hge:tab.get e=some te) (hd:d.sz=te.size)
 (hx:ev E x=some (.slice (if c=j+1 then A else A.map (·.add ((j+1)*te.size))) (xs.length+1-(j+1)) (c-(j+1)))) (hy:ev E y=some (.slice (if c=j then A else A.map (·.add (j*te.size))) (xs.length+1-j) (c-j)))
 (h:∀w' m,Upd (ownS A c) w w'→Ow d e w'.heap ok oi A c (xs.take (j+1)++xs.drop j)→RW P N ops Q r ((dd,m)::E) w'):RW P N ops Q (.one i .M r) E w:=by
 obtain ⟨w',m,hr,hu,ho⟩:=Ow.shift (P:=P) (ty:=o.type) hT hO hj hl hg hti hge hd
 refine RW.stepM hn (fun ρ hρ=>?_) (h w' (goInt m) hu ho)
 obtain ⟨cs,hcs⟩:=run_builtin2 (b:=.copy) hρ hop hx hy
 rw [hcs]
 unfold builtin
 simp only [Sem.run_bind,hr,Result.andThen_ok]
 rfl
theorem RW.appendZ {i dd:Nat} {o:Oper} {r:OT} {T Tn e:TypeId} {t te:Ti} {kq kn:IntKind} {x y:Operand} {ok oi:Fp} {A:Option Addr} {c j k:Nat} {xs:List α} {z0:α} (hT:TabOk P tab) (hO:Ow d e w.heap ok oi A c xs) (hj:j≤xs.length) (hk:0<k) (hroom:c<j+k) (h63:j+k≤maxLen) (hby:(j+k)*te.bytes≤140737488355328)
 (hn:Nx ops N E i o dd) (hop:o.op=.call ⟨.builtin .append,#[x,y],#[T,Tn]⟩) (hg:tab.get T=some t) (hti:t.ti=.slice e) (hge:tab.get e=some te) (htn:P.underlying Tn=some (.int kn)) (hd:d.sz=te.size) (hz:∀h ok',d.rep h ok' te.zero z0)
 (hx:ev E x=some (.slice A j c)) {q:Int} (hy:ev E y=some (.int kq q)) (hq:q=(k:Int))
 (h:∀c' w',Ext w w'→w.heap.size<w'.heap.size→j+k≤c'→Ow d e w'.heap (newS w.heap.size e) oi (some ⟨w.heap.size,0,none⟩) c' (xs.take j++List.replicate k z0)→RW P N ops Q r ((dd,.slice (some ⟨w.heap.size,0,none⟩) (xs.take j++List.replicate k z0).length c')::E) w'):RW P N ops Q (.one i .M r) E w:=by
 subst hq
 obtain ⟨c',w',hr,hu,hlt,hc',ho⟩:=Ow.zeros (P:=P) (kq:=kq) (ty:=o.type) hT hO hj hk hroom h63 hby hg hti hge htn hd hz
 have e1:(xs.take j++List.replicate k z0).length=j+k:=by rw [List.length_append,List.length_take,List.length_replicate];omega
 refine RW.stepM hn (fun ρ hρ=>?_) (h c' w' hu hlt hc' ho)
 obtain ⟨cs,hcs⟩:=run_builtin2 (b:=.append) hρ hop hx hy
 rw [hcs,e1]
 unfold builtin
 simp only [Sem.run_bind,hr,Result.andThen_ok]
 rfl
theorem RW.capS {i dd:Nat} {o:Oper} {r:OT} {T e:TypeId} {t:Ti} {x:Operand} {A:Option Addr} {n c:Nat} (hT:TabOk P tab) (hn:Nx ops N E i o dd) (hop:o.op=.call ⟨.builtin .cap,#[x],#[T]⟩) (hg:tab.get T=some t) (hti:t.ti=.slice e) (hx:ev E x=some (.slice A n c))
 (h:RW P N ops Q r ((dd,.int .i64 (c:Int))::E) w):RW P N ops Q (.one i .W r) E w:=
 RW.stepW hn (fun ρ hρ w'=>by
  obtain ⟨d,hd,ho⟩:=(hT.get hg).desc
  rw [hti] at ho
  cases ho
  have:∃cs,execOp ρ o=builtin .cap #[T] o.type cs #[.slice A n c]:=by
   refine ⟨#[x].map (fun|.const _=>true|_=>false),?_⟩
   unfold execOp
   simp only [hop,resolve,List.map_toArray,List.map_cons,List.map_nil,hρ x _ hx]
   rfl
  obtain ⟨cs,hcs⟩:=this
  rw [hcs]
  unfold builtin
  simp [Builtin.cap_,underlying,hd]
  rfl) h
theorem RW.callExt {i dd:Nat} {o:Oper} {r:OT} {as:Array Operand} {ts:Array TypeId} {f:FuncId} {args:List Value} {v:Value} (hn:Nx ops N E i o dd) (hop:o.op=.call ⟨.value (.func f),as,ts⟩) (ha:evs E as.toList=some args) (hc:(callFunc f args.toArray).run P w=.ok (.value v) w)
 (h:RW P N ops Q r ((dd,v)::E) w):RW P N ops Q (.one i .M r) E w:=
 RW.stepM hn (fun ρ hρ=>by
  have e1:as.map ρ=args.toArray:=by rw [←hρ.map ha,←List.map_toArray,Array.toArray_toList]
  unfold execOp
  simp only [hop,resolve,e1,hρ (.func f) (.func (.func f) #[] #[]) rfl,Deferred.ofValue,Sem.run_bind,Sem.run_pure,Result.andThen_ok,invoke]
  simpa using hc) h
theorem RW.sliceLo {i dd:Nat} {o:Oper} {r:OT} {T e:TypeId} {x y:Operand} {t te:Ti} {A:Option Addr} {n c q:Nat} {k:IntKind} {j:Int} (hT:TabOk P tab) (hj:j=(q:Int)) (h1:q≤n) (hc:n≤c) (hn:Nx ops N E i o dd) (hop:o.op=.slice T x (some y) none none) (hg:tab.get T=some t) (hti:t.ti=.slice e) (hge:tab.get e=some te) (hx:ev E x=some (.slice A n c)) (hy:ev E y=some (.int k j))
 (h:RW P N ops Q r ((dd,.slice (if c=q then A else A.map (·.add (q*te.size))) (n-q) (c-q))::E) w):RW P N ops Q (.one i .W r) E w:=by
 subst hj
 exact RW.stepW hn (fun ρ hρ w'=>by
  obtain ⟨d,hd,ho⟩:=(hT.get hg).desc
  rw [hti] at ho
  cases ho
  unfold execOp
  simp [hop,hρ x _ hx,hρ y _ hy,Instr.sliceAt,Instr.slice,Instr.sliceBounds,Instr.sliceBound,asIntOf,underlying,hd,h1,(hT.get hge).run_sizeOf]) h
theorem add_zero0 (a:Addr):a.add 0=a:=by unfold Addr.add;split <;>simp_all
theorem RW.sliceHi {i dd:Nat} {o:Oper} {r:OT} {T e:TypeId} {x y:Operand} {t te:Ti} {A:Option Addr} {n c q:Nat} {k:IntKind} {j:Int} (hT:TabOk P tab) (hj:j=(q:Int)) (h1:q≤c) (hn:Nx ops N E i o dd) (hop:o.op=.slice T x none (some y) none) (hg:tab.get T=some t) (hti:t.ti=.slice e) (hge:tab.get e=some te) (hx:ev E x=some (.slice A n c)) (hy:ev E y=some (.int k j))
 (h:RW P N ops Q r ((dd,.slice A q c)::E) w):RW P N ops Q (.one i .W r) E w:=by
 subst hj
 exact RW.stepW hn (fun ρ hρ w'=>by
  obtain ⟨d,hd,ho⟩:=(hT.get hg).desc
  rw [hti] at ho
  cases ho
  unfold execOp
  simp [hop,hρ x _ hx,hρ y _ hy,Instr.sliceAt,Instr.slice,Instr.sliceBounds,Instr.sliceBound,asIntOf,underlying,hd,h1,(hT.get hge).run_sizeOf]
  intro _
  cases A with
  |none=>rfl
  |some a=>simp [add_zero0]) h
end
end Go.H
namespace Go.H
open Go.RowKit
theorem nq {a b:Nat} (h:Nat.beq a b=false):a≠b:=fun e=>by rw [e,Nat.beq_refl] at h;cases h
def tn (T:TypeId):List Seg3→Bool
 |[]=>true
 |(_,_,some t)::r=>(match Nat.beq t T with|true=>false|false=>tn T r)
 |(_,_,none)::_=>false
theorem tn_cons {T a:Nat} {lo:Nat} {hi:Option Nat} {r:List Seg3} (h:tn T ((lo,hi,some a)::r)=true):a≠T∧tn T r=true:=by
 unfold tn at h
 split at h
 ·cases h
 ·rename_i e;exact ⟨nq e,h⟩
theorem notIn_tn {n T:Nat}:∀{l:List Seg3},tn T l=true→notIn n T l
 |[],_=>trivial
 |(_,_,some a)::r,h=>⟨.inl (tn_cons h).1,notIn_tn (tn_cons h).2⟩
theorem oneD_tn {T a lo:Nat} {hi:Option Nat} (h:a≠T):∀{l:List Seg3},oneD T (lo,hi,some a) l
 |[]=>trivial
 |_::r=>⟨.inl h,oneD_tn h⟩
theorem allD_tn {T:Nat} {l':List Seg3}:∀{l:List Seg3},tn T l=true→allD T l l'
 |[],_=>trivial
 |(_,_,some a)::r,h=>⟨oneD_tn (tn_cons h).1,allD_tn (tn_cons h).2⟩
section
variable {α:Type} {d:Kd α} {A:Option Addr} {c:Nat} {xs:List α} {T:TypeId} {l l' li li':List Seg3} {w w':World}
theorem Sl.tL (k:Sl d w.heap (okL l) A xs) (hx:Upd (rowS (okL l') T) w w') (hd:tn T l=true:=by exact rfl):Sl d w'.heap (okL l) A xs:=k.turnL hx (allD_tn hd)
theorem Ow.tL {T2:TypeId} (k:Ow d T2 w.heap (okL l) (okL li) A c xs) (hx:Upd (rowS (okL l') T) w w') (hd:tn T l=true:=by exact rfl) (hi:tn T li=true:=by exact rfl):Ow d T2 w'.heap (okL l) (okL li) A c xs:=k.turnL hx (allD_tn hd) (allD_tn hi)
theorem Sl.tB {n:Nat} {cs:List Value} (k:Sl d w.heap (okL l) A xs) (hx:Upd (fun j _=>j=n) w w') (hb:Box w.heap n T cs) (hn:tn T l=true:=by exact rfl):Sl d w'.heap (okL l) A xs:=k.turnB hx hb (notIn_tn hn)
theorem Ow.tB {T2:TypeId} {n:Nat} {cs:List Value} (k:Ow d T2 w.heap (okL l) (okL li) A c xs) (hx:Upd (fun j _=>j=n) w w') (hb:Box w.heap n T cs) (hn:tn T l=true:=by exact rfl) (hi:tn T li=true:=by exact rfl):Ow d T2 w'.heap (okL l) (okL li) A c xs:=k.turnB hx hb (notIn_tn hn) (notIn_tn hi)
theorem Box.tB {n m:Nat} {T2:TypeId} {cs:List Value} (k:Box w.heap m T2 cs) (hx:Upd (fun j _=>j=n) w w') (hne:m≠n:=by omega):Box w'.heap m T2 cs:=k.turnB hx hne
theorem Box.tL {m:Nat} {T2:TypeId} {cs:List Value} (k:Box w.heap m T2 cs) (hx:Upd (rowS (okL l') T) w w') (hd:Nat.beq T2 T=false:=by exact rfl):Box w'.heap m T2 cs:=k.turnL hx (.inl (nq hd))
end
theorem MapB.tB {β:Type} {enc:β→Value} {m:List (Int×β)} {b n:Nat} {w w':World} (k:MapB w.heap b enc m) (hx:Upd (fun j _=>j=n) w w') (hne:b≠n:=by omega):MapB w'.heap b enc m:=k.turnB hx hne
theorem Upd.tr {a b c:World} (h:Upd none' a b) (k:Ext b c):Ext a c:=Ext.trans h k
theorem Upd.tB {n:Nat} {a b c:World} (h:Upd none' a b) (k:Upd (fun j _=>j=n) b c) (hn:a.heap.size≤n:=by omega):Ext a c:=Ext.turnB h k hn
theorem Sat.sb {N:Nat} {E E':Env} {a:Act} (h:Sat N E a) (hs:Sub E' E:=by repeat' constructor):Sat N E' a:=h.sub hs
theorem Sl.sb {α:Type} {d:Kd α} {A:Option Addr} {xs:List α} {l l':List Seg3} {w:World} (k:Sl d w.heap (okL l) A xs) (h:subL l l':=by first|exact trivial|exact ⟨.inl ⟨by omega,trivial,rfl⟩,trivial⟩|exact ⟨.inl ⟨by omega,by omega,rfl⟩,trivial⟩):Sl d w.heap (okL l') A xs:=k.sub h
theorem Ow.sb {α:Type} {d:Kd α} {T:TypeId} {A:Option Addr} {c:Nat} {xs:List α} {l l' li li':List Seg3} {w:World} (k:Ow d T w.heap (okL l) (okL li) A c xs) (h:subL l l':=by first|exact trivial|exact ⟨.inl ⟨by omega,trivial,rfl⟩,trivial⟩|exact ⟨.inl ⟨by omega,by omega,rfl⟩,trivial⟩) (hi:subL li li':=by first|exact trivial|exact ⟨.inl ⟨by omega,trivial,rfl⟩,trivial⟩|exact ⟨.inl ⟨by omega,by omega,rfl⟩,trivial⟩):Ow d T w.heap (okL l') (okL li') A c xs:=k.sub h hi
abbrev iv (x:Int):Value:=.int .i64 x
section
variable {P:Program} {N:Nat} {Q:Exit→Act→World→Prop} {E:Env} {w:World} {ops:List Oper} {tab:Tab}
theorem CW.lw {id:Nat} (n:Nat) (hlen:Nat.beq n ops.length=true) (h:RW P N ops Q (lexOrd (List.replicate n .W) 0) E w):CW P N (.region id ops.toArray false) Q E w:=CW.lex _ (by rw [List.length_replicate];exact hlen) h
theorem RW.ld {i d:Nat} {o:Oper} {r:OT} {T:TypeId} {x:Operand} {t:Ti} {p:Addr} (hT:TabOk P tab) (cs:List Value) (hA:At w.heap p cs) (h:RW P N ops Q r ((d,(ofCells t.ti cs))::E) w)
 (hn:Nx ops N E i o d:=by exact ⟨rfl,rfl,rfl,rfl⟩) (hop:o.op=.load T x:=by exact rfl) (hg:tab.get T=some t:=by exact rfl) (hx:ev E x=some (.pointer (some p)):=by exact rfl) (hl:cs.length=t.size:=by exact rfl):RW P N ops Q (.one i .L r) E w:=
 RW.load hT cs hA hn hop hg hx hl h
theorem RW.lb {i d b:Nat} {o:Oper} {r:OT} {T T':TypeId} {x:Operand} {t:Ti} {bs:List Value} (hT:TabOk P tab) (cs:List Value) (hB:Box w.heap b T' bs) (off:Nat) (h:RW P N ops Q r ((d,(ofCells t.ti cs))::E) w)
 (hc:(bs.drop off).take cs.length=cs:=by exact rfl) (hn:Nx ops N E i o d:=by exact ⟨rfl,rfl,rfl,rfl⟩) (hop:o.op=.load T x:=by exact rfl) (hg:tab.get T=some t:=by exact rfl) (hx:ev E x=some (.pointer (some ⟨b,off,none⟩)):=by exact rfl) (hl:cs.length=t.size:=by exact rfl):RW P N ops Q (.one i .L r) E w:=
 RW.load hT cs ((hB.at off).take _ hc) hn hop hg hx hl h
theorem RW.ix {i d:Nat} {o:Oper} {r:OT} {T e:TypeId} {x ix:Operand} {t te:Ti} {ad:Addr} {n c:Nat} {k:IntKind} {j:Int} {A:Option Addr} (hT:TabOk P tab) (hj:0≤j∧j<n) (hA:A=some ad) (h:RW P N ops Q r ((d,(.pointer (some (ad.add (j.toNat*te.size)))))::E) w)
 (hn:Nx ops N E i o d:=by exact ⟨rfl,rfl,rfl,rfl⟩) (hop:o.op=.indexAddr T x ix:=by exact rfl) (hg:tab.get T=some t:=by exact rfl) (hti:t.ti=.slice e:=by exact rfl) (hge:tab.get e=some te:=by exact rfl) (hx:ev E x=some (.slice A n c):=by exact rfl) (hi:ev E ix=some (.int k j):=by exact rfl):RW P N ops Q (.one i .W r) E w:=
 RW.index hT hj.1 hj.2 hA hn hop hg hti hge hx hi h
theorem RW.sb {i:Nat} {o:Oper} {r:OT} {T0 T:TypeId} {x y:Operand} {t0:Ti} {b off:Nat} {cs:List Value} {v:Value} (hT:TabOk P tab) (hb:Box w.heap b T cs) (us:List Value) (h:∀w',Upd (fun j _=>j=b) w w'→Box w'.heap b T (lay cs off us)→RW P N ops Q r E w')
 (hn:Nx0 ops E i o:=by exact ⟨rfl,rfl,rfl⟩) (hop:o.op=.store T0 x y:=by exact rfl) (hg:tab.get T0=some t0:=by exact rfl) (hx:ev E x=some (.pointer (some ⟨b,off,none⟩)):=by exact rfl) (hy:ev E y=some v:=by exact rfl) (hu:v.cells=us.toArray:=by exact rfl) (hl:us.length=t0.size:=by exact rfl) (h1:us.all Value.oneCell'=true:=by exact rfl) (hfit:Nat.ble (off+us.length) cs.length=true:=by exact rfl):RW P N ops Q (.one i .M r) E w:=
 RW.storeBox hT hb us hn hop hg hx hy hu hl h1 hfit h
theorem RW.cl {i d:Nat} {o:Oper} {r:OT} {c:Cls} {as:Array Operand} {ts:Array TypeId} {f:FuncId} {args:List Value} {R:Ending→World→Prop} (he:Enters P f) (hR:Calls P f args.toArray w R) (h:∀e w',R e w'→∃v,e=.returned v∧Ext w w'∧RW P N ops Q r ((d,v)::E) w')
 (hc:c=.X∨c=.M:=by exact .inl rfl) (hn:Nx ops N E i o d:=by exact ⟨rfl,rfl,rfl,rfl⟩) (hop:o.op=.call ⟨.value (.func f),as,ts⟩:=by exact rfl) (ha:evs E as.toList=some args:=by exact rfl):RW P N ops Q (.one i c r) E w:=
 RW.callF hc he hn hop ha hR h
end
end Go.H
namespace Go.H
open Go.RowKit
theorem ifd {p:Prop} {i:Decidable p}:decide p=true↔p:=decide_eq_true_iff
theorem ifn {b:Bool}:(!b)=true↔¬b=true:=by cases b <;>simp
theorem ifnd {p:Prop} {i:Decidable p}:(!decide p)=true↔¬p:=by rw [ifn,decide_eq_true_iff]
theorem ife {a b:Int}:(a==b)=true↔a=b:=beq_iff_eq
theorem ifne {a b:Int}:(a !=b)=true↔¬a=b:=by rw [bne_iff_ne]
theorem ite_or {α:Type} {p:Prop} {i:Decidable p} {a b:Option α} {r:α} (H:(if p then a else b)=some r):(p∧a=some r)∨(¬p∧b=some r):=by
 by_cases c:p
 ·rw [if_pos c] at H;exact .inl ⟨c,H⟩
 ·rw [if_neg c] at H;exact .inr ⟨c,H⟩
section
variable {P:Program} {N:Nat} {Q:Exit→Act→World→Prop} {E:Env} {w:World} {ops:List Oper} {tab:Tab} {α:Type} {r:α} {ord:OT}
theorem RW.i {p:Prop} {di:Decidable p} {A B:Option α} {b:Bool} (t:Nat) (H:(if p then A else B)=some r) (h1:p→A=some r→RW P N ops Q ord ((t,.bool true)::E) w) (h2:¬p→B=some r→RW P N ops Q ord ((t,.bool false)::E) w)
 (ht:E.get t=some (.bool b):=by exact rfl) (hb:b=true↔p:=by first|exact ifd|exact Iff.rfl|exact ife):RW P N ops Q ord E w:=by
 rcases ite_or H with ⟨c,H⟩|⟨c,H⟩
 ·exact RW.bool t (hb.2 c) ht (h1 c H)
 ·exact RW.bool t (bool_f fun z=>c (hb.1 z)) ht (h2 c H)
theorem RW.n {p:Prop} {di:Decidable p} {A B:Option α} {b:Bool} (t:Nat) (H:(if p then A else B)=some r) (h1:p→A=some r→RW P N ops Q ord ((t,.bool false)::E) w) (h2:¬p→B=some r→RW P N ops Q ord ((t,.bool true)::E) w)
 (ht:E.get t=some (.bool b):=by exact rfl) (hb:b=true↔¬p:=by first|exact ifnd|exact ifn|exact ifne):RW P N ops Q ord E w:=by
 rcases ite_or H with ⟨c,H⟩|⟨c,H⟩
 ·exact RW.bool t (bool_f fun z=>hb.1 z c) ht (h1 c H)
 ·exact RW.bool t (hb.2 c) ht (h2 c H)
theorem CW.i {p:Prop} {di:Decidable p} {A B:Option α} {b:Bool} {c:Operand} {x y:Code} (H:(if p then A else B)=some r) (h1:p→A=some r→CW P N x Q E w) (h2:¬p→B=some r→CW P N y Q E w)
 (hc:ev E c=some (.bool b):=by exact rfl) (hb:b=true↔p:=by first|exact ifd|exact Iff.rfl|exact ife):CW P N (.cond c x y) Q E w:=by
 rcases ite_or H with ⟨c,H⟩|⟨c,H⟩
 ·exact CW.cond_t hc (hb.2 c) (h1 c H)
 ·exact CW.cond_f hc (bool_f fun z=>c (hb.1 z)) (h2 c H)
theorem CW.n {p:Prop} {di:Decidable p} {A B:Option α} {b:Bool} {c:Operand} {x y:Code} (H:(if p then A else B)=some r) (h1:p→A=some r→CW P N y Q E w) (h2:¬p→B=some r→CW P N x Q E w)
 (hc:ev E c=some (.bool b):=by exact rfl) (hb:b=true↔¬p:=by first|exact ifnd|exact ifn|exact ifne):CW P N (.cond c x y) Q E w:=by
 rcases ite_or H with ⟨c,H⟩|⟨c,H⟩
 ·exact CW.cond_f hc (bool_f fun z=>hb.1 z c) (h1 c H)
 ·exact CW.cond_t hc (hb.2 c) (h2 c H)
theorem RW.cp {β:Type} {f':Option β} {K:β→Option α} {enc:β→Value} {i d:Nat} {o:Oper} {rs:OT} {c:Cls} {as:Array Operand} {ts:Array TypeId} {f:FuncId} {args:List Value} (H:f'.bind K=some r) (he:Enters P f)
 (hR:∀y,f'=some y→Calls P f args.toArray w (fun e w'=>e=.returned (enc y)∧Ext w w')) (h:∀y w',Ext w w'→w.heap.size≤w'.heap.size→K y=some r→RW P N ops Q rs ((d,enc y)::E) w')
 (hc:c=.X∨c=.M:=by exact .inl rfl) (hn:Nx ops N E i o d:=by exact ⟨rfl,rfl,rfl,rfl⟩) (hop:o.op=.call ⟨.value (.func f),as,ts⟩:=by exact rfl) (ha:evs E as.toList=some args:=by exact rfl):RW P N ops Q (.one i c rs) E w:=by
 obtain ⟨y,hy,H⟩:=bind_some H
 exact RW.cl he (hR y hy) (fun e w' hw=>⟨_,hw.1,hw.2,h y w' hw.2 hw.2.size H⟩) hc hn hop ha
theorem RW.bx {i d:Nat} {o:Oper} {rs:OT} {T:TypeId} {x:Operand} {cs:List Value} {u:Value} {c:Cls}
 (h:∀b w',Ext w w'→w.heap.size≤w'.heap.size→w.heap.size≤b→b<w'.heap.size→Box w'.heap b T cs→RW P N ops Q rs ((d,(.pointer (some ⟨b,0,none⟩)))::E) w')
 (hc:c=.X∨c=.M:=by exact .inl rfl) (hn:Nx ops N E i o d:=by exact ⟨rfl,rfl,rfl,rfl⟩) (hop:o.op=.box T x:=by exact rfl) (hx:ev E x=some u:=by exact rfl) (hu:u.cells=cs.toArray:=by exact rfl):RW P N ops Q (.one i c rs) E w:=
 RW.box hc hn hop hx hu fun b w' hx hb k=>h b w' hx hx.size hb k.lt k
theorem RW.al {i d:Nat} {o:Oper} {rs:OT} {T:TypeId} {t:Ti} {c:Cls} (hT:TabOk P tab)
 (h:∀b w',Ext w w'→w.heap.size≤w'.heap.size→w.heap.size≤b→b<w'.heap.size→Box w'.heap b T t.zero→RW P N ops Q rs ((d,(.pointer (some ⟨b,0,none⟩)))::E) w')
 (hc:c=.X∨c=.M:=by exact .inl rfl) (hn:Nx ops N E i o d:=by exact ⟨rfl,rfl,rfl,rfl⟩) (hop:o.op=.alloc T:=by exact rfl) (hg:tab.get T=some t:=by exact rfl):RW P N ops Q (.one i c rs) E w:=
 RW.alloc hT hc hn hop hg fun b w' hx hb k=>h b w' hx hx.size hb k.lt k
theorem lay_all:∀(us cs ps:List Value),us.length=cs.length→lay (ps++cs) ps.length us=ps++us
 |[],[],ps,_=>rfl
 |u::us,c::cs,ps,h=>by
  have h':us.length=cs.length:=by simpa using h
  rw [lay,show (ps++c::cs).set ps.length u=(ps++[u])++cs by rw [List.set_append_right _ _ (Nat.le_refl _)];simp]
  have:=lay_all us cs (ps++[u]) h'
  rw [List.length_append] at this
  rw [show ps.length+1=ps.length+[u].length from rfl,this]
  simp
theorem RW.sf {i:Nat} {o:Oper} {rs:OT} {T0 T:TypeId} {x y:Operand} {t0:Ti} {b:Nat} {cs us:List Value} {v:Value} (hT:TabOk P tab) (hb:Box w.heap b T cs) (h:∀w',Upd (fun j _=>j=b) w w'→w.heap.size≤w'.heap.size→Box w'.heap b T us→RW P N ops Q rs E w')
 (hn:Nx0 ops E i o:=by exact ⟨rfl,rfl,rfl⟩) (hop:o.op=.store T0 x y:=by exact rfl) (hg:tab.get T0=some t0:=by exact rfl) (hx:ev E x=some (.pointer (some ⟨b,0,none⟩)):=by exact rfl) (hy:ev E y=some v:=by exact rfl) (hu:v.cells=us.toArray:=by exact rfl) (hl:us.length=t0.size:=by exact rfl) (h1:us.all Value.oneCell'=true:=by exact rfl) (hfit:us.length=cs.length:=by exact rfl):RW P N ops Q (.one i .M rs) E w:=
 RW.storeBox hT hb us hn hop hg hx hy hu hl h1 (by rw [Nat.zero_add,Nat.ble_eq];omega) fun w' hx k=>h w' hx hx.size (by have:=lay_all us cs [] hfit;simp only [List.nil_append,List.length_nil] at this;rw [this] at k;exact k)
theorem RW.sp {i:Nat} {o:Oper} {rs:OT} {T0 T:TypeId} {x y:Operand} {t0:Ti} {b off:Nat} {cs us:List Value} {v:Value} (hT:TabOk P tab) (hb:Box w.heap b T cs) (cs':List Value) (h:∀w',Upd (fun j _=>j=b) w w'→w.heap.size≤w'.heap.size→Box w'.heap b T cs'→RW P N ops Q rs E w')
 (hn:Nx0 ops E i o:=by exact ⟨rfl,rfl,rfl⟩) (hop:o.op=.store T0 x y:=by exact rfl) (hg:tab.get T0=some t0:=by exact rfl) (hx:ev E x=some (.pointer (some ⟨b,off,none⟩)):=by exact rfl) (hy:ev E y=some v:=by exact rfl) (hu:v.cells=us.toArray:=by exact rfl) (hl:us.length=t0.size:=by exact rfl) (h1:us.all Value.oneCell'=true:=by exact rfl) (hfit:Nat.ble (off+us.length) cs.length=true:=by exact rfl) (hc:lay cs off us=cs':=by exact rfl):RW P N ops Q (.one i .M rs) E w:=
 RW.storeBox hT hb us hn hop hg hx hy hu hl h1 hfit fun w' hx k=>h w' hx hx.size (by rw [hc] at k;exact k)
theorem RW.lw {i d b:Nat} {o:Oper} {rs:OT} {T T':TypeId} {x:Operand} {t:Ti} {bs:List Value} (hT:TabOk P tab) (hB:Box w.heap b T' bs) (h:RW P N ops Q rs ((d,(ofCells t.ti bs))::E) w)
 (hn:Nx ops N E i o d:=by exact ⟨rfl,rfl,rfl,rfl⟩) (hop:o.op=.load T x:=by exact rfl) (hg:tab.get T=some t:=by exact rfl) (hx:ev E x=some (.pointer (some ⟨b,0,none⟩)):=by exact rfl) (hl:bs.length=t.size:=by exact rfl):RW P N ops Q (.one i .L rs) E w:=
 RW.load hT bs (hB.at 0) hn hop hg hx hl h
theorem NW.r1 {fn:Func} {R:Ending→World→Prop} {r1:ResultVar} {v1:Value} (h:R (.returned v1) w) (hr:fn.results=#[r1]:=by exact rfl) (h1:resOne P E w.heap r1 v1:=by rfl):NW N .ret (bodyPost P fn R) E w:=NW.ret1 hr h1 h
theorem cst {f:FuncId} {fn:Func} {c:Code} {R:Ending→World→Prop} {args:List Value} (hf:P.funcs[f]?=some fn) (n:Nat) (h:CW P n c (bodyPost P fn R) (argEnv args 0) w) (hb:fn.body=some c:=by exact rfl) (hn:fn.ntmps=n:=by exact rfl) (hle:Nat.ble args.length n=true:=by exact rfl):Calls P f args.toArray w R:=calls_start hf hb n hn args hle h
end
end Go.H
