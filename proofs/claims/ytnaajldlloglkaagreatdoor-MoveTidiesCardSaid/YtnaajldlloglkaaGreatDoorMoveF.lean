/- Plain facts: devices that may be; a device's place. -/
import Derived.Test.YtnaajldlloglkaaGreatDoorMoveS
import Derived.Test.YtnaajldlloglkaaGreatDoorL2
set_option linter.unusedVariables false
set_option linter.unusedSimpArgs false
namespace Go.Proofs.YtnaajldlloglkaaGreatDoor.W
open Go.H
def Says (o:Option Bool) (P:Prop):Prop:=(P→o=some true)∧(¬P→o=some false)
theorem Says.both {o u:Option Bool} {P:Prop} (h:Says o P) (g:Says u P):∃b:Bool,o=some b∧u=some b∧(b=true↔P):=by
 by_cases c:P
 ·exact ⟨true,h.1 c,g.1 c,by simp [c]⟩
 ·exact ⟨false,h.2 c,g.2 c,by simp [c]⟩
theorem Says.iff {o:Option Bool} {P Q:Prop} (h:Says o P) (e:P↔Q):Says o Q:=⟨fun q=>h.1 (e.2 q),fun q=>h.2 fun p=>q (e.1 p)⟩
theorem says_dec {P:Prop} [Decidable P]:Says (some (decide P)) P:=⟨fun h=>by rw [decide_eq_true h],fun h=>by rw [decide_eq_false h]⟩
theorem says_bool {b:Bool}:Says (some b) (b=true):=⟨fun h=>by rw [h],fun h=>by cases b <;>simp_all⟩
theorem loop_says {R:Type} {f:Nat→Int→Option R} {len:Nat} {P:Nat→Prop} {E F:Option R}
 (h1:∀n (i:Nat),i<len→P i→f (n+1) (i:Int)=f n ((i+1:Nat):Int))
 (h2:∀n (i:Nat),i<len→¬P i→f (n+1) (i:Int)=F)
 (h3:∀n,f (n+1) (len:Int)=E):∀(n i:Nat),i≤len→len-i<n→
 ((∀j,i≤j→j<len→P j)→f n (i:Int)=E)∧(¬(∀j,i≤j→j<len→P j)→f n (i:Int)=F)
 |0,i,_,h=>by omega
 |n+1,i,hi,hn=>by
  by_cases c:i<len
  ·by_cases p:P i
   ·have:=loop_says h1 h2 h3 n (i+1) (by omega) (by omega)
    rw [h1 n i c p]
    refine ⟨fun a=>this.1 fun j hj hl=>a j (by omega) hl,fun a=>this.2 fun b=>a fun j hj hl=>?_⟩
    rcases Nat.lt_or_ge i j with d|d
    ·exact b j (by omega) hl
    ·have:j=i:=by omega
     rw [this];exact p
   ·rw [h2 n i c p]
    exact ⟨fun a=>absurd (a i (by omega) c) p,fun _=>rfl⟩
  ·have:i=len:=by omega
   subst this
   rw [h3 n]
   exact ⟨fun _=>rfl,fun a=>absurd (fun j hj hl=>by omega) a⟩
theorem ok_len {lo:Int}:∀{l:List Seg},lo≤66→S.okFrom lo l=true→lo+2*(l.length:Int)≤66
 |[],h,_=>by simpa using h
 |s::r,h,g=>by
  have ⟨a,b,c,d⟩:=S.okFrom_cons.1 g
  have:=ok_len (by omega) d
  simp only [List.length_cons]
  omega
theorem ok_short {l:List Seg} (h:S.ok l=true):l.length≤33:=by
 have:=ok_len (by omega) h
 omega
theorem room_ok_eq {l:List Seg} {k:Nat} {n:Int} (hl:l.length≤1000) (hk:1000<k) (h0:0≤n) (h1:n≤64):Says (room_ok.f k l n) (S.ok l=true∧S.below l n=true):=by
 unfold room_ok.f
 rw [S.May_eq (by omega) (by omega)]
 simp only [Option.bind_some]
 by_cases c:S.ok l=true
 ·rw [if_pos c]
  obtain ⟨x,ex,hx⟩:=S.Make_set (k:=k) (by omega) (by omega) c
  obtain ⟨y,ey,hy⟩:=S.To_set h0 h1
  rw [ex,ey]
  simp only [Option.bind_some]
  refine Says.iff says_bool ?_
  rw [beq_iff_eq,(hx.andn hy).zero_iff]
  refine ⟨fun g=>⟨c,S.below_iff.2 fun i hi hm=>?_⟩,fun g i hi=>?_⟩
  ·have:=g i hi
   simp only [hm,Bool.true_and,Bool.not_eq_false',decide_eq_true_eq] at this
   exact this
  ·cases hm:S.mem l i
   ·rfl
   ·simp [S.below_iff.1 g.2 i hi hm]
 ·rw [if_neg c]
  exact ⟨fun g=>absurd g.1 c,fun _=>rfl⟩
structure DevOk (d:Device):Prop where
 id:1≤d.ID∧d.ID≤40
 size:1≤d.Size∧d.Size≤64
 free:S.ok d.Free=true∧S.below d.Free d.Size=true
 late:S.ok d.Late=true∧S.below d.Late d.Size=true
 dis:∀i,i<64→(S.mem d.Free i&&S.mem d.Late i)=false
theorem room_Device_says {d:Device} {k:Nat} (hf:d.Free.length≤1000) (hg:d.Late.length≤1000) (hk:1000<k):Says (room_Device.f k d) (DevOk d):=by
 unfold room_Device.f
 by_cases a1:1≤d.ID
 rw [if_pos a1]
 by_cases a2:d.ID≤40
 rw [if_pos a2]
 by_cases a3:1≤d.Size
 rw [if_pos a3]
 by_cases a4:d.Size≤64
 rw [if_pos a4]
 have q1:=room_ok_eq (k:=k) (n:=d.Size) hf hk (by omega) a4
 have q2:=room_ok_eq (k:=k) (n:=d.Size) hg hk (by omega) a4
 by_cases a5:S.ok d.Free=true∧S.below d.Free d.Size=true
 rw [q1.1 a5]
 simp only [Option.bind_some,if_true]
 by_cases a6:S.ok d.Late=true∧S.below d.Late d.Size=true
 rw [q2.1 a6]
 simp only [Option.bind_some,if_true]
 obtain ⟨x,ex,hx⟩:=S.Make_set (k:=k) (by omega) (by omega) a5.1
 obtain ⟨y,ey,hy⟩:=S.Make_set (k:=k) (by omega) (by omega) a6.1
 rw [ex,ey]
 simp only [Option.bind_some]
 refine Says.iff says_bool ?_
 rw [beq_iff_eq,(hx.and hy).zero_iff]
 exact ⟨fun g=>⟨⟨a1,a2⟩,⟨a3,a4⟩,a5,a6,g⟩,fun g=>g.dis⟩
 ·rw [q2.2 a6];exact ⟨fun g=>absurd g.late a6,fun _=>rfl⟩
 ·rw [q1.2 a5];exact ⟨fun g=>absurd g.free a5,fun _=>rfl⟩
 ·rw [if_neg a4];exact ⟨fun g=>absurd g.size.2 a4,fun _=>rfl⟩
 ·rw [if_neg a3];exact ⟨fun g=>absurd g.size.1 a3,fun _=>rfl⟩
 ·rw [if_neg a2];exact ⟨fun g=>absurd g.id.2 a2,fun _=>rfl⟩
 ·rw [if_neg a1];exact ⟨fun g=>absurd g.id.1 a1,fun _=>rfl⟩
theorem ref_Device_says {d:Device} {k:Nat} (hf:d.Free.length≤1000) (hg:d.Late.length≤1000) (hk:1000<k):Says (r7_Device.f k d) (DevOk d):=by
 unfold r7_Device.f
 rw [T.Between_eq,T.Between_eq,S.Segs_eq (by omega) (by omega),S.Segs_eq (by omega) (by omega)]
 simp only [Option.bind_some]
 by_cases a1:1≤d.ID∧d.ID≤40
 rw [if_pos (decide_eq_true a1)]
 by_cases a3:1≤d.Size∧d.Size≤64
 rw [if_pos (decide_eq_true a3)]
 by_cases a5:S.ok d.Free=true
 rw [if_pos a5]
 by_cases a6:S.ok d.Late=true
 rw [if_pos a6]
 have s1:=ok_short a5
 have s2:=ok_short a6
 rw [S.Ends_eq (by omega) a5,S.Ends_eq (by omega) a6]
 simp only [Option.bind_some]
 have e1:=S.ends_below (n:=d.Size) a5 (by omega)
 have e2:=S.ends_below (n:=d.Size) a6 (by omega)
 by_cases a7:S.ends d.Free≤d.Size
 rw [if_pos a7]
 rw [decide_eq_true a7] at e1
 by_cases a8:S.ends d.Late≤d.Size
 rw [if_pos a8]
 rw [decide_eq_true a8] at e2
 rw [S.Two_eq hk (by omega) (by omega) a5 a6]
 simp only [Option.bind_some]
 refine Says.iff says_bool ?_
 rw [beq_iff_eq]
 have pk:∀j,S.pick2 2 (S.mem d.Free j) (S.mem d.Late j)=(S.mem d.Free j&&S.mem d.Late j):=fun j=>by simp [S.pick2]
 simp only [pk]
 refine ⟨fun g=>⟨a1,a3,⟨a5,e1.symm⟩,⟨a6,e2.symm⟩,fun i hi=>?_⟩,fun g=>?_⟩
 ·have gz:S.segsOf (fun j=>S.mem d.Free j&&S.mem d.Late j)=[]:=List.eq_nil_of_length_eq_zero (by omega)
  rw [←S.mem_segsOf (b:=fun j=>S.mem d.Free j&&S.mem d.Late j) hi,gz]
  rfl
 ·rw [S.segsOf_congr (c:=fun _=>false) g.dis,S.segsOf_none];rfl
 ·rw [if_neg a8]
  rw [decide_eq_false a8] at e2
  exact ⟨fun g=>absurd g.late.2 (by rw [←e2];simp),fun _=>rfl⟩
 ·rw [if_neg a7]
  rw [decide_eq_false a7] at e1
  exact ⟨fun g=>absurd g.free.2 (by rw [←e1];simp),fun _=>rfl⟩
 ·rw [if_neg a6];exact ⟨fun g=>absurd g.late.1 a6,fun _=>rfl⟩
 ·rw [if_neg a5];exact ⟨fun g=>absurd g.free.1 a5,fun _=>rfl⟩
 ·rw [if_neg (by simpa using a3)];exact ⟨fun g=>absurd g.size a3,fun _=>rfl⟩
 ·rw [if_neg (by simpa using a1)];exact ⟨fun g=>absurd g.id a1,fun _=>rfl⟩
def DevsOk (l:List Device):Prop:=l.length≤6∧∀j:Nat,0≤j→j<l.length→DevOk (rd l (j:Int))∧(0<j→(rd l ((j-1:Nat):Int)).ID<(rd l (j:Int)).ID)
def DevsIn (l:List Device):Prop:=∀d∈l,d.Free.length≤1000∧d.Late.length≤1000
theorem rd_mem {α:Type} [Inhabited α] {l:List α} {i:Nat} (h:i<l.length):rd l (i:Int)∈l:=by rw [rd_nat h];exact List.getElem_mem h
theorem room_May_says {l:List Device} {k:Nat} (hk:1000<k) (hl:DevsIn l):Says (room_May.f k l) (DevsOk l):=by
 unfold room_May.f
 by_cases c:6<(l.length:Int)
 ·rw [if_pos c];exact ⟨fun g=>by have:=g.1;omega,fun _=>rfl⟩
 rw [if_neg c]
 have:=loop_says (f:=room_May.l0 l k) (len:=l.length) (E:=some true) (F:=some false) (P:=fun j=>DevOk (rd l (j:Int))∧(0<j→(rd l ((j-1:Nat):Int)).ID<(rd l (j:Int)).ID)) ?_ ?_ ?_ k 0 (by omega) (by omega)
 ·refine ⟨fun g=>this.1 fun j hj hl=>g.2 j hj hl,fun g=>this.2 fun a=>g ⟨by omega,a⟩⟩
 ·intro n i hi hp
  have hd:=hl _ (rd_mem hi)
  rw [room_May.l0]
  rw [if_pos (by omega),if_pos (by omega),(room_Device_says hd.1 hd.2 hk).1 hp.1]
  simp only [Option.bind_some,if_true]
  rcases Nat.eq_zero_or_pos i with z|z
  ·rw [if_neg (by omega)]
   unfold room_May.j0
   rw [if_neg (by simp),w64_succ hi (by omega)]
  ·rw [if_pos (by omega),w64_pred z (Nat.le_of_lt hi) (by omega),if_pos (by omega)]
   unfold room_May.j0
   have:=hp.2 z
   rw [if_neg (by simp only [decide_eq_true_eq];omega),w64_succ hi (by omega)]
 ·intro n i hi hp
  have hd:=hl _ (rd_mem hi)
  rw [room_May.l0]
  rw [if_pos (by omega),if_pos (by omega)]
  by_cases d:DevOk (rd l (i:Int))
  ·rw [(room_Device_says hd.1 hd.2 hk).1 d]
   simp only [Option.bind_some,if_true]
   have hp2:¬(0<i→(rd l ((i-1:Nat):Int)).ID<(rd l (i:Int)).ID):=fun g=>hp ⟨d,g⟩
   have z:0<i:=by
    rcases Nat.eq_zero_or_pos i with z|z
    ·exact absurd (fun h=>by omega) hp2
    ·exact z
   have q:¬(rd l ((i-1:Nat):Int)).ID<(rd l (i:Int)).ID:=fun g=>hp2 fun _=>g
   rw [if_pos (by omega),w64_pred z (Nat.le_of_lt hi) (by omega),if_pos (by omega)]
   unfold room_May.j0
   rw [if_pos (by simp only [decide_eq_true_eq];omega)]
  ·rw [(room_Device_says hd.1 hd.2 hk).2 d]
   simp only [Option.bind_some]
   rw [if_neg (by simp)]
   unfold room_May.j0
   rw [if_pos rfl]
 ·intro n
  unfold room_May.l0
  rw [if_neg (by omega)]
theorem ref_Devices_says {l:List Device} {k:Nat} (hk:1000<k) (hl:DevsIn l):Says (r7_Devices.f k l) (DevsOk l):=by
 unfold r7_Devices.f
 by_cases c:6<(l.length:Int)
 ·rw [if_pos c];exact ⟨fun g=>by have:=g.1;omega,fun _=>rfl⟩
 rw [if_neg c]
 have:=loop_says (f:=r7_Devices.l0 l k) (len:=l.length) (E:=some true) (F:=some false) (P:=fun j=>DevOk (rd l (j:Int))∧(0<j→(rd l ((j-1:Nat):Int)).ID<(rd l (j:Int)).ID)) ?_ ?_ ?_ k 0 (by omega) (by omega)
 ·refine ⟨fun g=>this.1 fun j hj hl=>g.2 j hj hl,fun g=>this.2 fun a=>g ⟨by omega,a⟩⟩
 ·intro n i hi hp
  have hd:=hl _ (rd_mem hi)
  rw [r7_Devices.l0]
  rw [if_pos (by omega),if_pos (by omega),(ref_Device_says hd.1 hd.2 hk).1 hp.1]
  simp only [Option.bind_some,if_true]
  rcases Nat.eq_zero_or_pos i with z|z
  ·rw [if_neg (by omega)]
   unfold r7_Devices.j0
   rw [if_neg (by simp),w64_succ hi (by omega)]
  ·rw [if_pos (by omega),w64_pred z (Nat.le_of_lt hi) (by omega),if_pos (by omega),if_pos (by omega)]
   unfold r7_Devices.j0
   have:=hp.2 z
   rw [if_neg (by simp only [decide_eq_true_eq];omega),w64_succ hi (by omega)]
 ·intro n i hi hp
  have hd:=hl _ (rd_mem hi)
  rw [r7_Devices.l0]
  rw [if_pos (by omega),if_pos (by omega)]
  by_cases d:DevOk (rd l (i:Int))
  ·rw [(ref_Device_says hd.1 hd.2 hk).1 d]
   simp only [Option.bind_some,if_true]
   have hp2:¬(0<i→(rd l ((i-1:Nat):Int)).ID<(rd l (i:Int)).ID):=fun g=>hp ⟨d,g⟩
   have z:0<i:=by
    rcases Nat.eq_zero_or_pos i with z|z
    ·exact absurd (fun h=>by omega) hp2
    ·exact z
   have q:¬(rd l ((i-1:Nat):Int)).ID<(rd l (i:Int)).ID:=fun g=>hp2 fun _=>g
   rw [if_pos (by omega),w64_pred z (Nat.le_of_lt hi) (by omega),if_pos (by omega),if_pos (by omega)]
   unfold r7_Devices.j0
   rw [if_pos (by simp only [decide_eq_true_eq];omega)]
  ·rw [(ref_Device_says hd.1 hd.2 hk).2 d]
   simp only [Option.bind_some]
   rw [if_neg (by simp)]
   unfold r7_Devices.j0
   rw [if_pos rfl]
 ·intro n
  unfold r7_Devices.l0
  rw [if_neg (by omega)]
theorem asc_all {g:Nat→Int} {n:Nat} (h:∀j:Nat,j<n→0<j→g (j-1)<g j):∀(d i j:Nat),j=i+d+1→j<n→g i<g j
 |0,i,j,e,hj=>by have:=h j hj (by omega);rwa [show j-1=i by omega] at this
 |d+1,i,j,e,hj=>by
  have a:=asc_all h d i (j-1) (by omega) (by omega)
  have b:=h j hj (by omega)
  omega
theorem asc_lt {g:Nat→Int} {n:Nat} (h:∀j:Nat,j<n→0<j→g (j-1)<g j) {i j:Nat} (hij:i<j) (hj:j<n):g i<g j:=asc_all h (j-i-1) i j (by omega) hj
theorem asc_inj {g:Nat→Int} {n:Nat} (h:∀j:Nat,j<n→0<j→g (j-1)<g j) {i j:Nat} (hi:i<n) (hj:j<n) (e:g i=g j):i=j:=by
 rcases Nat.lt_trichotomy i j with c|c|c
 ·have:=asc_lt h c hj;omega
 ·exact c
 ·have:=asc_lt h c hi;omega
theorem mid_eq {a b:Nat} (ha:a≤1000) (hb:b≤1000):w64 ((wu64 (w64 ((a:Int)+b))).fdiv (2^min (1:Int).toNat 64))=(((a+b)/2:Nat):Int):=by
 have e0:w64 ((a:Int)+b)=(a:Int)+b:=w64_id (by omega) (by omega)
 rw [e0,wu64_id (by omega) (by omega)]
 have:((2:Int)^min (1:Int).toNat 64)=2:=by decide
 rw [this,Int.fdiv_eq_ediv_of_nonneg _ (by omega)]
 rw [w64_id (by omega) (by omega)]
 omega
def Spot (g:Nat→Int) (n:Nat) (id:Int) (o:Option (Int×Bool)):Prop:=
 (∃m:Nat,m<n∧g m=id∧o=some ((m:Int),true))∨((∀m,m<n→g m≠id)∧∃m:Nat,o=some ((m:Int),false))
theorem w64_zero {x:Int} (h:w64 x=0):x%18446744073709551616=0:=by
 have hk:IntKind.i64.wrap x=if x%18446744073709551616≥9223372036854775808 then x%18446744073709551616-18446744073709551616 else x%18446744073709551616:=by
  simp [IntKind.wrap,IntKind.bits,IntKind.signed]
 have:w64 x=IntKind.i64.wrap x:=rfl
 rw [this,hk] at h
 split at h <;>omega
theorem room_Find_l0 {l:List Device} (hl:l.length≤1000) (hb:∀j:Nat,j<l.length→0≤(rd l (j:Int)).ID∧(rd l (j:Int)).ID≤1000) (ha:∀j:Nat,j<l.length→0<j→(rd l ((j-1:Nat):Int)).ID<(rd l (j:Int)).ID) {id:Int} (i0: -9223372036854775808≤id) (i1:id<9223372036854775808):
 ∀(n lo hi:Nat),lo≤hi→hi≤l.length→hi-lo<n→(∀m:Nat,m<l.length→(rd l (m:Int)).ID=id→lo≤m∧m≤hi)→Spot (fun m=>(rd l (m:Int)).ID) l.length id (room_Find.l0 l id n lo hi)
 |0,lo,hi,_,_,h,_=>by omega
 |n+1,lo,hi,h1,h2,hn,hm=>by
  unfold room_Find.l0
  by_cases c:lo<hi
  ·rw [if_pos (by omega),mid_eq (by omega) (by omega),if_pos (by omega)]
   unfold room_Find_1.f
   simp only [Option.bind_some]
   have hj:(lo+hi)/2<l.length:=by omega
   by_cases d:w64 ((rd l (((lo+hi)/2:Nat):Int)).ID-id)<0
   ·rw [if_pos d,w64_succ hj (by omega)]
    refine room_Find_l0 hl hb ha i0 i1 n _ hi (by omega) h2 (by omega) fun m hml e=>?_
    have q:=hm m hml e
    refine ⟨?_,q.2⟩
    have b1:=hb m hml
    have b2:=hb _ hj
    rw [w64_id (by omega) (by omega)] at d
    rcases Nat.lt_or_ge ((lo+hi)/2) m with z|z
    ·omega
    ·exfalso
     rcases Nat.lt_or_ge m ((lo+hi)/2) with y|y
     ·have:=asc_lt (g:=fun j=>(rd l (j:Int)).ID) ha y hj
      omega
     ·have:m=(lo+hi)/2:=by omega
      subst this
      omega
   ·rw [if_neg d]
    refine room_Find_l0 hl hb ha i0 i1 n lo _ (by omega) (by omega) (by omega) fun m hml e=>?_
    have q:=hm m hml e
    refine ⟨q.1,?_⟩
    have b1:=hb m hml
    have b2:=hb _ hj
    rw [w64_id (by omega) (by omega)] at d
    rcases Nat.lt_or_ge ((lo+hi)/2) m with z|z
    ·exfalso
     have:=asc_lt (g:=fun j=>(rd l (j:Int)).ID) ha z hml
     omega
    ·omega
  ·have e:hi=lo:=by omega
   subst e
   rw [if_neg (by omega)]
   by_cases f:hi<l.length
   ·rw [if_pos (by omega),if_pos (by omega)]
    unfold room_Find_1.f room_Find.j0
    simp only [Option.bind_some]
    by_cases g:(rd l (hi:Int)).ID=id
    ·refine .inl ⟨hi,f,g,?_⟩
     rw [g,Int.sub_self]
     rfl
    ·refine .inr ⟨fun m hml e=>g ?_,hi,?_⟩
     ·have:=hm m hml e
      have:m=hi:=by omega
      rw [←this];exact e
     ·have:¬w64 ((rd l (hi:Int)).ID-id)=0:=fun z=>by
       have z:=w64_zero z
       have:=hb hi f
       omega
      simp [this]
   ·rw [if_neg (by omega)]
    refine .inr ⟨fun m hml e=>?_,hi,rfl⟩
    have:=hm m hml e
    omega
theorem room_Find_spot {l:List Device} {k:Nat} (hk:1000<k) (h:DevsOk l) {id:Int} (i0: -9223372036854775808≤id) (i1:id<9223372036854775808):Spot (fun m=>(rd l (m:Int)).ID) l.length id (room_Find.f k l id):=by
 have:=h.1
 exact room_Find_l0 (by omega) (fun j hj=>by have:=(h.2 j (by omega) hj).1.id;omega) (fun j hj z=>(h.2 j (by omega) hj).2 z) i0 i1 k 0 l.length (by omega) (by omega) (by omega) fun m hm _=>⟨by omega,by omega⟩
theorem ref_At_l0 {l:List Device} (hl:l.length≤1000) {id:Int}:∀(n i:Nat),i≤l.length→l.length-i<n→(∀m:Nat,m<i→(rd l (m:Int)).ID≠id)→
 (∃m:Nat,m<l.length∧(rd l (m:Int)).ID=id∧r7_At.l0 l id n i=some (m:Int))∨((∀m:Nat,m<l.length→(rd l (m:Int)).ID≠id)∧r7_At.l0 l id n i=some (-1))
 |0,i,_,h,_=>by omega
 |n+1,i,hi,hn,hm=>by
  unfold r7_At.l0
  by_cases c:i<l.length
  ·rw [if_pos (by omega),if_pos (by omega)]
   by_cases d:(rd l (i:Int)).ID=id
   ·rw [if_pos d];exact .inl ⟨i,c,d,rfl⟩
   ·rw [if_neg d,w64_succ c (by omega)]
    refine ref_At_l0 hl n (i+1) (by omega) (by omega) fun m h=>?_
    rcases Nat.lt_or_ge m i with z|z
    ·exact hm m z
    ·rw [show m=i by omega];exact d
  ·rw [if_neg (by omega)]
   exact .inr ⟨fun m h=>hm m (by omega),rfl⟩
theorem ref_At_spot {l:List Device} {k:Nat} (hk:1000<k) (hl:l.length≤1000) (id:Int):
 (∃m:Nat,m<l.length∧(rd l (m:Int)).ID=id∧r7_At.f k l id=some (m:Int))∨((∀m:Nat,m<l.length→(rd l (m:Int)).ID≠id)∧r7_At.f k l id=some (-1)):=
 ref_At_l0 hl k 0 (by omega) (by omega) fun m h=>by omega
end Go.Proofs.YtnaajldlloglkaaGreatDoor.W
namespace Go.Proofs.YtnaajldlloglkaaGreatDoor.W
open Go.H
open Classical
namespace M
noncomputable def cnt (P:Nat→Prop):Nat→Nat
 |0=>0
 |n+1=>if P n then cnt P n+1 else cnt P n
theorem cnt_le (P:Nat→Prop):∀n,cnt P n≤n
 |0=>Nat.le_refl 0
 |n+1=>by
  have:=cnt_le P n
  unfold cnt
  split <;>omega
theorem cnt_mono {P Q:Nat→Prop}:∀n,(∀i,i<n→P i→Q i)→cnt P n≤cnt Q n
 |0,_=>Nat.le_refl 0
 |n+1,h=>by
  have:=cnt_mono n fun i hi=>h i (by omega)
  unfold cnt
  by_cases c:P n
  ·rw [if_pos c,if_pos (h n (by omega) c)];omega
  ·rw [if_neg c]
   split <;>omega
theorem cnt_lt {P Q:Nat→Prop}:∀n,(∀i,i<n→P i→Q i)→(∃i,i<n∧¬P i∧Q i)→cnt P n<cnt Q n
 |0,_,⟨i,h,_⟩=>by omega
 |n+1,h,⟨i,hi,hp,hq⟩=>by
  have m:=cnt_mono n fun i hi=>h i (by omega)
  by_cases e:i=n
  ·subst e
   unfold cnt
   rw [if_neg hp,if_pos hq];omega
  ·have:=cnt_lt n (fun i hi=>h i (by omega)) ⟨i,by omega,hp,hq⟩
   unfold cnt
   by_cases c:P n
   ·rw [if_pos c,if_pos (h n (by omega) c)];omega
   ·rw [if_neg c]
    split <;>omega
theorem cnt_zero {P:Nat→Prop}:∀n,cnt P n=0→∀i,i<n→¬P i
 |0,_,i,h=>by omega
 |n+1,e,i,h=>by
  unfold cnt at e
  by_cases c:P n
  ·rw [if_pos c] at e;omega
  ·rw [if_neg c] at e
   by_cases d:i=n
   ·rw [d];exact c
   ·exact cnt_zero n e i (by omega)
variable {N:Nat} {E:Nat→Nat→Prop} {B:Nat→Prop}
def Good (N:Nat) (E:Nat→Nat→Prop) (B:Nat→Prop):Prop:=∃rank:Nat→Nat,∀i,i<N→¬B i∧∀m,m<N→E i m→rank m<rank i
def Ready (N:Nat) (E:Nat→Nat→Prop) (B:Nat→Prop) (G:Nat→Bool) (i:Nat):Prop:=¬B i∧∀m,m<N→E i m→G m=true
noncomputable def step (N:Nat) (E:Nat→Nat→Prop) (B:Nat→Prop) (G:Nat→Bool) (i:Nat):Nat→Bool:=fun j=>if j=i then G i||decide (Ready N E B G i) else G j
noncomputable def pass (N:Nat) (E:Nat→Nat→Prop) (B:Nat→Prop) (G:Nat→Bool):Nat→Nat→Bool
 |0=>G
 |i+1=>step N E B (pass N E B G i) i
theorem step_mono {G:Nat→Bool} {i j:Nat} (h:G j=true):step N E B G i j=true:=by
 unfold step
 by_cases c:j=i
 ·subst c;simp [h]
 ·rw [if_neg c];exact h
theorem step_ready {G:Nat→Bool} {i:Nat} (h:Ready N E B G i):step N E B G i i=true:=by
 unfold step
 rw [if_pos rfl,decide_eq_true h]
 simp
theorem step_not {G:Nat→Bool} {i:Nat} (h:¬Ready N E B G i):step N E B G i i=G i:=by
 unfold step
 rw [if_pos rfl,decide_eq_false h]
 simp
theorem pass_mono {G:Nat→Bool} {j:Nat} (h:G j=true):∀i,pass N E B G i j=true
 |0=>h
 |i+1=>step_mono (pass_mono h i)
theorem pass_later {G:Nat→Bool} {j:Nat}:∀i,i≤j→pass N E B G i j=G j
 |0,_=>rfl
 |i+1,h=>by
  show step N E B (pass N E B G i) i j=G j
  unfold step
  rw [if_neg (by omega)]
  exact pass_later i (by omega)
theorem pass_done {G:Nat→Bool} {j:Nat}:∀d i,i=j+1+d→pass N E B G i j=pass N E B G (j+1) j
 |0,i,e=>by rw [e]
 |d+1,i,e=>by
  have:i=(j+1+d)+1:=by omega
  rw [this]
  show step N E B (pass N E B G (j+1+d)) (j+1+d) j=_
  unfold step
  rw [if_neg (by omega)]
  exact pass_done d _ rfl
structure Inv (N:Nat) (E:Nat→Nat→Prop) (B:Nat→Prop) (G:Nat→Bool) (rank:Nat→Nat) (R:Nat):Prop where
 all:∀i,i<N→G i=true→¬B i∧rank i<R∧∀m,m<N→E i m→G m=true∧rank m<rank i
theorem inv_step {G:Nat→Bool} {i:Nat} (hi:i<N) (h:∃rank R,Inv N E B G rank R):∃rank R,Inv N E B (step N E B G i) rank R:=by
 obtain ⟨rank,R,h⟩:=h
 by_cases g:G i=true
 ·refine ⟨rank,R,⟨fun j hj gj=>?_⟩⟩
  have gj':G j=true:=by
   unfold step at gj
   by_cases c:j=i
   ·rw [c];exact g
   ·rw [if_neg c] at gj;exact gj
  have q:=h.all j hj gj'
  exact ⟨q.1,q.2.1,fun m hm e=>⟨step_mono (q.2.2 m hm e).1,(q.2.2 m hm e).2⟩⟩
 ·by_cases r:Ready N E B G i
  ·refine ⟨fun j=>if j=i then R else rank j,R+1,⟨fun j hj gj=>?_⟩⟩
   by_cases c:j=i
   ·subst c
    refine ⟨r.1,by simp,fun m hm e=>?_⟩
    have gm:=r.2 m hm e
    have c:¬m=j:=fun c=>g (c ▸ gm)
    refine ⟨step_mono gm,?_⟩
    simp only [if_neg c,if_true]
    exact (h.all m hm gm).2.1
   ·have gj':G j=true:=by
     unfold step at gj
     rw [if_neg c] at gj;exact gj
    have q:=h.all j hj gj'
    refine ⟨q.1,by simp only [if_neg c];omega,fun m hm e=>?_⟩
    have w:=q.2.2 m hm e
    have d:¬m=i:=fun d=>g (d ▸ w.1)
    exact ⟨step_mono w.1,by simp only [if_neg c,if_neg d];exact w.2⟩
  ·refine ⟨rank,R,⟨fun j hj gj=>?_⟩⟩
   have gj':G j=true:=by
    unfold step at gj
    by_cases c:j=i
    ·subst c
     rw [if_pos rfl,decide_eq_false r] at gj
     simpa using gj
    ·rw [if_neg c] at gj;exact gj
   have q:=h.all j hj gj'
   exact ⟨q.1,q.2.1,fun m hm e=>⟨step_mono (q.2.2 m hm e).1,(q.2.2 m hm e).2⟩⟩
theorem inv_pass {G:Nat→Bool} (h:∃rank R,Inv N E B G rank R):∀i,i≤N→∃rank R,Inv N E B (pass N E B G i) rank R
 |0,_=>h
 |i+1,hi=>inv_step (by omega) (inv_pass h i (by omega))
theorem inv_none:∃rank R,Inv N E B (fun _=>false) rank R:=⟨fun _=>0,0,⟨fun i _ h=>by simp at h⟩⟩
theorem inv_good {G:Nat→Bool} (h:∃rank R,Inv N E B G rank R) (a:∀i,i<N→G i=true):Good N E B:=by
 obtain ⟨rank,R,h⟩:=h
 exact ⟨rank,fun i hi=>⟨(h.all i hi (a i hi)).1,fun m hm e=>((h.all i hi (a i hi)).2.2 m hm e).2⟩⟩
theorem least_undone {G:Nat→Bool} {rank:Nat→Nat} (hr:∀i,i<N→¬B i∧∀m,m<N→E i m→rank m<rank i):∀(r i:Nat),rank i≤r→i<N→G i=false→∃j,j<N∧G j=false∧Ready N E B G j
 |r,i,h,hi,g=>by
  by_cases c:Ready N E B G i
  ·exact ⟨i,hi,g,c⟩
  ·have:∃m,m<N∧E i m∧G m=false:=Classical.byContradiction fun a=>c ⟨(hr i hi).1,fun m hm e=>by
    cases x:G m
    ·exact absurd ⟨m,hm,e,x⟩ a
    ·rfl⟩
   obtain ⟨m,hm,e,x⟩:=this
   have lt:=(hr i hi).2 m hm e
   match r with
   |0=>omega
   |r+1=>exact least_undone hr r m (by omega) hm x
theorem progress {G:Nat→Bool} (w:Good N E B) (h:∃i,i<N∧G i=false):∃i,i<N∧G i=false∧pass N E B G N i=true:=by
 obtain ⟨rank,hr⟩:=w
 obtain ⟨i,hi,g⟩:=h
 obtain ⟨j,hj,gj,rj⟩:=least_undone (G:=G) hr (rank i) i (Nat.le_refl _) hi g
 refine ⟨j,hj,gj,?_⟩
 rw [pass_done (N-(j+1)) N (by omega)]
 show step N E B (pass N E B G j) j j=true
 unfold step
 rw [if_pos rfl,decide_eq_true ⟨rj.1,fun m hm e=>pass_mono (rj.2 m hm e) j⟩]
 simp
noncomputable def undone (N:Nat) (G:Nat→Bool):Nat:=cnt (fun i=>G i=false) N
theorem undone_less {G:Nat→Bool} (h:∃i,i<N∧G i=false∧pass N E B G N i=true):undone N (pass N E B G N)<undone N G:=by
 obtain ⟨i,hi,a,b⟩:=h
 refine cnt_lt N (fun j _ f=>?_) ⟨i,hi,by rw [b];simp,a⟩
 cases x:G j
 ·rfl
 ·rw [pass_mono x] at f;simp at f
noncomputable def mx (f:Nat→Nat) (P:Nat→Prop):Nat→Nat
 |0=>0
 |n+1=>if P n then max (mx f P n) (f n) else mx f P n
noncomputable def hgt (N:Nat) (E:Nat→Nat→Prop):Nat→Nat→Nat
 |0,_=>0
 |n+1,i=>1+mx (hgt N E n) (E i) N
end M
end Go.Proofs.YtnaajldlloglkaaGreatDoor.W
namespace Go.Proofs.YtnaajldlloglkaaGreatDoor.W
open Go.H
theorem chain_Find_l0 {p:Pool} (hl:p.Tables.length≤1000) (hb:∀j:Nat,j<p.Tables.length→0≤(rd p.Tables (j:Int)).Dev∧(rd p.Tables (j:Int)).Dev≤1000) (ha:∀j:Nat,j<p.Tables.length→0<j→(rd p.Tables ((j-1:Nat):Int)).Dev<(rd p.Tables (j:Int)).Dev) {id:Int} (i0: -9223372036854775808≤id) (i1:id<9223372036854775808):
 ∀(n lo hi:Nat),lo≤hi→hi≤p.Tables.length→hi-lo<n→(∀m:Nat,m<p.Tables.length→(rd p.Tables (m:Int)).Dev=id→lo≤m∧m≤hi)→Spot (fun m=>(rd p.Tables (m:Int)).Dev) p.Tables.length id (chain_Find.l0 p id n lo hi)
 |0,lo,hi,_,_,h,_=>by omega
 |n+1,lo,hi,h1,h2,hn,hm=>by
  unfold chain_Find.l0
  by_cases c:lo<hi
  ·rw [if_pos (by omega),mid_eq (by omega) (by omega),if_pos (by omega)]
   unfold chain_Find_1.f
   simp only [Option.bind_some]
   have hj:(lo+hi)/2<p.Tables.length:=by omega
   by_cases d:w64 ((rd p.Tables (((lo+hi)/2:Nat):Int)).Dev-id)<0
   ·rw [if_pos d,w64_succ hj (by omega)]
    refine chain_Find_l0 hl hb ha i0 i1 n _ hi (by omega) h2 (by omega) fun m hml e=>?_
    have q:=hm m hml e
    refine ⟨?_,q.2⟩
    have b1:=hb m hml
    have b2:=hb _ hj
    rw [w64_id (by omega) (by omega)] at d
    rcases Nat.lt_or_ge ((lo+hi)/2) m with z|z
    ·omega
    ·exfalso
     rcases Nat.lt_or_ge m ((lo+hi)/2) with y|y
     ·have:=asc_lt (g:=fun j=>(rd p.Tables (j:Int)).Dev) ha y hj
      omega
     ·have:m=(lo+hi)/2:=by omega
      subst this
      omega
   ·rw [if_neg d]
    refine chain_Find_l0 hl hb ha i0 i1 n lo _ (by omega) (by omega) (by omega) fun m hml e=>?_
    have q:=hm m hml e
    refine ⟨q.1,?_⟩
    have b1:=hb m hml
    have b2:=hb _ hj
    rw [w64_id (by omega) (by omega)] at d
    rcases Nat.lt_or_ge ((lo+hi)/2) m with z|z
    ·exfalso
     have:=asc_lt (g:=fun j=>(rd p.Tables (j:Int)).Dev) ha z hml
     omega
    ·omega
  ·have e:hi=lo:=by omega
   subst e
   rw [if_neg (by omega)]
   by_cases f:hi<p.Tables.length
   ·rw [if_pos (by omega),if_pos (by omega)]
    unfold chain_Find_1.f chain_Find.j0
    simp only [Option.bind_some]
    by_cases g:(rd p.Tables (hi:Int)).Dev=id
    ·refine .inl ⟨hi,f,g,?_⟩
     rw [g,Int.sub_self]
     rfl
    ·refine .inr ⟨fun m hml e=>g ?_,hi,?_⟩
     ·have:=hm m hml e
      have:m=hi:=by omega
      rw [←this];exact e
     ·have:¬w64 ((rd p.Tables (hi:Int)).Dev-id)=0:=fun z=>by
       have z:=w64_zero z
       have:=hb hi f
       omega
      simp [this]
   ·rw [if_neg (by omega)]
    refine .inr ⟨fun m hml e=>?_,hi,rfl⟩
    have:=hm m hml e
    omega
theorem ref_Table_l0 {p:Pool} (hl:p.Tables.length≤1000) {id:Int}:∀(n i:Nat),i≤p.Tables.length→p.Tables.length-i<n→(∀m:Nat,m<i→(rd p.Tables (m:Int)).Dev≠id)→
 (∃m:Nat,m<p.Tables.length∧(rd p.Tables (m:Int)).Dev=id∧r9_Table.l0 p id n i=some (m:Int))∨((∀m:Nat,m<p.Tables.length→(rd p.Tables (m:Int)).Dev≠id)∧r9_Table.l0 p id n i=some (-1))
 |0,i,_,h,_=>by omega
 |n+1,i,hi,hn,hm=>by
  unfold r9_Table.l0
  by_cases c:i<p.Tables.length
  ·rw [if_pos (by omega),if_pos (by omega)]
   by_cases d:(rd p.Tables (i:Int)).Dev=id
   ·rw [if_pos d];exact .inl ⟨i,c,d,rfl⟩
   ·rw [if_neg d,w64_succ c (by omega)]
    refine ref_Table_l0 hl n (i+1) (by omega) (by omega) fun m h=>?_
    rcases Nat.lt_or_ge m i with z|z
    ·exact hm m z
    ·rw [show m=i by omega];exact d
  ·rw [if_neg (by omega)]
   exact .inr ⟨fun m h=>hm m (by omega),rfl⟩
def IsDev (p:Pool) (d:Int):Prop:=∃m:Nat,m<p.Devices.length∧(rd p.Devices (m:Int)).ID=d
def IsTab (p:Pool) (d:Int):Prop:=∃m:Nat,m<p.Tables.length∧(rd p.Tables (m:Int)).Dev=d
structure PIn (p:Pool):Prop where
 devs:DevsIn p.Devices
 devs_len:p.Devices.length≤1000
 tabs_len:p.Tables.length≤1000
 tabs:∀t∈p.Tables,t.List_.length≤1000
 job:p.Job.Table.List_.length≤1000
 jobDev: -9223372036854775808≤p.Job.Dev∧p.Job.Dev<9223372036854775808
theorem device_says {p:Pool} {k:Nat} (hk:1000<k) (h:DevsOk p.Devices) {id:Int} (i0: -9223372036854775808≤id) (i1:id<9223372036854775808):Says (chain_device.f k p id) (IsDev p id):=by
 unfold chain_device.f
 rcases room_Find_spot hk h i0 i1 with ⟨m,hm,e,f⟩|⟨a,m,f⟩
 ·rw [f];exact ⟨fun _=>rfl,fun g=>absurd ⟨m,hm,e⟩ g⟩
 ·rw [f];exact ⟨fun ⟨m,hm,e⟩=>absurd e (a m hm),fun _=>rfl⟩
structure TabsOk (p:Pool) (j:Nat):Prop where
 ok:T.tabOk' (rd p.Tables (j:Int))=true
 dev:¬IsDev p (rd p.Tables (j:Int)).Dev
 next:(rd p.Tables (j:Int)).Dev<p.Next
 asc:0<j→(rd p.Tables ((j-1:Nat):Int)).Dev<(rd p.Tables (j:Int)).Dev
structure IdsOk (p:Pool):Prop where
 max:p.Next≤41
 tabs:∀j:Nat,0≤j→j<p.Tables.length→TabsOk p j
 devs:∀j:Nat,0≤j→j<p.Devices.length→(rd p.Devices (j:Int)).ID<p.Next
theorem tab_dev {t:Table} (h:T.tabOk' t=true):1≤t.Dev∧t.Dev≤40∧1≤t.Size∧t.Size≤64:=(T.tabOk_iff.1 h).1
theorem ids_says {p:Pool} {k:Nat} (hk:1000<k) (hp:PIn p) (h:DevsOk p.Devices):Says (chain_ids.f k p) (IdsOk p):=by
 unfold chain_ids.f
 by_cases c:41<p.Next
 ·rw [if_pos c];exact ⟨fun g=>by have:=g.max;omega,fun _=>rfl⟩
 rw [if_neg c]
 have hl:=hp.tabs_len
 have hd:=h.1
 have q1:=loop_says (f:=chain_ids.l1 p) (len:=p.Devices.length) (E:=some true) (F:=some false) (P:=fun j=>(rd p.Devices (j:Int)).ID<p.Next) ?_ ?_ ?_ k 0 (by omega) (by omega)
 have q2:=loop_says (f:=chain_ids.l0 p k) (len:=p.Tables.length) (E:=chain_ids.l1 p k 0) (F:=some false) (P:=fun j=>TabsOk p j) ?_ ?_ ?_ k 0 (by omega) (by omega)
 ·refine ⟨fun g=>(q2.1 g.tabs).trans (q1.1 g.devs),fun g=>?_⟩
  by_cases d:∀j:Nat,0≤j→j<p.Tables.length→TabsOk p j
  ·exact (q2.1 d).trans (q1.2 fun e=>g ⟨by omega,d,e⟩)
  ·exact q2.2 d
 ·intro n i hi ho
  have hm:=rd_mem hi
  rw [chain_ids.l0,if_pos (by omega),if_pos (by omega),T.May_eq (by have:=hp.tabs _ hm;omega) (by have:=hp.tabs _ hm;omega),ho.ok]
  simp only [Option.bind_some,if_true]
  have td:=tab_dev ho.ok
  rw [(device_says hk h (by omega) (by omega)).2 ho.dev]
  simp only [Option.bind_some]
  have:=ho.next
  rw [if_neg (by simp),if_neg (by omega)]
  rcases Nat.eq_zero_or_pos i with z|z
  ·rw [if_neg (by omega)]
   unfold chain_ids.j0
   rw [if_neg (by simp),w64_succ hi (by omega)]
  ·rw [if_pos (by omega),w64_pred z (Nat.le_of_lt hi) (by omega),if_pos (by omega)]
   unfold chain_ids.j0
   have:=ho.asc z
   rw [if_neg (by simp only [decide_eq_true_eq];omega),w64_succ hi (by omega)]
 ·intro n i hi ho
  have hm:=rd_mem hi
  rw [chain_ids.l0,if_pos (by omega),if_pos (by omega),T.May_eq (by have:=hp.tabs _ hm;omega) (by have:=hp.tabs _ hm;omega)]
  simp only [Option.bind_some]
  by_cases a1:T.tabOk' (rd p.Tables (i:Int))=true
  ·rw [if_pos a1]
   have td:=tab_dev a1
   by_cases a2:IsDev p (rd p.Tables (i:Int)).Dev
   ·rw [(device_says hk h (by omega) (by omega)).1 a2]
    simp only [Option.bind_some,if_true]
    unfold chain_ids.j0
    rw [if_pos rfl]
   ·rw [(device_says hk h (by omega) (by omega)).2 a2]
    simp only [Option.bind_some]
    rw [if_neg (by simp)]
    by_cases a3:p.Next≤(rd p.Tables (i:Int)).Dev
    ·rw [if_pos a3]
     unfold chain_ids.j0
     rw [if_pos rfl]
    ·rw [if_neg a3]
     have q:¬(0<i→(rd p.Tables ((i-1:Nat):Int)).Dev<(rd p.Tables (i:Int)).Dev):=fun g=>ho ⟨a1,a2,by omega,g⟩
     have z:0<i:=by
      rcases Nat.eq_zero_or_pos i with z|z
      ·exact absurd (fun h=>by omega) q
      ·exact z
     have q:¬(rd p.Tables ((i-1:Nat):Int)).Dev<(rd p.Tables (i:Int)).Dev:=fun g=>q fun _=>g
     rw [if_pos (by omega),w64_pred z (Nat.le_of_lt hi) (by omega),if_pos (by omega)]
     unfold chain_ids.j0
     rw [if_pos (by simp only [decide_eq_true_eq];omega)]
  ·rw [if_neg a1]
   unfold chain_ids.j0
   rw [if_pos rfl]
 ·intro n
  rw [chain_ids.l0,if_neg (by omega)]
 ·intro n i hi ho
  rw [chain_ids.l1,if_pos (by omega),if_pos (by omega),if_neg (by omega),w64_succ hi (by omega)]
 ·intro n i hi ho
  rw [chain_ids.l1,if_pos (by omega),if_pos (by omega),if_pos (by omega)]
  unfold chain_ids.j1
  simp
 ·intro n
  rw [chain_ids.l1,if_neg (by omega)]
  unfold chain_ids.j1
  simp
end Go.Proofs.YtnaajldlloglkaaGreatDoor.W
namespace Go.Proofs.YtnaajldlloglkaaGreatDoor.W
open Go.H
theorem mget_mset {β:Type} {k:Int} {v:β}:∀{m:List (Int×β)} {d:Int},mget (mset m k v) d=if k=d then some v else mget m d
 |[],d=>by simp [mset,mget]
 |(a,x)::r,d=>by
  unfold mset
  by_cases c:a=k
  ·rw [if_pos c]
   unfold mget
   by_cases e:a=d
   ·rw [if_pos e,if_pos (c ▸ e)]
   ·rw [if_neg e,if_neg (c ▸ e),if_neg e]
  ·rw [if_neg c]
   unfold mget
   by_cases e:a=d
   ·rw [if_pos e,if_neg (fun f=>c (e.trans f.symm)),if_pos e]
   ·rw [if_neg e,if_neg e]
    exact mget_mset
abbrev dv (p:Pool) (m:Nat):Int:=(rd p.Tables (m:Int)).Dev
abbrev ls (p:Pool) (m:Nat):List Entry:=(rd p.Tables (m:Int)).List_
def E (p:Pool) (i m:Nat):Prop:=∃x∈ls p i,x.Dev=dv p m
def B (p:Pool) (i:Nat):Prop:=∃x∈ls p i,¬IsDev p x.Dev∧¬IsTab p x.Dev
theorem dv_asc {p:Pool} (h:IdsOk p):∀j:Nat,j<p.Tables.length→0<j→dv p (j-1)<dv p j:=fun j hj z=>(h.tabs j (by omega) hj).asc z
theorem dv_inj {p:Pool} (h:IdsOk p) {i j:Nat} (hi:i<p.Tables.length) (hj:j<p.Tables.length) (e:dv p i=dv p j):i=j:=asc_inj (dv_asc h) hi hj e
def Rel (p:Pool) (mb:List (Int×Bool)) (G:Nat→Bool):Prop:=∀d,(mget mb d).getD false=true↔∃m,m<p.Tables.length∧dv p m=d∧G m=true
theorem ready_iff {p:Pool} (h:IdsOk p) {G:Nat→Bool} {mb:List (Int×Bool)} (hr:Rel p mb G) {i:Nat}:M.Ready p.Tables.length (E p) (B p) G i↔∀x∈ls p i,(mget mb x.Dev).getD false=true∨IsDev p x.Dev:=by
 constructor
 ·intro ⟨a,b⟩ x hx
  by_cases d:IsDev p x.Dev
  ·exact .inr d
  ·by_cases t:IsTab p x.Dev
   ·obtain ⟨m,hm,e⟩:=t
    exact .inl ((hr _).2 ⟨m,hm,e,b m hm ⟨x,hx,e.symm⟩⟩)
   ·exact absurd ⟨x,hx,d,t⟩ a
 ·intro a
  refine ⟨fun ⟨x,hx,d,t⟩=>?_,fun m hm ⟨x,hx,e⟩=>?_⟩
  ·rcases a x hx with b|b
   ·obtain ⟨m,hm,e,_⟩:=(hr _).1 b
    exact t ⟨m,hm,e⟩
   ·exact d b
  ·rcases a x hx with b|b
   ·obtain ⟨m',hm',e',g⟩:=(hr _).1 b
    have:=dv_inj h hm' hm (e'.trans e)
    rw [←this];exact g
   ·exact absurd (show IsDev p (dv p m) by rw [←e];exact b) (h.tabs m (by omega) hm).dev
theorem rel_step {p:Pool} (h:IdsOk p) {G:Nat→Bool} {mb:List (Int×Bool)} (hr:Rel p mb G) {i:Nat} (hi:i<p.Tables.length) {v:Bool} (hv:v=M.step p.Tables.length (E p) (B p) G i i):Rel p (mset mb (dv p i) v) (M.step p.Tables.length (E p) (B p) G i):=by
 intro d
 rw [mget_mset]
 by_cases c:dv p i=d
 ·rw [if_pos c]
  simp only [Option.getD_some]
  constructor
  ·intro q
   exact ⟨i,hi,c,hv ▸ q⟩
  ·intro ⟨m,hm,e,g⟩
   have:m=i:=dv_inj h hm hi (e.trans c.symm)
   subst this
   rw [hv];exact g
 ·rw [if_neg c,hr d]
  constructor
  ·intro ⟨m,hm,e,g⟩
   exact ⟨m,hm,e,M.step_mono g⟩
  ·intro ⟨m,hm,e,g⟩
   refine ⟨m,hm,e,?_⟩
   have:¬m=i:=fun z=>c (z ▸ e)
   unfold M.step at g
   rw [if_neg this] at g
   exact g
variable {p:Pool} {k:Nat}
theorem ent_dev (h:IdsOk p) {i:Nat} (hi:i<p.Tables.length) {x:Entry} (hx:x∈ls p i):1≤x.Dev∧x.Dev≤40:=by
 have:=T.tab_elem (T.tabOk_iff.1 (h.tabs i (by omega) hi).ok).2 x hx
 unfold T.EntOk at this
 omega
theorem tables_l2 (hk:1000<k) (hp:PIn p) (hd:DevsOk p.Devices) (h:IdsOk p) {G:Nat→Bool} {mb:List (Int×Bool)} (hr:Rel p mb G) {i:Nat} (hi:i<p.Tables.length) (re:Int→List (Int×Bool)→Option Bool):
 (M.Ready p.Tables.length (E p) (B p) G i→chain_tables.l2 p k i mb re k 0=re (w64 ((i:Int)+1)) (mset mb (dv p i) true))∧(¬M.Ready p.Tables.length (E p) (B p) G i→chain_tables.l2 p k i mb re k 0=re (w64 ((i:Int)+1)) (mset mb (dv p i) false)):=by
 have hl:(ls p i).length≤1000:=hp.tabs _ (rd_mem hi)
 have q:=loop_says (f:=chain_tables.l2 p k i mb re) (len:=(ls p i).length) (E:=re (w64 ((i:Int)+1)) (mset mb (dv p i) true)) (F:=re (w64 ((i:Int)+1)) (mset mb (dv p i) false)) (P:=fun j=>(mget mb (rd (ls p i) (j:Int)).Dev).getD false=true∨IsDev p (rd (ls p i) (j:Int)).Dev) ?_ ?_ ?_ k 0 (by omega) (by omega)
 ·have e:M.Ready p.Tables.length (E p) (B p) G i↔∀j:Nat,0≤j→j<(ls p i).length→(mget mb (rd (ls p i) (j:Int)).Dev).getD false=true∨IsDev p (rd (ls p i) (j:Int)).Dev:=by
   rw [ready_iff h hr]
   constructor
   ·intro a j _ hj
    exact a _ (rd_mem hj)
   ·intro a x hx
    obtain ⟨j,hj,ex⟩:=List.getElem_of_mem hx
    have:=a j (by omega) hj
    rw [rd_nat hj,ex] at this
    exact this
  exact ⟨fun r=>q.1 (e.1 r),fun r=>q.2 fun a=>r (e.2 a)⟩
 ·intro n j hj ho
  have de:=ent_dev h hi (rd_mem hj)
  rw [chain_tables.l2,if_pos (show (j:Int)<((ls p i).length:Int) by omega),if_pos (show 0≤(j:Int)∧(j:Int)<((ls p i).length:Int) by omega)]
  by_cases a:(mget mb (rd (ls p i) (j:Int)).Dev).getD false=true
  ·rw [if_pos a]
   unfold chain_tables.j2
   rw [if_neg (by simp),w64_succ hj (by omega)]
  ·rw [if_neg a,(device_says hk hd (by omega) (by omega)).1 (ho.resolve_left a)]
   unfold chain_tables.j2
   simp only [Option.bind_some]
   rw [if_neg (by simp),w64_succ hj (by omega)]
 ·intro n j hj ho
  have de:=ent_dev h hi (rd_mem hj)
  rw [chain_tables.l2,if_pos (show (j:Int)<((ls p i).length:Int) by omega),if_pos (show 0≤(j:Int)∧(j:Int)<((ls p i).length:Int) by omega),if_neg fun g=>ho (.inl g),(device_says hk hd (by omega) (by omega)).2 fun g=>ho (.inr g)]
  unfold chain_tables.j2
  simp only [Option.bind_some]
  rw [if_pos (by simp)]
  unfold chain_tables.j1 chain_tables.j0
  rw [decide_eq_true (by omega:(0:Int)≤(j:Int))]
  rfl
 ·intro n
  rw [chain_tables.l2,if_neg (show ¬((ls p i).length:Int)<((ls p i).length:Int) by omega)]
  unfold chain_tables.j1 chain_tables.j0
  rfl
theorem tables_l1 (hk:1000<k) (hp:PIn p) (hd:DevsOk p.Devices) (h:IdsOk p) {G:Nat→Bool} (it:Int) (re:Int→List (Int×Bool)→Option Bool):∀(n i:Nat) (mb:List (Int×Bool)),i≤p.Tables.length→p.Tables.length-i<n→Rel p mb (M.pass p.Tables.length (E p) (B p) G i)→
 ∃mb',Rel p mb' (M.pass p.Tables.length (E p) (B p) G p.Tables.length)∧chain_tables.l1 p k it re n i mb=re (w64 (it+1)) mb'
 |0,i,mb,_,h,_=>by omega
 |n+1,i,mb,hi,hn,hr=>by
  have hl:=hp.tabs_len
  rw [chain_tables.l1]
  by_cases c:i<p.Tables.length
  ·rw [if_pos (by omega),if_pos (by omega)]
   by_cases g:(mget mb (dv p i)).getD false=true
   ·rw [if_pos g]
    unfold chain_tables.j0
    rw [w64_succ c (by omega)]
    refine tables_l1 hk hp hd h it re n (i+1) _ (by omega) (by omega) (rel_step h hr c ?_)
    obtain ⟨m,hm,e,gm⟩:=(hr _).1 g
    have:=dv_inj h hm c e
    subst this
    exact (M.step_mono gm).symm
   ·rw [if_neg g]
    have g':¬M.pass p.Tables.length (E p) (B p) G i i=true:=fun a=>g ((hr _).2 ⟨i,c,rfl,a⟩)
    have q:=tables_l2 hk hp hd h hr c (chain_tables.l1 p k it re n)
    by_cases r:M.Ready p.Tables.length (E p) (B p) (M.pass p.Tables.length (E p) (B p) G i) i
    ·rw [q.1 r,w64_succ c (by omega)]
     refine tables_l1 hk hp hd h it re n (i+1) _ (by omega) (by omega) (rel_step h hr c ?_)
     exact (M.step_ready r).symm
    ·rw [q.2 r,w64_succ c (by omega)]
     refine tables_l1 hk hp hd h it re n (i+1) _ (by omega) (by omega) (rel_step h hr c ?_)
     rw [M.step_not r];simpa using g'
  ·rw [if_neg (by omega)]
   have:i=p.Tables.length:=by omega
   subst this
   exact ⟨mb,hr,rfl⟩
abbrev Fine (p:Pool):Prop:=M.Good p.Tables.length (E p) (B p)
theorem tables_l3 (hk:1000<k) (hp:PIn p) {G:Nat→Bool} {mb:List (Int×Bool)} (h:IdsOk p) (hr:Rel p mb G):Says (chain_tables.l3 p mb k 0) (∀i,i<p.Tables.length→G i=true):=by
 have hl:=hp.tabs_len
 have q:=loop_says (f:=chain_tables.l3 p mb) (len:=p.Tables.length) (E:=some true) (F:=some false) (P:=fun j=>G j=true) ?_ ?_ ?_ k 0 (by omega) (by omega)
 ·exact ⟨fun a=>q.1 fun j _ hj=>a j hj,fun a=>q.2 fun b=>a fun j hj=>b j (by omega) hj⟩
 ·intro n j hj g
  rw [chain_tables.l3,if_pos (by omega),if_pos (by omega),if_pos ((hr _).2 ⟨j,hj,rfl,g⟩),w64_succ hj (by omega)]
 ·intro n j hj g
  rw [chain_tables.l3,if_pos (by omega),if_pos (by omega),if_neg fun a=>?_]
  ·unfold chain_tables.j3
   simp
  ·obtain ⟨m,hm,e,gm⟩:=(hr _).1 a
   exact g (dv_inj h hm hj e ▸ gm)
 ·intro n
  rw [chain_tables.l3,if_neg (by omega)]
  unfold chain_tables.j3
  simp
theorem tables_l0 (hk:1000<k) (hp:PIn p) (hd:DevsOk p.Devices) (h:IdsOk p):∀(n t:Nat) (mb:List (Int×Bool)) (G:Nat→Bool),t≤p.Tables.length→p.Tables.length-t<n→Rel p mb G→(∃rank R,M.Inv p.Tables.length (E p) (B p) G rank R)→(Fine p→M.undone p.Tables.length G≤p.Tables.length-t)→Says (chain_tables.l0 p k n t mb) (Fine p)
 |0,t,mb,G,_,h,_,_,_=>by omega
 |n+1,t,mb,G,ht,hn,hr,hi,hu=>by
  have hl:=hp.tabs_len
  rw [chain_tables.l0]
  by_cases c:t<p.Tables.length
  ·rw [if_pos (by omega)]
   obtain ⟨mb',hr',e⟩:=tables_l1 hk hp hd h (G:=G) t (chain_tables.l0 p k n) k 0 mb (by omega) (by omega) hr
   have e:chain_tables.l1 p k (t:Int) (chain_tables.l0 p k n) k 0 mb=chain_tables.l0 p k n (w64 ((t:Int)+1)) mb':=e
   rw [e,w64_succ c (by omega)]
   refine tables_l0 hk hp hd h n (t+1) mb' _ (by omega) (by omega) hr' (M.inv_pass hi _ (Nat.le_refl _)) fun w=>?_
   have hu:=hu w
   by_cases a:∃i,i<p.Tables.length∧G i=false
   ·have:=M.undone_less (M.progress w a)
    omega
   ·have:M.undone p.Tables.length (M.pass p.Tables.length (E p) (B p) G p.Tables.length)=0:=by
     have q:M.undone p.Tables.length (M.pass p.Tables.length (E p) (B p) G p.Tables.length)≤M.cnt (fun _=>False) p.Tables.length:=M.cnt_mono (P:=fun i=>M.pass p.Tables.length (E p) (B p) G p.Tables.length i=false) (Q:=fun _=>False) p.Tables.length fun i hi q=>a ⟨i,hi,by
      cases x:G i
      ·rfl
      ·rw [M.pass_mono x] at q;simp at q⟩
     have z:∀n,M.cnt (fun _=>False) n=0:=fun n=>by
      induction n with
      |zero=>rfl
      |succ n ih=>unfold M.cnt;simp [ih]
     rw [z] at q
     omega
    omega
  ·rw [if_neg (by omega)]
   refine Says.iff (tables_l3 hk hp h hr) ⟨fun a=>M.inv_good hi a,fun w i hil=>?_⟩
   have:=hu w
   have z:M.undone p.Tables.length G=0:=by omega
   have:=M.cnt_zero (P:=fun i=>G i=false) p.Tables.length z i hil
   simpa using this
theorem tables_says (hk:1000<k) (hp:PIn p) (hd:DevsOk p.Devices) (h:IdsOk p):Says (chain_tables.f k p) (Fine p):=by
 have hl:=hp.tabs_len
 refine tables_l0 hk hp hd h k 0 [] (fun _=>false) (by omega) (by omega) (fun d=>?_) M.inv_none fun _=>M.cnt_le _ _
 simp [mget]
end Go.Proofs.YtnaajldlloglkaaGreatDoor.W
namespace Go.Proofs.YtnaajldlloglkaaGreatDoor.W
open Go.H
variable {p:Pool} {k:Nat}
theorem ref_Table_spot (hk:1000<k) (hp:PIn p) (id:Int):
 (∃m:Nat,m<p.Tables.length∧dv p m=id∧r9_Table.f k p id=some (m:Int))∨((∀m:Nat,m<p.Tables.length→dv p m≠id)∧r9_Table.f k p id=some (-1)):=
 ref_Table_l0 hp.tabs_len k 0 (by have:=hp.tabs_len;omega) (by have:=hp.tabs_len;omega) fun m h=>by omega
structure RelL (p:Pool) (lt:List Bool) (G:Nat→Bool):Prop where
 len:lt.length=p.Tables.length
 all:∀j:Nat,j<p.Tables.length→rd lt (j:Int)=G j
theorem rd_setB {α:Type} [Inhabited α] {l:List α} {i s:Nat} {v:α} (hi:i<l.length) (hs:s<l.length):rd (l.set i v) (s:Int)=if s=i then v else rd l (s:Int):=by
 rw [rd_nat (by rw [List.length_set];exact hs),rd_nat hs,List.getElem_set]
 by_cases c:i=s
 ·rw [if_pos c,if_pos c.symm]
 ·rw [if_neg c,if_neg fun e=>c e.symm]
def Qe (p:Pool) (lt:List Bool) (d:Int):Prop:=∀m:Nat,m<p.Tables.length→dv p m=d→rd lt (m:Int)=true
theorem round_l2 (hk:1000<k) (hp:PIn p) (h:IdsOk p) {i:Nat} (hi:i<p.Tables.length) {lt:List Bool} (hlt:lt.length=p.Tables.length) (bt:Bool) (re:List Bool→Bool→Int→Option Bool):∀(n j:Nat) (b:Bool),j≤(ls p i).length→(ls p i).length-j<n→(b=true↔∀x∈(ls p i).take j,Qe p lt x.Dev)→
 ((∀x∈ls p i,Qe p lt x.Dev)→r9_round.l2 p k bt i lt re n b j=re (lt.set i true) true (w64 ((i:Int)+1)))∧(¬(∀x∈ls p i,Qe p lt x.Dev)→r9_round.l2 p k bt i lt re n b j=re lt bt (w64 ((i:Int)+1)))
 |0,j,b,_,h,_=>by omega
 |n+1,j,b,hj,hn,hb=>by
  have hl:(ls p i).length≤1000:=hp.tabs _ (rd_mem hi)
  rw [r9_round.l2,if_pos (by omega)]
  by_cases c:j<(ls p i).length
  ·rw [if_pos (show (j:Int)<((ls p i).length:Int) by omega),if_pos (by omega),if_pos (show 0≤(j:Int)∧(j:Int)<((ls p i).length:Int) by omega)]
   have tk:(ls p i).take (j+1)=(ls p i).take j++[rd (ls p i) (j:Int)]:=by rw [List.take_succ_eq_append_getElem c,rd_nat c]
   have go:∀b':Bool,(b'=true↔b=true∧Qe p lt (rd (ls p i) (j:Int)).Dev)→((∀x∈ls p i,Qe p lt x.Dev)→r9_round.j1 (j:Int) (r9_round.l2 p k bt i lt re n) b'=re (lt.set i true) true (w64 ((i:Int)+1)))∧(¬(∀x∈ls p i,Qe p lt x.Dev)→r9_round.j1 (j:Int) (r9_round.l2 p k bt i lt re n) b'=re lt bt (w64 ((i:Int)+1))):=by
    intro b' hb'
    unfold r9_round.j1
    rw [w64_succ c (by omega)]
    refine round_l2 hk hp h hi hlt bt re n (j+1) b' (by omega) (by omega) ?_
    rw [hb',hb,tk]
    simp only [List.mem_append,List.mem_singleton]
    constructor
    ·intro ⟨a1,a2⟩ x hx
     rcases hx with hx|hx
     ·exact a1 x hx
     ·rw [hx];exact a2
    ·intro a
     exact ⟨fun x hx=>a x (.inl hx),a _ (.inr rfl)⟩
   rcases ref_Table_spot hk hp (rd (ls p i) (j:Int)).Dev with ⟨m,hm,e,f⟩|⟨a,f⟩
   ·have f:r9_Table.f k p (rd ((rd p.Tables (i:Int)).List_) (j:Int)).Dev=some (m:Int):=f
    rw [f]
    simp only [Option.bind_some]
    have qe:Qe p lt (rd (ls p i) (j:Int)).Dev↔rd lt (m:Int)=true:=by
     constructor
     ·intro q;exact q m hm e
     ·intro q m' hm' e'
      rw [dv_inj h hm' hm (e'.trans e.symm)];exact q
    cases b
    ·rw [if_neg (by simp)]
     exact go false (by simp)
    ·rw [if_pos rfl,if_neg (by omega),if_pos (by omega)]
     exact go _ (by rw [qe];simp)
   ·have f:r9_Table.f k p (rd ((rd p.Tables (i:Int)).List_) (j:Int)).Dev=some (-1):=f
    rw [f]
    simp only [Option.bind_some]
    have qe:Qe p lt (rd (ls p i) (j:Int)).Dev:=fun m hm e=>absurd e (a m hm)
    cases b
    ·rw [if_neg (by simp)]
     exact go false (by simp)
    ·rw [if_pos rfl,if_pos (by omega)]
     exact go true (by simp [qe])
  ·rw [if_neg (show ¬(j:Int)<((ls p i).length:Int) by omega)]
   have:j=(ls p i).length:=by omega
   subst this
   rw [List.take_length] at hb
   unfold r9_round.j0
   constructor
   ·intro a
    rw [if_pos (hb.2 a),if_pos (by omega),Int.toNat_natCast]
   ·intro a
    rw [if_neg fun z=>a (hb.1 z)]
theorem ready_L (h:IdsOk p) (known:∀i,i<p.Tables.length→¬B p i) {lt:List Bool} {G:Nat→Bool} (hr:RelL p lt G) {i:Nat} (hi:i<p.Tables.length):M.Ready p.Tables.length (E p) (B p) G i↔∀x∈ls p i,Qe p lt x.Dev:=by
 constructor
 ·intro ⟨_,a⟩ x hx m hm e
  rw [hr.all m hm]
  exact a m hm ⟨x,hx,e.symm⟩
 ·intro a
  refine ⟨known i hi,fun m hm ⟨x,hx,e⟩=>?_⟩
  rw [←hr.all m hm]
  exact a x hx m hm e.symm
theorem round_l1 (hk:1000<k) (hp:PIn p) (h:IdsOk p) (known:∀i,i<p.Tables.length→¬B p i) {G:Nat→Bool} (re:List Bool→Bool→Option Bool):∀(n i:Nat) (lt:List Bool) (bt:Bool),i≤p.Tables.length→p.Tables.length-i<n→RelL p lt (M.pass p.Tables.length (E p) (B p) G i)→(bt=true↔∃j,j<p.Tables.length∧G j=false∧M.pass p.Tables.length (E p) (B p) G i j=true)→
 ∃lt' bt',RelL p lt' (M.pass p.Tables.length (E p) (B p) G p.Tables.length)∧(bt'=true↔∃j,j<p.Tables.length∧G j=false∧M.pass p.Tables.length (E p) (B p) G p.Tables.length j=true)∧r9_round.l1 p k re n lt bt i=re lt' bt'
 |0,i,lt,bt,_,h,_,_=>by omega
 |n+1,i,lt,bt,hi,hn,hr,hb=>by
  have hl:=hp.tabs_len
  have hlt:=hr.len
  rw [r9_round.l1]
  by_cases c:i<p.Tables.length
  ·rw [if_pos (by omega),if_pos (by omega)]
   have same:M.step p.Tables.length (E p) (B p) (M.pass p.Tables.length (E p) (B p) G i) i i=M.pass p.Tables.length (E p) (B p) G i i→∀j,M.pass p.Tables.length (E p) (B p) G (i+1) j=M.pass p.Tables.length (E p) (B p) G i j:=by
    intro s j
    by_cases d:j=i
    ·rw [d];exact s
    ·show M.step p.Tables.length (E p) (B p) (M.pass p.Tables.length (E p) (B p) G i) i j=_
     unfold M.step
     rw [if_neg d]
   by_cases g:rd lt (i:Int)=true
   ·rw [if_pos g]
    unfold r9_round.j0
    rw [w64_succ c (by omega)]
    rw [hr.all i c] at g
    have s:=same ((M.step_mono g).trans g.symm)
    exact round_l1 hk hp h known re n (i+1) lt bt (by omega) (by omega) ⟨hlt,fun j hj=>(hr.all j hj).trans (s j).symm⟩ (by simp only [s];exact hb)
   ·rw [if_neg g]
    have q:=round_l2 hk hp h c hlt bt (r9_round.l1 p k re n) k 0 true (by omega) (by have:(ls p i).length≤1000:=hp.tabs _ (rd_mem c);omega) (by simp)
    have q:((∀x∈ls p i,Qe p lt x.Dev)→r9_round.l2 p k bt i lt (r9_round.l1 p k re n) k true 0=r9_round.l1 p k re n (lt.set i true) true (w64 ((i:Int)+1)))∧(¬(∀x∈ls p i,Qe p lt x.Dev)→r9_round.l2 p k bt i lt (r9_round.l1 p k re n) k true 0=r9_round.l1 p k re n lt bt (w64 ((i:Int)+1))):=q
    rw [←ready_L h known hr c] at q
    by_cases r:M.Ready p.Tables.length (E p) (B p) (M.pass p.Tables.length (E p) (B p) G i) i
    ·rw [q.1 r,w64_succ c (by omega)]
     have gi:G i=false:=by
      rw [hr.all i c,M.pass_later i (Nat.le_refl _)] at g
      simpa using g
     refine round_l1 hk hp h known re n (i+1) _ true (by omega) (by omega) ⟨by rw [List.length_set];exact hlt,fun j hj=>?_⟩ ?_
     ·rw [rd_setB (by omega) (by omega)]
      by_cases d:j=i
      ·rw [if_pos d,d];exact (M.step_ready r).symm
      ·rw [if_neg d,hr.all j hj]
       show _=M.step p.Tables.length (E p) (B p) (M.pass p.Tables.length (E p) (B p) G i) i j
       unfold M.step
       rw [if_neg d]
     ·simp only [true_iff]
      exact ⟨i,c,gi,M.step_ready r⟩
    ·rw [q.2 r,w64_succ c (by omega)]
     have s:=same (M.step_not r)
     exact round_l1 hk hp h known re n (i+1) lt bt (by omega) (by omega) ⟨hlt,fun j hj=>(hr.all j hj).trans (s j).symm⟩ (by simp only [s];exact hb)
  ·rw [if_neg (by omega)]
   have:i=p.Tables.length:=by omega
   subst this
   exact ⟨lt,bt,hr,hb,rfl⟩
theorem round_l3 (hk:1000<k) (hp:PIn p) {G:Nat→Bool} {lt:List Bool} (hr:RelL p lt G):Says (r9_round.l3 lt k 0) (¬∀i,i<p.Tables.length→G i=true):=by
 have hl:=hp.tabs_len
 have hlt:=hr.len
 have q:=loop_says (f:=r9_round.l3 lt) (len:=lt.length) (E:=some false) (F:=some true) (P:=fun j=>G j=true) ?_ ?_ ?_ k 0 (by omega) (by omega)
 ·refine ⟨fun a=>q.2 fun b=>a fun j hj=>b j (by omega) (by omega),fun a=>q.1 fun j _ hj=>Classical.byContradiction fun g=>a fun b=>g (b j (by omega))⟩
 ·intro n j hj g
  rw [r9_round.l3,if_pos (by omega),if_pos (by omega),if_pos (by rw [hr.all j (by omega)];exact g),w64_succ hj (by omega)]
 ·intro n j hj g
  rw [r9_round.l3,if_pos (by omega),if_pos (by omega),if_neg (by rw [hr.all j (by omega)];exact g)]
 ·intro n
  rw [r9_round.l3,if_neg (by omega)]
theorem round_l0 (hk:1000<k) (hp:PIn p) (h:IdsOk p) (known:∀i,i<p.Tables.length→¬B p i):∀(n:Nat) (lt:List Bool) (G:Nat→Bool),M.undone p.Tables.length G+1<n→RelL p lt G→(∃rank R,M.Inv p.Tables.length (E p) (B p) G rank R)→Says (r9_round.l0 p k n lt true) (¬Fine p)
 |0,lt,G,h,_,_=>by omega
 |n+1,lt,G,hn,hr,hi=>by
  have hl:=hp.tabs_len
  rw [r9_round.l0,if_pos rfl]
  obtain ⟨lt',bt',hr',hb',e⟩:=round_l1 hk hp h known (G:=G) (r9_round.l0 p k n) k 0 lt false (by omega) (by omega) hr (by
   simp only [Bool.false_eq_true,false_iff]
   intro ⟨j,hj,a,b⟩
   have b:G j=true:=b
   rw [a] at b;simp at b)
  have e:r9_round.l1 p k (r9_round.l0 p k n) k lt false 0=r9_round.l0 p k n lt' bt':=e
  rw [e]
  cases bt'
  ·match n with
   |0=>omega
   |n+1=>
    rw [r9_round.l0,if_neg (by simp)]
    refine Says.iff (round_l3 hk hp hr') ⟨fun a w=>?_,fun w a=>w (M.inv_good (M.inv_pass hi _ (Nat.le_refl _)) a)⟩
    by_cases b:∃i,i<p.Tables.length∧G i=false
    ·have:=hb'.2 (M.progress w b)
     simp at this
    ·refine a fun i hil=>M.pass_mono ?_ _
     cases x:G i
     ·exact absurd ⟨i,hil,x⟩ b
     ·rfl
  ·have:=M.undone_less (hb'.1 rfl)
   exact round_l0 hk hp h known n lt' _ (by omega) hr' (M.inv_pass hi _ (Nat.le_refl _))
theorem round_says (hk:1100<k) (hp:PIn p) (h:IdsOk p) (known:∀i,i<p.Tables.length→¬B p i):Says (r9_round.f k p) (¬Fine p):=by
 have hl:=hp.tabs_len
 unfold r9_round.f
 rw [if_pos (by omega),Int.toNat_natCast]
 have:=M.cnt_le (fun i=>(fun _=>false:Nat→Bool) i=false) p.Tables.length
 refine round_l0 (by omega) hp h known k _ (fun _=>false) (by unfold M.undone;omega) ⟨by simp,fun j hj=>?_⟩ M.inv_none
 rw [rd_nat (by simpa using hj)]
 simp
end Go.Proofs.YtnaajldlloglkaaGreatDoor.W
namespace Go.Proofs.YtnaajldlloglkaaGreatDoor.W
open Go.H
variable {p:Pool} {k:Nat}
structure Begun (p:Pool) (m:Nat):Prop where
 lt:m<p.Devices.length
 id:(rd p.Devices (m:Int)).ID=p.Job.Dev
 at0:0≤p.Job.At
 at1:p.Job.At<(rd p.Devices (m:Int)).Size
 dev:p.Job.Table.Dev=p.Job.Dev
 size:p.Job.Table.Size=(rd p.Devices (m:Int)).Size
 tab:T.tabOk' p.Job.Table=true
 list:∀x∈p.Job.Table.List_,x.From+x.Len≤p.Job.At∧IsDev p x.Dev
structure Idle (p:Pool):Prop where
 dev:p.Job.Dev=0
 at0:p.Job.At=0
 tab:p.Job.Table=⟨0,0,[]⟩
def JobOk (p:Pool):Prop:=Idle p∨∃m,Begun p m
theorem dev_id (h:DevsOk p.Devices) {m:Nat} (hm:m<p.Devices.length):1≤(rd p.Devices (m:Int)).ID∧(rd p.Devices (m:Int)).ID≤40:=(h.2 m (by omega) hm).1.id
theorem dev_ok (h:DevsOk p.Devices) {m:Nat} (hm:m<p.Devices.length):DevOk (rd p.Devices (m:Int)):=(h.2 m (by omega) hm).1
theorem dev_asc (h:DevsOk p.Devices):∀j:Nat,j<p.Devices.length→0<j→(rd p.Devices ((j-1:Nat):Int)).ID<(rd p.Devices (j:Int)).ID:=fun j hj z=>(h.2 j (by omega) hj).2 z
theorem dev_inj (h:DevsOk p.Devices) {i j:Nat} (hi:i<p.Devices.length) (hj:j<p.Devices.length) (e:(rd p.Devices (i:Int)).ID=(rd p.Devices (j:Int)).ID):i=j:=
 asc_inj (g:=fun m=>(rd p.Devices (m:Int)).ID) (dev_asc h) hi hj e
theorem not_begun (h:DevsOk p.Devices) (z:p.Job.Dev=0) {m:Nat}:¬Begun p m:=fun b=>by
 have:=dev_id h b.lt
 have:=b.id
 omega
theorem ref_At_in (hk:1000<k) (h:DevsOk p.Devices) {m:Nat} (hm:m<p.Devices.length) {id:Int} (e:(rd p.Devices (m:Int)).ID=id):r7_At.f k p.Devices id=some (m:Int):=by
 have:=h.1
 rcases ref_At_spot (l:=p.Devices) hk (by omega) id with ⟨m',hm',e',f⟩|⟨a,f⟩
 ·rw [f,dev_inj h hm' hm (e'.trans e.symm)]
 ·exact absurd e (a m hm)
theorem ref_At_out (hk:1000<k) (h:DevsOk p.Devices) {id:Int} (n:¬IsDev p id):r7_At.f k p.Devices id=some (-1):=by
 have:=h.1
 rcases ref_At_spot (l:=p.Devices) hk (by omega) id with ⟨m',hm',e',f⟩|⟨a,f⟩
 ·exact absurd ⟨m',hm',e'⟩ n
 ·exact f
theorem find_in (hk:1000<k) (h:DevsOk p.Devices) {m:Nat} (hm:m<p.Devices.length) {id:Int} (i0: -9223372036854775808≤id) (i1:id<9223372036854775808) (e:(rd p.Devices (m:Int)).ID=id):room_Find.f k p.Devices id=some ((m:Int),true):=by
 rcases room_Find_spot hk h i0 i1 with ⟨m',hm',e',f⟩|⟨a,m',f⟩
 ·rw [f,dev_inj h hm' hm (e'.trans e.symm)]
 ·exact absurd e (a m hm)
theorem find_out (hk:1000<k) (h:DevsOk p.Devices) {id:Int} (i0: -9223372036854775808≤id) (i1:id<9223372036854775808) (n:¬IsDev p id):∃m:Nat,room_Find.f k p.Devices id=some ((m:Int),false):=by
 rcases room_Find_spot hk h i0 i1 with ⟨m',hm',e',f⟩|⟨a,m',f⟩
 ·exact absurd ⟨m',hm',e'⟩ n
 ·exact ⟨m',f⟩
theorem job_ent {x:Entry} (t:T.tabOk' p.Job.Table=true) (hx:x∈p.Job.Table.List_):T.EntOk p.Job.Table.Dev p.Job.Table.Size x:=T.tab_elem (T.tabOk_iff.1 t).2 x hx
theorem job_says (hk:1000<k) (hp:PIn p) (h:DevsOk p.Devices):Says (chain_job.f k p) (JobOk p):=by
 have hl:=hp.job
 unfold chain_job.f chain_none.f
 have hno:¬Idle p→Says ((room_Find.f k p.Devices p.Job.Dev).bind fun y2=>(if y2.2=true then (if p.Job.At<0 then (chain_job.j0 p k true) else (if 0≤y2.1∧y2.1<(p.Devices.length:Int) then (if ((rd p.Devices y2.1).Size)≤p.Job.At then (chain_job.j0 p k true) else (if p.Job.Table.Dev=p.Job.Dev then (if 0≤y2.1∧y2.1<(p.Devices.length:Int) then (if p.Job.Table.Size=(rd p.Devices y2.1).Size then ((table_May.f k p.Job.Table).bind fun y3=>(chain_job.j0 p k (!y3))) else (chain_job.j0 p k true)) else none) else (chain_job.j0 p k true))) else none)) else (chain_job.j0 p k true))) (JobOk p):=by
  intro ni
  have jt:chain_job.j0 p k true=some false:=by unfold chain_job.j0;rw [if_pos rfl]
  have bad:(∀m,¬Begun p m)→¬JobOk p:=fun a b=>b.elim ni fun ⟨m,c⟩=>a m c
  by_cases a1:IsDev p p.Job.Dev
  ·obtain ⟨m,hm,e⟩:=a1
   have uniq:∀{m'},Begun p m'→m'=m:=fun b=>dev_inj h b.lt hm (b.id.trans e.symm)
   rw [find_in hk h hm hp.jobDev.1 hp.jobDev.2 e]
   simp only [Option.bind_some,if_true]
   by_cases a2:p.Job.At<0
   ·rw [if_pos a2,jt]
    exact ⟨fun g=>absurd g (bad fun m' b=>by have:=b.at0;omega),fun _=>rfl⟩
   rw [if_neg a2,if_pos (by omega)]
   by_cases a3:(rd p.Devices (m:Int)).Size≤p.Job.At
   ·rw [if_pos a3,jt]
    exact ⟨fun g=>absurd g (bad fun m' b=>by have:=uniq b;subst this;have:=b.at1;omega),fun _=>rfl⟩
   rw [if_neg a3]
   by_cases a4:p.Job.Table.Dev=p.Job.Dev
   ·rw [if_pos a4,if_pos (by omega)]
    by_cases a5:p.Job.Table.Size=(rd p.Devices (m:Int)).Size
    ·rw [if_pos a5,T.May_eq (by omega) (by omega)]
     simp only [Option.bind_some]
     by_cases a6:T.tabOk' p.Job.Table=true
     ·rw [a6]
      unfold chain_job.j0
      rw [if_neg (by simp)]
      have q:=loop_says (f:=chain_job.l0 p k) (len:=p.Job.Table.List_.length) (E:=some true) (F:=some false) (P:=fun j=>(rd p.Job.Table.List_ (j:Int)).From+(rd p.Job.Table.List_ (j:Int)).Len≤p.Job.At∧IsDev p (rd p.Job.Table.List_ (j:Int)).Dev) ?_ ?_ ?_ k 0 (by omega) (by omega)
      ·have i1:(∀j:Nat,0≤j→j<p.Job.Table.List_.length→(rd p.Job.Table.List_ (j:Int)).From+(rd p.Job.Table.List_ (j:Int)).Len≤p.Job.At∧IsDev p (rd p.Job.Table.List_ (j:Int)).Dev)→∀x∈p.Job.Table.List_,x.From+x.Len≤p.Job.At∧IsDev p x.Dev:=by
        intro a x hx
        obtain ⟨j,hj,ex⟩:=List.getElem_of_mem hx
        have:=a j (by omega) hj
        rw [rd_nat hj,ex] at this
        exact this
       refine ⟨fun g=>q.1 fun j _ hj=>?_,fun g=>q.2 fun a=>g (.inr ⟨m,hm,e,by omega,by omega,a4,a5,a6,i1 a⟩)⟩
       obtain ⟨m',b⟩:=g.resolve_left ni
       exact b.list _ (rd_mem hj)
      ·intro n j hj ho
       have eo:=job_ent a6 (rd_mem hj)
       have ts:=tab_dev a6
       unfold T.EntOk at eo
       rw [chain_job.l0,if_pos (by omega),if_pos (by omega),w64_id (x:=(rd p.Job.Table.List_ (j:Int)).From+(rd p.Job.Table.List_ (j:Int)).Len) (by omega) (by omega),if_neg (by omega),(device_says hk h (by omega) (by omega)).1 ho.2]
       unfold chain_job.j2
       simp only [Option.bind_some]
       rw [if_neg (by simp),w64_succ hj (by omega)]
      ·intro n j hj ho
       have eo:=job_ent a6 (rd_mem hj)
       have ts:=tab_dev a6
       unfold T.EntOk at eo
       rw [chain_job.l0,if_pos (by omega),if_pos (by omega),w64_id (x:=(rd p.Job.Table.List_ (j:Int)).From+(rd p.Job.Table.List_ (j:Int)).Len) (by omega) (by omega)]
       have jf:chain_job.j1 (j:Int)=some false:=by
        unfold chain_job.j1
        rw [decide_eq_true (by omega:(0:Int)≤(j:Int))]
        rfl
       by_cases b1:p.Job.At<(rd p.Job.Table.List_ (j:Int)).From+(rd p.Job.Table.List_ (j:Int)).Len
       ·rw [if_pos b1]
        unfold chain_job.j2
        rw [if_pos rfl,jf]
       ·rw [if_neg b1,(device_says hk h (by omega) (by omega)).2 fun g=>ho ⟨by omega,g⟩]
        unfold chain_job.j2
        simp only [Option.bind_some]
        rw [if_pos (by simp),jf]
      ·intro n
       rw [chain_job.l0,if_neg (by omega)]
       rfl
     ·rw [show T.tabOk' p.Job.Table=false by simpa using a6]
      rw [show (!false)=true from rfl,jt]
      exact ⟨fun g=>absurd g (bad fun m' b=>a6 b.tab),fun _=>rfl⟩
    ·rw [if_neg a5,jt]
     exact ⟨fun g=>absurd g (bad fun m' b=>by have:=uniq b;subst this;exact a5 b.size),fun _=>rfl⟩
   ·rw [if_neg a4,jt]
    exact ⟨fun g=>absurd g (bad fun m' b=>a4 b.dev),fun _=>rfl⟩
  ·obtain ⟨m,f⟩:=find_out hk h hp.jobDev.1 hp.jobDev.2 a1
   rw [f]
   simp only [Option.bind_some]
   rw [if_neg (by simp),jt]
   exact ⟨fun g=>absurd g (bad fun m' b=>a1 ⟨m',b.lt,b.id⟩),fun _=>rfl⟩
 by_cases a1:p.Job.Dev=0
 rw [if_pos a1]
 by_cases a2:p.Job.At=0
 rw [if_pos a2]
 by_cases a3:p.Job.Table.Dev=0
 rw [if_pos a3]
 by_cases a4:p.Job.Table.Size=0
 rw [if_pos a4]
 simp only [Option.bind_some]
 by_cases a5:(p.Job.Table.List_.length:Int)=0
 ·rw [if_pos (by simpa using a5)]
  have:p.Job.Table.List_=[]:=List.eq_nil_of_length_eq_zero (by omega)
  exact ⟨fun _=>rfl,fun g=>absurd (.inl ⟨a1,a2,by
   rw [show p.Job.Table=⟨p.Job.Table.Dev,p.Job.Table.Size,p.Job.Table.List_⟩ from rfl,a3,a4,this]⟩) g⟩
 ·rw [if_neg (by simpa using a5)]
  exact hno fun i=>a5 (by rw [i.tab];rfl)
 ·rw [if_neg a4]
  simp only [Option.bind_some]
  rw [if_neg (by simp)]
  exact hno fun i=>a4 (by rw [i.tab])
 ·rw [if_neg a3]
  simp only [Option.bind_some]
  rw [if_neg (by simp)]
  exact hno fun i=>a3 (by rw [i.tab])
 ·rw [if_neg a2]
  simp only [Option.bind_some]
  rw [if_neg (by simp)]
  exact hno fun i=>a2 i.at0
 ·rw [if_neg a1]
  simp only [Option.bind_some]
  rw [if_neg (by simp)]
  exact hno fun i=>a1 i.dev
theorem ref_job_says (hk:1000<k) (hp:PIn p) (h:DevsOk p.Devices):Says (r9_job.f k p) (JobOk p):=by
 have hl:=hp.job
 unfold r9_job.f
 by_cases z:p.Job.Dev=0
 ·rw [if_pos z]
  by_cases a2:p.Job.At=0
  ·rw [if_pos a2,T.EqT_eq hp.job hk]
   simp only [Option.bind_some]
   refine Says.iff says_dec ⟨fun a=>.inl ⟨z,a2,a⟩,fun a=>?_⟩
   rcases a with a|⟨m,a⟩
   ·exact a.tab
   ·exact absurd a (not_begun h z)
  ·rw [if_neg a2]
   refine ⟨fun a=>?_,fun _=>rfl⟩
   rcases a with a|⟨m,a⟩
   ·exact absurd a.at0 a2
   ·exact absurd a (not_begun h z)
 rw [if_neg z]
 have bad:(∀m,¬Begun p m)→¬JobOk p:=fun a b=>b.elim (fun i=>z i.dev) fun ⟨m,c⟩=>a m c
 have jt:r9_job.j0 p k true=some false:=by unfold r9_job.j0;rw [if_pos rfl]
 by_cases a1:IsDev p p.Job.Dev
 ·obtain ⟨m,hm,e⟩:=a1
  have uniq:∀{m'},Begun p m'→m'=m:=fun b=>dev_inj h b.lt hm (b.id.trans e.symm)
  have ds:=(dev_ok h hm).size
  rw [ref_At_in hk h hm e]
  simp only [Option.bind_some]
  rw [if_neg (by omega),if_pos (by omega),T.Num_eq,w64_id (x:=(rd p.Devices (m:Int)).Size-1) (by omega) (by omega)]
  simp only [Option.bind_some]
  by_cases a2:0≤p.Job.At∧p.Job.At≤(rd p.Devices (m:Int)).Size-1
  ·rw [if_pos (decide_eq_true a2),T.refTable_eq (by omega) (by omega)]
   simp only [Option.bind_some]
   by_cases a6:T.tabOk' p.Job.Table=true
   ·rw [if_pos a6]
    by_cases a4:p.Job.Table.Dev=p.Job.Dev
    ·rw [if_pos a4,if_pos (by omega)]
     by_cases a5:p.Job.Table.Size=(rd p.Devices (m:Int)).Size
     ·rw [if_pos a5,T.End_eq hp.job a6]
      simp only [Option.bind_some]
      have te:=fun x hx=>T.tab_end (T.tabOk_iff.1 a6).2 x hx
      by_cases a7:p.Job.At<T.endOf p.Job.Table.List_
      ·rw [decide_eq_true a7,jt]
       refine ⟨fun g=>absurd g (bad fun m' b=>?_),fun _=>rfl⟩
       rcases snoc_cases p.Job.Table.List_ with q|⟨l,x,q⟩
       ·rw [q] at a7
        have:p.Job.At<0:=a7
        omega
       ·have:=(b.list x (by rw [q];simp)).1
        rw [q,T.endOf_snoc] at a7
        omega
      ·rw [decide_eq_false a7]
       unfold r9_job.j0
       rw [if_neg (by simp)]
       have q:=loop_says (f:=r9_job.l0 p k) (len:=p.Job.Table.List_.length) (E:=some true) (F:=some false) (P:=fun j=>IsDev p (rd p.Job.Table.List_ (j:Int)).Dev) ?_ ?_ ?_ k 0 (by omega) (by omega)
       ·refine ⟨fun g=>q.1 fun j _ hj=>?_,fun g=>q.2 fun a=>g (.inr ⟨m,hm,e,by omega,by omega,a4,a5,a6,fun x hx=>?_⟩)⟩
        ·obtain ⟨m',b⟩:=g.resolve_left fun i=>z i.dev
         exact (b.list _ (rd_mem hj)).2
        ·obtain ⟨j,hj,ex⟩:=List.getElem_of_mem hx
         have b:=a j (by omega) hj
         rw [rd_nat hj,ex] at b
         exact ⟨by have:=(te x hx).1;omega,b⟩
       ·intro n j hj ⟨m',hm',e'⟩
        rw [r9_job.l0,if_pos (by omega),if_pos (by omega),ref_At_in hk h hm' e']
        simp only [Option.bind_some]
        rw [if_neg (by omega),w64_succ hj (by omega)]
       ·intro n j hj ho
        rw [r9_job.l0,if_pos (by omega),if_pos (by omega),ref_At_out hk h ho]
        simp only [Option.bind_some]
        rw [if_pos (by omega)]
       ·intro n
        rw [r9_job.l0,if_neg (by omega)]
     ·rw [if_neg a5,jt]
      exact ⟨fun g=>absurd g (bad fun m' b=>by have:=uniq b;subst this;exact a5 b.size),fun _=>rfl⟩
    ·rw [if_neg a4,jt]
     exact ⟨fun g=>absurd g (bad fun m' b=>a4 b.dev),fun _=>rfl⟩
   ·rw [if_neg a6,jt]
    exact ⟨fun g=>absurd g (bad fun m' b=>a6 b.tab),fun _=>rfl⟩
  ·rw [if_neg (by simpa using a2),jt]
   exact ⟨fun g=>absurd g (bad fun m' b=>by have:=uniq b;subst this;have:=b.at0;have:=b.at1;omega),fun _=>rfl⟩
 ·rw [ref_At_out hk h a1]
  simp only [Option.bind_some]
  rw [if_pos (by omega),jt]
  exact ⟨fun g=>absurd g (bad fun m' b=>a1 ⟨m',b.lt,b.id⟩),fun _=>rfl⟩
end Go.Proofs.YtnaajldlloglkaaGreatDoor.W
namespace Go.Proofs.YtnaajldlloglkaaGreatDoor.W
open Go.H
variable {p:Pool} {k:Nat}
def Other (p:Pool):Prop:=∃m:Nat,m<p.Devices.length∧(rd p.Devices (m:Int)).ID≠p.Job.Dev
structure PoolOk (p:Pool):Prop where
 devs:DevsOk p.Devices
 len:p.Tables.length≤12
 jobLen:p.Job.Dev≠0→p.Tables.length<12
 ids:IdsOk p
 fine:Fine p
 job:JobOk p
 other:Other p
theorem other_says (hk:1000<k) (h:DevsOk p.Devices):Says (chain_May.l0 p k 0) (Other p):=by
 have hd:=h.1
 have q:=loop_says (f:=chain_May.l0 p) (len:=p.Devices.length) (E:=some false) (F:=some true) (P:=fun j=>(rd p.Devices (j:Int)).ID=p.Job.Dev) ?_ ?_ ?_ k 0 (by omega) (by omega)
 ·refine ⟨fun ⟨m,hm,e⟩=>q.2 fun a=>e (a m (by omega) hm),fun a=>q.1 fun j _ hj=>Classical.byContradiction fun e=>a ⟨j,hj,e⟩⟩
 ·intro n j hj e
  rw [chain_May.l0,if_pos (by omega),if_pos (by omega),if_pos e,w64_succ hj (by omega)]
 ·intro n j hj e
  rw [chain_May.l0,if_pos (by omega),if_pos (by omega),if_neg e]
  unfold chain_May.j1
  rw [decide_eq_true (by omega:(0:Int)≤(j:Int))]
 ·intro n
  rw [chain_May.l0,if_neg (by omega)]
  rfl
theorem May_says (hk:1000<k) (hp:PIn p):Says (chain_May.f k p) (PoolOk p):=by
 unfold chain_May.f
 have jt:chain_May.j0 p k true=some false:=by unfold chain_May.j0;rw [if_pos rfl]
 by_cases a1:DevsOk p.Devices
 ·rw [(room_May_says hk hp.devs).1 a1]
  simp only [Option.bind_some,if_true]
  by_cases a2:12<(p.Tables.length:Int)
  ·rw [if_pos a2,jt]
   exact ⟨fun g=>by have:=g.len;omega,fun _=>rfl⟩
  rw [if_neg a2]
  have tail:(p.Job.Dev≠0→p.Tables.length<12)→Says ((chain_ids.f k p).bind fun y2=>(if y2=true then ((chain_tables.f k p).bind fun y3=>(if y3=true then ((chain_job.f k p).bind fun y4=>(chain_May.j0 p k (!y4))) else (chain_May.j0 p k true))) else (chain_May.j0 p k true))) (PoolOk p):=by
   intro hj
   by_cases b1:IdsOk p
   ·rw [(ids_says hk hp a1).1 b1]
    simp only [Option.bind_some,if_true]
    by_cases b2:Fine p
    ·rw [(tables_says hk hp a1 b1).1 b2]
     simp only [Option.bind_some,if_true]
     by_cases b3:JobOk p
     ·rw [(job_says hk hp a1).1 b3]
      unfold chain_May.j0
      simp only [Option.bind_some]
      rw [if_neg (by simp)]
      exact Says.iff (other_says hk a1) ⟨fun o=>⟨a1,by omega,hj,b1,b2,b3,o⟩,fun g=>g.other⟩
     ·rw [(job_says hk hp a1).2 b3]
      simp only [Option.bind_some]
      rw [show (!false)=true from rfl,jt]
      exact ⟨fun g=>absurd g.job b3,fun _=>rfl⟩
    ·rw [(tables_says hk hp a1 b1).2 b2]
     simp only [Option.bind_some]
     rw [if_neg (by simp),jt]
     exact ⟨fun g=>absurd g.fine b2,fun _=>rfl⟩
   ·rw [(ids_says hk hp a1).2 b1]
    simp only [Option.bind_some]
    rw [if_neg (by simp),jt]
    exact ⟨fun g=>absurd g.ids b1,fun _=>rfl⟩
  by_cases a3:p.Job.Dev=0
  ·rw [if_pos a3]
   exact tail fun z=>absurd a3 z
  ·rw [if_neg a3]
   by_cases a4:12≤(p.Tables.length:Int)
   ·rw [if_pos a4,jt]
    exact ⟨fun g=>by have:=g.jobLen a3;omega,fun _=>rfl⟩
   ·rw [if_neg a4]
    exact tail fun _=>by omega
 ·rw [(room_May_says hk hp.devs).2 a1]
  simp only [Option.bind_some]
  rw [if_neg (by simp),jt]
  exact ⟨fun g=>absurd g.devs a1,fun _=>rfl⟩
theorem ref_Pool_l3 (hk:1000<k) (hp:PIn p) (hd:DevsOk p.Devices) (h:IdsOk p) {i:Nat} (hi:i<p.Tables.length) (re:Int→Option Bool):
 (¬B p i→r9_Pool.l3 p k i re k 0=re (w64 ((i:Int)+1)))∧(B p i→r9_Pool.l3 p k i re k 0=some false):=by
 have hl:(ls p i).length≤1000:=hp.tabs _ (rd_mem hi)
 have q:=loop_says (f:=r9_Pool.l3 p k i re) (len:=(ls p i).length) (E:=re (w64 ((i:Int)+1))) (F:=some false) (P:=fun j=>IsDev p (rd (ls p i) (j:Int)).Dev∨IsTab p (rd (ls p i) (j:Int)).Dev) ?_ ?_ ?_ k 0 (by omega) (by omega)
 ·refine ⟨fun nb=>q.1 fun j _ hj=>Classical.byContradiction fun a=>nb ⟨_,rd_mem hj,fun b=>a (.inl b),fun b=>a (.inr b)⟩,fun ⟨x,hx,b1,b2⟩=>q.2 fun a=>?_⟩
  obtain ⟨j,hj,ex⟩:=List.getElem_of_mem hx
  have b:=a j (by omega) hj
  rw [rd_nat hj,ex] at b
  exact b.elim b1 b2
 ·intro n j hj ho
  rw [r9_Pool.l3,if_pos (by omega),if_pos (show (j:Int)<((ls p i).length:Int) by omega),if_pos (by omega),if_pos (show 0≤(j:Int)∧(j:Int)<((ls p i).length:Int) by omega)]
  unfold r9_Pool.j3
  by_cases a:IsDev p (rd (ls p i) (j:Int)).Dev
  ·obtain ⟨m,hm,e⟩:=a
   rw [ref_At_in hk hd hm e]
   simp only [Option.bind_some]
   rw [if_neg (by omega),if_neg (by simp),w64_succ hj (by omega)]
  ·rw [ref_At_out hk hd a]
   simp only [Option.bind_some]
   rw [if_pos (by omega)]
   obtain ⟨m,hm,e⟩:=ho.resolve_left a
   rcases ref_Table_spot hk hp (rd (ls p i) (j:Int)).Dev with ⟨m',hm',e',f⟩|⟨b,f⟩
   ·rw [f]
    simp only [Option.bind_some]
    rw [if_neg (by simp only [decide_eq_true_eq];omega),w64_succ hj (by omega)]
   ·exact absurd e (b m hm)
 ·intro n j hj ho
  rw [r9_Pool.l3,if_pos (by omega),if_pos (show (j:Int)<((ls p i).length:Int) by omega),if_pos (by omega),if_pos (show 0≤(j:Int)∧(j:Int)<((ls p i).length:Int) by omega)]
  unfold r9_Pool.j3
  rw [ref_At_out hk hd fun b=>ho (.inl b)]
  simp only [Option.bind_some]
  rw [if_pos (by omega)]
  rcases ref_Table_spot hk hp (rd (ls p i) (j:Int)).Dev with ⟨m',hm',e',f⟩|⟨b,f⟩
  ·exact absurd (.inr ⟨m',hm',e'⟩) ho
  ·rw [f]
   simp only [Option.bind_some]
   rw [if_pos (by simp)]
 ·intro n
  rw [r9_Pool.l3,if_pos (by omega),if_neg (show ¬((ls p i).length:Int)<((ls p i).length:Int) by omega)]
theorem ref_Pool_l2 (hk:1100<k) (hp:PIn p) (hd:DevsOk p.Devices) (h:IdsOk p) {c:Nat} (hc:0<c↔Other p):Says (r9_Pool.l2 p k c k 0) (Fine p∧JobOk p∧Other p):=by
 have hl:=hp.tabs_len
 have q:=loop_says (f:=r9_Pool.l2 p k c) (len:=p.Tables.length) (E:=(if 0<(c:Int) then ((r9_round.f k p).bind fun y9=>(if y9=true then (some false) else ((r9_job.f k p).bind fun y10=>(some y10)))) else (some false))) (F:=some false) (P:=fun j=>¬B p j) ?_ ?_ ?_ k 0 (by omega) (by omega)
 ·by_cases a:∀i,i<p.Tables.length→¬B p i
  ·have q1:=q.1 fun j _ hj=>a j hj
   have q1:r9_Pool.l2 p k c k 0=(if 0<(c:Int) then ((r9_round.f k p).bind fun y9=>(if y9=true then (some false) else ((r9_job.f k p).bind fun y10=>(some y10)))) else (some false)):=q1
   rw [q1]
   by_cases o:Other p
   ·rw [if_pos (by have:=hc.2 o;omega)]
    by_cases b:Fine p
    ·rw [(round_says hk hp h a).2 fun z=>z b]
     simp only [Option.bind_some]
     rw [if_neg (by simp)]
     by_cases j:JobOk p
     ·rw [(ref_job_says (by omega) hp hd).1 j]
      exact ⟨fun _=>rfl,fun g=>absurd ⟨b,j,o⟩ g⟩
     ·rw [(ref_job_says (by omega) hp hd).2 j]
      exact ⟨fun g=>absurd g.2.1 j,fun _=>rfl⟩
    ·rw [(round_says hk hp h a).1 b]
     simp only [Option.bind_some]
     rw [if_pos trivial]
     exact ⟨fun g=>absurd g.1 b,fun _=>rfl⟩
   ·have z:¬0<c:=fun z=>o (hc.1 z)
    rw [if_neg (by omega)]
    exact ⟨fun g=>absurd g.2.2 o,fun _=>rfl⟩
  ·have q2:=q.2 fun b=>a fun i hi=>b i (by omega) hi
   refine ⟨fun ⟨⟨r,g⟩,_⟩=>absurd (fun i hi=>(g i hi).1) a,fun _=>q2⟩
 ·intro n j hj ho
  rw [r9_Pool.l2,if_pos (by omega),(ref_Pool_l3 (by omega) hp hd h hj _).1 ho,w64_succ hj (by omega)]
 ·intro n j hj ho
  rw [r9_Pool.l2,if_pos (by omega),(ref_Pool_l3 (by omega) hp hd h hj _).2 (Classical.byContradiction ho)]
 ·intro n
  rw [r9_Pool.l2,if_neg (by omega)]
theorem ref_Pool_l1 (hk:1100<k) (hp:PIn p) (hd:DevsOk p.Devices) (c:Int):((∀j:Nat,0≤j→j<p.Tables.length→TabsOk p j)→r9_Pool.l1 p k c k 0=r9_Pool.l2 p k c k 0)∧(¬(∀j:Nat,0≤j→j<p.Tables.length→TabsOk p j)→r9_Pool.l1 p k c k 0=some false):=by
 have hl:=hp.tabs_len
 refine loop_says (f:=r9_Pool.l1 p k c) (len:=p.Tables.length) (E:=r9_Pool.l2 p k c k 0) (F:=some false) (P:=fun j=>TabsOk p j) ?_ ?_ ?_ k 0 (by omega) (by omega)
 ·intro n i hi ho
  have hm:=hp.tabs _ (rd_mem hi)
  rw [r9_Pool.l1,if_pos (by omega),if_pos (by omega),T.refTable_eq (by omega) (by omega),ho.ok]
  simp only [Option.bind_some,if_true]
  have:=ho.next
  rw [if_neg (by omega),ref_At_out (by omega) hd ho.dev]
  unfold r9_Pool.j2
  simp only [Option.bind_some]
  rcases Nat.eq_zero_or_pos i with z|z
  ·rw [if_neg (by omega),if_neg (by simp),w64_succ hi (by omega)]
  ·have:=ho.asc z
   rw [if_pos (by omega),w64_pred z (Nat.le_of_lt hi) (by omega),if_pos (by omega),if_neg (by omega),if_neg (by simp),w64_succ hi (by omega)]
 ·intro n i hi ho
  have hm:=hp.tabs _ (rd_mem hi)
  rw [r9_Pool.l1,if_pos (by omega),if_pos (by omega),T.refTable_eq (by omega) (by omega)]
  simp only [Option.bind_some]
  have jt:∀re,r9_Pool.j2 (i:Int) re true=some false:=fun re=>by unfold r9_Pool.j2;rw [if_pos rfl]
  by_cases a1:T.tabOk' (rd p.Tables (i:Int))=true
  ·rw [if_pos a1]
   by_cases a3:p.Next≤(rd p.Tables (i:Int)).Dev
   ·rw [if_pos a3,jt]
   ·rw [if_neg a3]
    have at_:∀re,IsDev p (rd p.Tables (i:Int)).Dev→((r7_At.f k p.Devices (rd p.Tables (i:Int)).Dev).bind fun y6=>(r9_Pool.j2 (i:Int) re (decide (0≤y6))))=some false:=fun re ⟨m,hm,e⟩=>by
     rw [ref_At_in (by omega) hd hm e]
     simp only [Option.bind_some]
     rw [decide_eq_true (by omega:(0:Int)≤(m:Int)),jt]
    rcases Nat.eq_zero_or_pos i with z|z
    ·rw [if_neg (by omega)]
     exact at_ _ (Classical.byContradiction fun a2=>ho ⟨a1,a2,by omega,fun y=>by omega⟩)
    ·rw [if_pos (by omega),w64_pred z (Nat.le_of_lt hi) (by omega),if_pos (by omega)]
     by_cases a4:(rd p.Tables (i:Int)).Dev≤(rd p.Tables ((i-1:Nat):Int)).Dev
     ·rw [if_pos a4,jt]
     ·rw [if_neg a4]
      exact at_ _ (Classical.byContradiction fun a2=>ho ⟨a1,a2,by omega,fun y=>by omega⟩)
  ·rw [if_neg a1,jt]
 ·intro n
  rw [r9_Pool.l1,if_neg (by omega)]
theorem ref_Pool_l0 (hk:1100<k) (hp:PIn p) (hd:DevsOk p.Devices):∀(n i c:Nat),i≤p.Devices.length→p.Devices.length-i<n→c≤i→(0<c↔∃m:Nat,m<i∧(rd p.Devices (m:Int)).ID≠p.Job.Dev)→
 ∃c':Nat,(0<c'↔Other p)∧((∀j:Nat,i≤j→j<p.Devices.length→(rd p.Devices (j:Int)).ID<p.Next)→r9_Pool.l0 p k n c i=r9_Pool.l1 p k c' k 0)∧(¬(∀j:Nat,i≤j→j<p.Devices.length→(rd p.Devices (j:Int)).ID<p.Next)→r9_Pool.l0 p k n c i=some false)
 |0,i,c,_,h,_,_=>by omega
 |n+1,i,c,hi,hn,hc,ho=>by
  have hl:=hd.1
  rw [r9_Pool.l0]
  by_cases d:i<p.Devices.length
  ·rw [if_pos (by omega),if_pos (by omega)]
   by_cases a1:p.Next≤(rd p.Devices (i:Int)).ID
   ·rw [if_pos a1]
    have:∃c':Nat,(0<c'↔Other p):=by
     by_cases o:Other p
     ·exact ⟨1,by simp [o]⟩
     ·exact ⟨0,by simp [o]⟩
    obtain ⟨c',hc'⟩:=this
    exact ⟨c',hc',fun g=>by have:=g i (by omega) d;omega,fun _=>rfl⟩
   ·rw [if_neg a1,if_pos (by omega)]
    unfold r9_Pool.j1
    have f1:p.Devices.length-(i+1)<n:=by omega
    have f2:i+1≤p.Devices.length:=by omega
    have fin:∀c2:Nat,c2≤i+1→(0<c2↔∃m:Nat,m<i+1∧(rd p.Devices (m:Int)).ID≠p.Job.Dev)→∃c':Nat,(0<c'↔Other p)∧((∀j:Nat,i≤j→j<p.Devices.length→(rd p.Devices (j:Int)).ID<p.Next)→r9_Pool.l0 p k n c2 (w64 ((i:Int)+1))=r9_Pool.l1 p k c' k 0)∧(¬(∀j:Nat,i≤j→j<p.Devices.length→(rd p.Devices (j:Int)).ID<p.Next)→r9_Pool.l0 p k n c2 (w64 ((i:Int)+1))=some false):=by
     intro c2 h2 o2
     obtain ⟨c',e1,e2,e3⟩:=ref_Pool_l0 hk hp hd n (i+1) c2 f2 f1 h2 o2
     rw [w64_succ d (by omega)]
     refine ⟨c',e1,fun g=>e2 fun j hj hl=>g j (by omega) hl,fun g=>e3 fun a=>g fun j hj hl=>?_⟩
     rcases Nat.lt_or_ge i j with z|z
     ·exact a j z hl
     ·have:j=i:=by omega
      rw [this];omega
    by_cases a2:(rd p.Devices (i:Int)).ID=p.Job.Dev
    ·rw [if_pos a2]
     refine fin c (by omega) ⟨fun z=>?_,fun ⟨m,hm,e⟩=>ho.2 ⟨m,?_,e⟩⟩
     ·obtain ⟨m,hm,e⟩:=ho.1 z
      exact ⟨m,by omega,e⟩
     ·have:m≠i:=fun z=>e (z ▸ a2)
      omega
    ·rw [if_neg a2,w64_id (x:=(c:Int)+1) (by omega) (by omega)]
     exact fin (c+1) (by omega) ⟨fun _=>⟨i,by omega,a2⟩,fun _=>by omega⟩
  ·rw [if_neg (by omega)]
   have:i=p.Devices.length:=by omega
   subst this
   exact ⟨c,ho,fun _=>rfl,fun g=>absurd (fun j hj hl=>by omega) g⟩
theorem Pool_says (hk:1100<k) (hp:PIn p):Says (r9_Pool.f k p) (PoolOk p):=by
 unfold r9_Pool.f
 rw [T.Between_eq]
 have jt:r9_Pool.j0 p k true=some false:=by unfold r9_Pool.j0;rw [if_pos rfl]
 by_cases a1:DevsOk p.Devices
 ·rw [(ref_Devices_says (by omega) hp.devs).1 a1]
  simp only [Option.bind_some,if_true]
  by_cases a2:12<(p.Tables.length:Int)
  ·rw [if_pos a2,jt]
   exact ⟨fun g=>by have:=g.len;omega,fun _=>rfl⟩
  rw [if_neg a2]
  have tail:(p.Job.Dev≠0→p.Tables.length<12)→Says (r9_Pool.j0 p k (!(decide (1≤p.Next∧p.Next≤41)))) (PoolOk p):=by
   intro hj
   by_cases b1:1≤p.Next∧p.Next≤41
   ·rw [decide_eq_true b1]
    unfold r9_Pool.j0
    rw [if_neg (by simp)]
    have hl:=a1.1
    obtain ⟨c,hc,q1,q2⟩:=ref_Pool_l0 hk hp a1 k 0 0 (by omega) (by omega) (by omega) ⟨fun z=>by omega,fun ⟨m,hm,_⟩=>by omega⟩
    by_cases b2:∀j:Nat,0≤j→j<p.Devices.length→(rd p.Devices (j:Int)).ID<p.Next
    ·have q1:=q1 b2
     have q1:r9_Pool.l0 p k k 0 0=r9_Pool.l1 p k c k 0:=q1
     rw [q1]
     by_cases b3:∀j:Nat,0≤j→j<p.Tables.length→TabsOk p j
     ·rw [(ref_Pool_l1 hk hp a1 c).1 b3]
      have hi:IdsOk p:=⟨b1.2,b3,b2⟩
      exact Says.iff (ref_Pool_l2 hk hp a1 hi hc) ⟨fun g=>⟨a1,by omega,hj,hi,g.1,g.2.1,g.2.2⟩,fun g=>⟨g.fine,g.job,g.other⟩⟩
     ·rw [(ref_Pool_l1 hk hp a1 c).2 b3]
      exact ⟨fun g=>absurd g.ids.tabs b3,fun _=>rfl⟩
    ·have q2:=q2 b2
     exact ⟨fun g=>absurd g.ids.devs b2,fun _=>q2⟩
   ·rw [decide_eq_false b1]
    rw [show (!false)=true from rfl,jt]
    refine ⟨fun g=>absurd ⟨?_,g.ids.max⟩ b1,fun _=>rfl⟩
    obtain ⟨m,hm,_⟩:=g.other
    have:=dev_id a1 hm
    have:=g.ids.devs m (by omega) hm
    omega
  by_cases a3:p.Job.Dev=0
  ·rw [if_pos a3]
   exact tail fun z=>absurd a3 z
  ·rw [if_neg a3]
   by_cases a4:12≤(p.Tables.length:Int)
   ·rw [if_pos a4,jt]
    exact ⟨fun g=>by have:=g.jobLen a3;omega,fun _=>rfl⟩
   ·rw [if_neg a4]
    exact tail fun _=>by omega
 ·rw [(ref_Devices_says (by omega) hp.devs).2 a1]
  simp only [Option.bind_some]
  rw [if_neg (by simp),jt]
  exact ⟨fun g=>absurd g.devs a1,fun _=>rfl⟩
end Go.Proofs.YtnaajldlloglkaaGreatDoor.W
namespace Go.Proofs.YtnaajldlloglkaaGreatDoor.W
open Go.H
theorem weigh {R α:Type} [Inhabited α] {l:List α} {g:α→Nat} {f:Nat→Int→Int→Option R} {out:Int→Option R}
 (h1:∀n (t i:Nat),i<l.length→t<1048576→f (n+1) (t:Int) (i:Int)=f n ((t+g (rd l (i:Int)):Nat):Int) ((i+1:Nat):Int))
 (h2:∀n (t i:Nat),i<l.length→¬t<1048576→f (n+1) (t:Int) (i:Int)=out t)
 (h3:∀n (t i:Nat),¬i<l.length→f (n+1) (t:Int) (i:Int)=out t)
 (hg:∀x∈l,g x<4503599627370496) {Bd:Nat} (hB:4503599628419072≤Bd):∀(n i t:Nat),i≤l.length→l.length-i<n→t<Bd→(∀x∈l.take i,g x≤t)→
 ∃t':Nat,f n (t:Int) (i:Int)=out t'∧t≤t'∧t'<Bd∧(t'<1048576→∀x∈l,g x≤t')
 |0,i,t,_,h,_,_=>by omega
 |n+1,i,t,hi,hn,ht,hx=>by
  by_cases c:i<l.length
  ·by_cases d:t<1048576
   ·rw [h1 n t i c d]
    have w:=hg _ (rd_mem c)
    obtain ⟨t',e,a,b,q⟩:=weigh h1 h2 h3 hg hB n (i+1) (t+g (rd l (i:Int))) (by omega) (by omega) (by omega) fun x hm=>by
     rw [List.take_succ_eq_append_getElem c] at hm
     rcases List.mem_append.1 hm with hm|hm
     ·have:=hx x hm;omega
     ·rw [List.mem_singleton] at hm
      rw [rd_nat c,hm];omega
    exact ⟨t',e,by omega,b,q⟩
   ·rw [h2 n t i c d]
    exact ⟨t,rfl,Nat.le_refl _,ht,fun z=>absurd z d⟩
  ·rw [h3 n t i c]
   refine ⟨t,rfl,Nat.le_refl _,ht,fun _ x hm=>hx x ?_⟩
   rw [List.take_of_length_le (by omega)];exact hm
structure Sized (p:Script):Prop where
 D:p.P.Devices.length<1125899906842624
 Dl:∀d∈p.P.Devices,d.Free.length<1125899906842624∧d.Late.length<1125899906842624
 T:p.P.Tables.length<1125899906842624
 Tl:∀t∈p.P.Tables,t.List_.length<1125899906842624
 J:p.P.Job.Table.List_.length<1125899906842624
 jobDev: -9223372036854775808≤p.P.Job.Dev∧p.P.Job.Dev<9223372036854775808
 A:p.A.length*40≤140737488355328
 Al:∀a∈p.A,a.Q.length<1125899906842624∧ -9223372036854775808≤a.N∧a.N<9223372036854775808
theorem DevicesWeight_eq {l:List Device} {k:Nat} (h1:l.length<1125899906842624) (h2:∀d∈l,d.Free.length<1125899906842624∧d.Late.length<1125899906842624) (hk:l.length<k):
 ∃t:Nat,l0_DevicesWeight.f k l=some (t:Int)∧t<9007199254740992∧(t<1048576→l.length≤t∧∀d∈l,d.Free.length≤t∧d.Late.length≤t):=by
 have q:=weigh (l:=l) (g:=fun d=>d.Free.length+d.Late.length) (f:=l0_DevicesWeight.l0 l) (out:=fun t=>some t) ?_ ?_ ?_ (fun d hd=>by have:=h2 d hd;omega) (Bd:=9007199254740992) (by omega) k 0 l.length (by omega) (by omega) (by omega) (fun x hx=>by simp at hx)
 ·obtain ⟨t',e,a,b,q⟩:=q
  exact ⟨t',e,b,fun z=>⟨a,fun d hd=>by have:=q z d hd;omega⟩⟩
 ·intro n t i c d
  have w:=h2 _ (rd_mem c)
  rw [l0_DevicesWeight.l0,if_pos (by omega),decide_eq_true (by omega)]
  unfold l0_DevicesWeight.j0
  rw [if_pos rfl,if_pos (by omega),if_pos (by omega),w64_succ c (by omega),w64_id (x:=(t:Int)+((rd l (i:Int)).Free.length:Int)) (by omega) (by omega),w64_id (by omega) (by omega),show (t:Int)+((rd l (i:Int)).Free.length:Int)+((rd l (i:Int)).Late.length:Int)=((t+((rd l (i:Int)).Free.length+(rd l (i:Int)).Late.length):Nat):Int) by omega]
 ·intro n t i c d
  rw [l0_DevicesWeight.l0,if_pos (by omega),decide_eq_false (by omega)]
  unfold l0_DevicesWeight.j0
  rw [if_neg (by simp)]
 ·intro n t i c
  rw [l0_DevicesWeight.l0,if_neg (by omega)]
  unfold l0_DevicesWeight.j0
  rw [if_neg (by simp)]
theorem PoolWeight_eq {p:Script} {k:Nat} (hs:Sized p) (hd:p.P.Devices.length<k) (ht:p.P.Tables.length<k):
 ∃t:Nat,l0_PoolWeight.f k p.P=some (t:Int)∧t<18014398509481984∧(t<1048576→(p.P.Devices.length≤t∧∀d∈p.P.Devices,d.Free.length≤t∧d.Late.length≤t)∧p.P.Tables.length≤t∧p.P.Job.Table.List_.length≤t∧∀x∈p.P.Tables,x.List_.length≤t):=by
 obtain ⟨u,eu,bu,qu⟩:=DevicesWeight_eq hs.D hs.Dl hd
 have h1:=hs.T
 have h2:=hs.J
 unfold l0_PoolWeight.f
 rw [eu]
 simp only [Option.bind_some]
 rw [w64_id (x:=(u:Int)+(p.P.Tables.length:Int)) (by omega) (by omega),w64_id (by omega) (by omega),show (u:Int)+(p.P.Tables.length:Int)+(p.P.Job.Table.List_.length:Int)=((u+p.P.Tables.length+p.P.Job.Table.List_.length:Nat):Int) by omega]
 by_cases big:u<1048576
 ·have q:=weigh (l:=p.P.Tables) (g:=fun x=>x.List_.length) (f:=l0_PoolWeight.l0 p.P) (out:=fun t=>some t) ?_ ?_ ?_ (fun d hd=>by have:=hs.Tl d hd;omega) (Bd:=18014398509481984) (by omega) k 0 (u+p.P.Tables.length+p.P.Job.Table.List_.length) (by omega) (by omega) (by omega) (fun x hx=>by simp at hx)
  ·obtain ⟨t',e,a,b,q⟩:=q
   refine ⟨t',e,b,fun z=>⟨⟨by have:=(qu big).1;omega,fun d hd=>by have:=(qu big).2 d hd;omega⟩,by omega,by omega,q z⟩⟩
  ·intro n t i c d
   have w:=hs.Tl _ (rd_mem c)
   rw [l0_PoolWeight.l0,if_pos (by omega),decide_eq_true (by omega)]
   unfold l0_PoolWeight.j0
   rw [if_pos rfl,if_pos (by omega),w64_succ c (by omega),w64_id (by omega) (by omega),show (t:Int)+((rd p.P.Tables (i:Int)).List_.length:Int)=((t+(rd p.P.Tables (i:Int)).List_.length:Nat):Int) by omega]
  ·intro n t i c d
   rw [l0_PoolWeight.l0,if_pos (by omega),decide_eq_false (by omega)]
   unfold l0_PoolWeight.j0
   rw [if_neg (by simp)]
  ·intro n t i c
   rw [l0_PoolWeight.l0,if_neg (by omega)]
   unfold l0_PoolWeight.j0
   rw [if_neg (by simp)]
 ·match k with
  |0=>omega
  |k+1=>
   refine ⟨u+p.P.Tables.length+p.P.Job.Table.List_.length,?_,by omega,fun z=>by omega⟩
   rw [l0_PoolWeight.l0,decide_eq_false (by omega)]
   unfold l0_PoolWeight.j0
   by_cases c:(0:Int)<(p.P.Tables.length:Int)
   ·rw [if_pos c,if_neg (by simp)]
   ·rw [if_neg c,if_neg (by simp)]
structure Light (p:Script):Prop where
 D:p.P.Devices.length≤1000
 T:p.P.Tables.length≤1000
 A:p.A.length≤1000
 Q:∀a∈p.A,a.Q.length≤1000
 inn:PIn p.P
theorem Heavy_eq {p:Script} {k:Nat} (hs:Sized p) (hd:p.P.Devices.length<k) (ht:p.P.Tables.length<k) (ha:p.A.length<k):
 ∃h,l10_Heavy.f k p=some h∧(h=false→Light p):=by
 obtain ⟨u,eu,bu,qu⟩:=PoolWeight_eq hs hd ht
 have h1:=hs.A
 unfold l10_Heavy.f
 rw [eu]
 simp only [Option.bind_some]
 rw [w64_id (by omega) (by omega),show (u:Int)+(p.A.length:Int)=((u+p.A.length:Nat):Int) by omega]
 by_cases big:u<1048576
 ·have q:=weigh (l:=p.A) (g:=fun x=>x.Q.length) (f:=l10_Heavy.l0 p) (out:=fun t=>some (decide (1000<t))) ?_ ?_ ?_ (fun d hd=>by have:=(hs.Al d hd).1;omega) (Bd:=36028797018963968) (by omega) k 0 (u+p.A.length) (by omega) (by omega) (by omega) (fun x hx=>by simp at hx)
  ·obtain ⟨t',e,a,b,q⟩:=q
   refine ⟨_,e,fun z=>?_⟩
   have z:=of_decide_eq_false z
   obtain ⟨⟨g1,g2⟩,g3,g4,g5⟩:=qu big
   exact ⟨by omega,by omega,by omega,fun a ha=>by have:=q (by omega) a ha;omega,⟨fun d hd=>by have:=g2 d hd;omega,by omega,by omega,fun x hx=>by have:=g5 x hx;omega,by omega,hs.jobDev⟩⟩
  ·intro n t i c d
   have w:=(hs.Al _ (rd_mem c)).1
   rw [l10_Heavy.l0,if_pos (by omega),decide_eq_true (by omega)]
   unfold l10_Heavy.j0
   rw [if_pos rfl,if_pos (by omega),w64_succ c (by omega),w64_id (by omega) (by omega),show (t:Int)+((rd p.A (i:Int)).Q.length:Int)=((t+(rd p.A (i:Int)).Q.length:Nat):Int) by omega]
  ·intro n t i c d
   rw [l10_Heavy.l0,if_pos (by omega),decide_eq_false (by omega)]
   unfold l10_Heavy.j0
   rw [if_neg (by simp)]
  ·intro n t i c
   rw [l10_Heavy.l0,if_neg (by omega)]
   unfold l10_Heavy.j0
   rw [if_neg (by simp)]
 ·match k with
  |0=>omega
  |k+1=>
   refine ⟨decide ((1000:Int)<((u+p.A.length:Nat):Int)),?_,fun z=>by have:=of_decide_eq_false z;omega⟩
   rw [l10_Heavy.l0,decide_eq_false (by omega)]
   unfold l10_Heavy.j0
   by_cases c:(0:Int)<(p.A.length:Int)
   ·rw [if_pos c,if_neg (by simp)]
   ·rw [if_neg c,if_neg (by simp)]
variable {p:Pool} {k:Nat}
theorem CopyD_eq {d:Device} (hk:1000<k) (h:d.Free.length≤1000∧d.Late.length≤1000):r0_CopyDevice.f k d=some d:=by
 unfold r0_CopyDevice.f r0_CopySegs.f
 have a:=S.Copy_l0 (l:=d.Free) (by omega) k 0 (by omega) (by omega) (by omega)
 have b:=S.Copy_l0 (l:=d.Late) (by omega) k 0 (by omega) (by omega) (by omega)
 have a:r0_CopySegs.l0 d.Free k [] 0=some d.Free:=a
 have b:r0_CopySegs.l0 d.Late k [] 0=some d.Late:=b
 rw [a,b]
 rfl
theorem CopyDs_l0 {l:List Device} (hk:1000<k) (hl:l.length≤1000) (h:DevsIn l):∀(n i:Nat),i≤l.length→l.length-i<n→r0_CopyDevices.l0 l k n (l.take i) i=some l
 |0,i,_,h=>by omega
 |n+1,i,hi,hn=>by
  rw [r0_CopyDevices.l0]
  by_cases c:i<l.length
  ·rw [if_pos (by omega),if_pos (by omega),CopyD_eq hk (h _ (rd_mem c))]
   simp only [Option.bind_some]
   rw [if_pos (by rw [List.length_take];omega),w64_succ c (by omega),rd_nat c,←List.take_succ_eq_append_getElem c]
   exact CopyDs_l0 hk hl h n (i+1) (by omega) (by omega)
  ·rw [if_neg (by omega),List.take_of_length_le (by omega)]
theorem CopyTs_l0 {l:List Table} (hk:1000<k) (hl:l.length≤1000) (h:∀t∈l,t.List_.length≤1000):∀(n i:Nat),i≤l.length→l.length-i<n→r0_CopyTables.l0 l k n (l.take i) i=some l
 |0,i,_,h=>by omega
 |n+1,i,hi,hn=>by
  rw [r0_CopyTables.l0]
  by_cases c:i<l.length
  ·rw [if_pos (by omega),if_pos (by omega),T.CopyT_eq (h _ (rd_mem c)) hk]
   simp only [Option.bind_some]
   rw [if_pos (by rw [List.length_take];omega),w64_succ c (by omega),rd_nat c,←List.take_succ_eq_append_getElem c]
   exact CopyTs_l0 hk hl h n (i+1) (by omega) (by omega)
  ·rw [if_neg (by omega),List.take_of_length_le (by omega)]
theorem CopyPool_eq (hk:1000<k) (hp:PIn p):r0_CopyPool.f k p=some p:=by
 unfold r0_CopyPool.f r0_CopyDevices.f r0_CopyTables.f
 have hd:=hp.devs_len
 have ht:=hp.tabs_len
 have a:r0_CopyDevices.l0 p.Devices k k [] 0=some p.Devices:=CopyDs_l0 hk hd hp.devs k 0 (by omega) (by omega)
 have b:r0_CopyTables.l0 p.Tables k k [] 0=some p.Tables:=CopyTs_l0 hk ht hp.tabs k 0 (by omega) (by omega)
 rw [a,b,T.CopyT_eq hp.job hk]
 rfl
theorem EqD_self {d:Device} (hk:1000<k) (h:d.Free.length≤1000∧d.Late.length≤1000):r0_EqDevice.f k d d=some true:=by
 unfold r0_EqDevice.f
 rw [if_pos rfl,if_pos rfl,S.EqSegs_eq (by omega) (by omega),S.EqSegs_eq (by omega) (by omega)]
 simp
theorem EqDs_self {l:List Device} (hk:1000<k) (hl:l.length≤1000) (h:DevsIn l):r0_EqDevices.f k l l=some true:=by
 unfold r0_EqDevices.f
 rw [if_pos rfl]
 refine (loop_says (f:=r0_EqDevices.l0 l l k) (len:=l.length) (E:=some true) (F:=some true) (P:=fun _=>True) ?_ ?_ ?_ k 0 (by omega) (by omega)).1 fun _ _ _=>trivial
 ·intro n i c _
  rw [r0_EqDevices.l0,if_pos (by omega),if_pos (by omega),if_pos (by omega),EqD_self hk (h _ (rd_mem c))]
  simp only [Option.bind_some,if_true]
  rw [w64_succ c (by omega)]
 ·intro n i c a
  exact absurd trivial a
 ·intro n
  rw [r0_EqDevices.l0,if_neg (by omega)]
theorem EqTs_self {l:List Table} (hk:1000<k) (hl:l.length≤1000) (h:∀t∈l,t.List_.length≤1000):r0_EqTables.f k l l=some true:=by
 unfold r0_EqTables.f
 rw [if_pos rfl]
 refine (loop_says (f:=r0_EqTables.l0 l l k) (len:=l.length) (E:=some true) (F:=some true) (P:=fun _=>True) ?_ ?_ ?_ k 0 (by omega) (by omega)).1 fun _ _ _=>trivial
 ·intro n i c _
  rw [r0_EqTables.l0,if_pos (by omega),if_pos (by omega),if_pos (by omega),T.EqT_eq (h _ (rd_mem c)) hk]
  simp only [Option.bind_some,decide_true,if_true]
  rw [w64_succ c (by omega)]
 ·intro n i c a
  exact absurd trivial a
 ·intro n
  rw [r0_EqTables.l0,if_neg (by omega)]
theorem EqPool_self (hk:1000<k) (hp:PIn p):r0_EqPool.f k p p=some true:=by
 unfold r0_EqPool.f
 rw [EqDs_self hk hp.devs_len hp.devs,EqTs_self hk hp.tabs_len hp.tabs,T.EqT_eq hp.job hk]
 simp
end Go.Proofs.YtnaajldlloglkaaGreatDoor.W
namespace Go.Proofs.YtnaajldlloglkaaGreatDoor.W
open Go.H
structure Sets (P:List Device) (F L:Nat→Nat→Bool) (x:List Device):Prop where
 len:x.length=P.length
 at_:∀j:Nat,j<P.length→rd x (j:Int)=⟨(rd P (j:Int)).ID,(rd P (j:Int)).Size,S.segsOf (F j),S.segsOf (L j)⟩
structure SetsOk (P:List Device) (F L:Nat→Nat→Bool):Prop where
 free:∀j i:Nat,j<P.length→i<64→F j i=true→(i:Int)<(rd P (j:Int)).Size
 late:∀j i:Nat,j<P.length→i<64→L j i=true→(i:Int)<(rd P (j:Int)).Size
 dis:∀j i:Nat,j<P.length→i<64→(F j i&&L j i)=false
theorem below_segsOf {b:Nat→Bool} {n:Int} (h:∀i,i<64→b i=true→(i:Int)<n):S.below (S.segsOf b) n=true:=
 S.below_iff.2 fun i hi hm=>h i hi (by rwa [S.mem_segsOf hi] at hm)
theorem Sets.ok {P x:List Device} {F L:Nat→Nat→Bool} (hP:DevsOk P) (s:Sets P F L x) (o:SetsOk P F L):DevsOk x:=by
 refine ⟨by rw [s.len];exact hP.1,fun j _ hj=>?_⟩
 rw [s.len] at hj
 have p:=hP.2 j (by omega) hj
 rw [s.at_ j hj]
 refine ⟨⟨p.1.id,p.1.size,⟨S.segsOf_ok _,below_segsOf (o.free j · hj)⟩,⟨S.segsOf_ok _,below_segsOf (o.late j · hj)⟩,fun i hi=>?_⟩,fun z=>?_⟩
 ·rw [S.mem_segsOf hi,S.mem_segsOf hi];exact o.dis j i hj hi
 ·rw [s.at_ (j-1) (by omega)];exact p.2 z
theorem rd_ext {α:Type} [Inhabited α] {x y:List α} (h:x.length=y.length) (e:∀j:Nat,j<x.length→rd x (j:Int)=rd y (j:Int)):x=y:=by
 refine List.ext_getElem h fun j h1 h2=>?_
 have:=e j h1
 rwa [rd_nat h1,rd_nat h2] at this
theorem Sets.ext {P x y:List Device} {F L G M:Nat→Nat→Bool} (s:Sets P F L x) (t:Sets P G M y) (h:∀j i:Nat,j<P.length→i<64→F j i=G j i∧L j i=M j i):x=y:=by
 refine rd_ext (s.len.trans t.len.symm) fun j hj=>?_
 rw [s.len] at hj
 rw [s.at_ j hj,t.at_ j hj,S.segsOf_congr fun i hi=>(h j i hj hi).1,S.segsOf_congr fun i hi=>(h j i hj hi).2]
theorem rd_setD {l:List Device} {i s:Nat} {v:Device} (hi:i<l.length) (hs:s<l.length):rd (l.set i v) (s:Int)=if s=i then v else rd l (s:Int):=by
 rw [rd_nat (by rw [List.length_set];exact hs),rd_nat hs,List.getElem_set]
 by_cases c:i=s
 ·rw [if_pos c,if_pos c.symm]
 ·rw [if_neg c,if_neg fun e=>c e.symm]
theorem Sets.set {P x:List Device} {F L:Nat→Nat→Bool} (s:Sets P F L x) {m:Nat} (hm:m<P.length) {b c:Nat→Bool}:Sets P (fun j=>if j=m then b else F j) (fun j=>if j=m then c else L j) (x.set m ⟨(rd P (m:Int)).ID,(rd P (m:Int)).Size,S.segsOf b,S.segsOf c⟩):=by
 refine ⟨by rw [List.length_set];exact s.len,fun j hj=>?_⟩
 have h1:=s.len
 rw [rd_setD (by omega) (by omega)]
 by_cases d:j=m
 ·simp only [if_pos d];rw [d]
 ·simp only [if_neg d];exact s.at_ j hj
theorem DevsOk.sets {P:List Device} (h:DevsOk P):Sets P (fun j=>S.mem (rd P (j:Int)).Free) (fun j=>S.mem (rd P (j:Int)).Late) P:=by
 refine ⟨rfl,fun j hj=>?_⟩
 have p:=(h.2 j (by omega) hj).1
 rw [S.segsOf_mem p.free.1,S.segsOf_mem p.late.1]
theorem DevsOk.setsOk {P:List Device} (h:DevsOk P):SetsOk P (fun j=>S.mem (rd P (j:Int)).Free) (fun j=>S.mem (rd P (j:Int)).Late):=
 ⟨fun j i hj hi m=>S.below_iff.1 (h.2 j (by omega) hj).1.free.2 i hi m,fun j i hj hi m=>S.below_iff.1 (h.2 j (by omega) hj).1.late.2 i hi m,fun j i hj hi=>(h.2 j (by omega) hj).1.dis i hi⟩
theorem dev_short {P:List Device} (h:DevsOk P) {j:Nat} (hj:j<P.length):(rd P (j:Int)).Free.length≤33∧(rd P (j:Int)).Late.length≤33:=
 ⟨ok_short (h.2 j (by omega) hj).1.free.1,ok_short (h.2 j (by omega) hj).1.late.1⟩
theorem devs_in {P:List Device} (h:DevsOk P):DevsIn P:=fun d hd=>by
 obtain ⟨j,hj,e⟩:=List.getElem_of_mem hd
 have:=dev_short h hj
 rw [rd_nat hj,e] at this
 omega
theorem Make_segs {b:Nat→Bool} {k:Nat} (hk:1000<k):∃x,seg_Make.f k (S.segsOf b)=some x∧S.IsSet x b:=by
 have:=S.segsOf_len b
 obtain ⟨x,e,hx⟩:=S.Make_set (k:=k) (by omega) (by omega) (S.segsOf_ok b)
 exact ⟨x,e,hx.congr fun i hi=>S.mem_segsOf hi⟩
theorem Clone_eq {l:List Seg} (h:l.length≤1000):slices_Clone_Seg.f l=some l:=by
 unfold slices_Clone_Seg.f
 rw [if_pos (by simp;omega),List.nil_append]
theorem Own_l0 {P:List Device} (h:DevsOk P):∀(n i:Nat),i≤P.length→P.length-i<n→room_Own.l0 P n P i=some P
 |0,i,_,hn=>by omega
 |n+1,i,hi,hn=>by
  have hl:=h.1
  rw [room_Own.l0]
  by_cases c:i<P.length
  ·have sh:=dev_short h c
   have e1:∀d:Device,(⟨d.ID,d.Size,d.Free,d.Late⟩:Device)=d:=fun d=>rfl
   have e2:P.set i (rd P (i:Int))=P:=by rw [rd_nat c];exact List.set_getElem_self c
   rw [if_pos (by omega),if_pos (by omega),if_pos (by omega),Clone_eq (by omega),Clone_eq (by omega)]
   simp only [Option.bind_some,Int.toNat_natCast,e1,e2]
   rw [if_pos (by omega),if_pos (by omega),w64_succ c (by omega)]
   exact Own_l0 h n (i+1) (by omega) (by omega)
  ·rw [if_neg (by omega)]
theorem Own_eq {P:List Device} {k:Nat} (hk:1000<k) (h:DevsOk P):room_Own.f k P=some P:=by
 have hl:=h.1
 unfold room_Own.f slices_Clone_Device.f
 rw [if_pos (by simp;omega),List.nil_append]
 exact Own_l0 h k 0 (by omega) (by omega)
def num (b:Nat→Bool):Nat:=(S.secFrom 0 b).length
theorem num_le (b:Nat→Bool):num b≤64:=S.secFrom_len _ _
theorem num_congr {b c:Nat→Bool} (h:∀i,i<64→b i=c i):num b=num c:=by
 unfold num
 rw [S.secFrom_congr (c:=c) 64 0 rfl fun j _ hj=>h j hj]
def tot (P:List Device) (no:Int) (F:Nat→Nat→Bool):Nat→Nat
 |0=>0
 |n+1=>if (rd P (n:Int)).ID=no then tot P no F n else tot P no F n+num (F n)
theorem tot_le (P:List Device) (no:Int) (F:Nat→Nat→Bool):∀n,tot P no F n≤64*n
 |0=>Nat.le_refl 0
 |n+1=>by
  have:=tot_le P no F n
  have:=num_le (F n)
  unfold tot
  split <;>omega
theorem tot_congr {P:List Device} {no:Int} {F G:Nat→Nat→Bool}:∀n,(∀j i:Nat,j<n→i<64→F j i=G j i)→tot P no F n=tot P no G n
 |0,_=>rfl
 |n+1,h=>by
  have:=tot_congr (P:=P) (no:=no) n fun j i hj hi=>h j i (by omega) hi
  unfold tot
  rw [this,num_congr fun i hi=>h n i (by omega) hi]
theorem tot_less {P:List Device} {no:Int} {F G:Nat→Nat→Bool} {m:Nat} (hn:(rd P (m:Int)).ID≠no) (h1:num (F m)=num (G m)+1) (h2:∀j i:Nat,j≠m→i<64→F j i=G j i):∀n,m<n→tot P no F n=tot P no G n+1
 |0,h=>by omega
 |n+1,h=>by
  unfold tot
  by_cases c:n=m
  ·subst c
   rw [if_neg hn,if_neg hn,tot_congr n fun j i hj hi=>h2 j i (by omega) hi]
   omega
  ·have:=tot_less hn h1 h2 n (by omega)
   rw [num_congr fun i hi=>h2 n i c hi]
   split <;>omega
theorem Free_l0 {P x:List Device} {k:Nat} {F L:Nat→Nat→Bool} {no:Int} (hk:1000<k) (hP:DevsOk P) (s:Sets P F L x):∀(n i:Nat),i≤P.length→P.length-i<n→room_Free.l0 x no k n (tot P no F i:Nat) i=some (tot P no F P.length:Int)
 |0,i,_,h=>by omega
 |n+1,i,hi,hn=>by
  have hl:=hP.1
  have hx:=s.len
  rw [room_Free.l0]
  by_cases c:i<P.length
  ·have ih:=Free_l0 (no:=no) hk hP s n (i+1) (by omega) (by omega)
   have tl:=tot_le P no F i
   have nl:=num_le (F i)
   rw [if_pos (by omega),if_pos (by omega),s.at_ i c]
   simp only
   unfold room_Free.j0
   by_cases a:(rd P (i:Int)).ID=no
   ·rw [if_pos a,w64_succ c (by omega),←ih]
    show _=room_Free.l0 x no k n ((if (rd P (i:Int)).ID=no then tot P no F i else tot P no F i+num (F i):Nat):Int) _
    rw [if_pos a]
   ·obtain ⟨u,eu,hu⟩:=Make_segs (b:=F i) hk
    rw [if_neg a,eu]
    simp only [Option.bind_some]
    rw [S.Count_eq hu]
    simp only [Option.bind_some]
    have e:w64 ((tot P no F i:Int)+((S.secFrom 0 (F i)).length:Int))=((tot P no F (i+1):Nat):Int):=by
     show w64 ((tot P no F i:Int)+(num (F i):Int))=((if (rd P (i:Int)).ID=no then tot P no F i else tot P no F i+num (F i):Nat):Int)
     rw [if_neg a,w64_id (by omega) (by omega)]
     omega
    rw [e,w64_succ c (by omega),ih]
  ·rw [if_neg (by omega)]
   rw [show i=P.length by omega]
theorem Free_eq {P x:List Device} {k:Nat} {F L:Nat→Nat→Bool} {no:Int} (hk:1000<k) (hP:DevsOk P) (s:Sets P F L x):room_Free.f k x no=some (tot P no F P.length:Int):=by
 have hl:=hP.1
 exact Free_l0 hk hP s k 0 (by omega) (by omega)
def best (P:List Device) (no:Int) (F:Nat→Nat→Bool):Nat→Int×Nat
 |0=>(-1,0)
 |n+1=>if (rd P (n:Int)).ID≠no∧(best P no F n).2<num (F n) then ((n:Int),num (F n)) else best P no F n
theorem best_at (P:List Device) (no:Int) (F:Nat→Nat→Bool):∀n,((best P no F n).2=0∧(best P no F n).1= -1∧tot P no F n=0)∨∃m:Nat,m<n∧(best P no F n).1=(m:Int)∧(rd P (m:Int)).ID≠no∧0<num (F m)∧(best P no F n).2=num (F m)
 |0=>.inl ⟨rfl,rfl,rfl⟩
 |n+1=>by
  have ih:=best_at P no F n
  unfold best tot
  by_cases c:(rd P (n:Int)).ID≠no∧(best P no F n).2<num (F n)
  ·rw [if_pos c]
   exact .inr ⟨n,by omega,rfl,c.1,by omega,rfl⟩
  ·rw [if_neg c]
   rcases ih with ⟨a1,a2,a3⟩|⟨m,a1,a2,a3,a4,a5⟩
   ·refine .inl ⟨a1,a2,?_⟩
    by_cases d:(rd P (n:Int)).ID=no
    ·rw [if_pos d];exact a3
    ·rw [if_neg d]
     have:¬(best P no F n).2<num (F n):=fun z=>c ⟨d,z⟩
     omega
   ·exact .inr ⟨m,by omega,a2,a3,a4,a5⟩
theorem emptiest_l0 {P x:List Device} {k:Nat} {F L:Nat→Nat→Bool} {no:Int} (hk:1000<k) (hP:DevsOk P) (s:Sets P F L x):∀(n i:Nat),i≤P.length→P.length-i<n→room_emptiest.l0 x no k n (best P no F i).1 ((best P no F i).2:Nat) i=some (best P no F P.length).1
 |0,i,_,h=>by omega
 |n+1,i,hi,hn=>by
  have hl:=hP.1
  have hx:=s.len
  rw [room_emptiest.l0]
  by_cases c:i<P.length
  ·have ih:=emptiest_l0 (no:=no) hk hP s n (i+1) (by omega) (by omega)
   obtain ⟨u,eu,hu⟩:=Make_segs (b:=F i) hk
   rw [if_pos (by omega),if_pos (by omega),s.at_ i c]
   simp only
   rw [eu]
   simp only [Option.bind_some]
   rw [S.Count_eq hu]
   simp only [Option.bind_some]
   unfold room_emptiest.j1 room_emptiest.j0
   rw [w64_succ c (by omega)]
   have hb:best P no F (i+1)=if (rd P (i:Int)).ID≠no∧(best P no F i).2<num (F i) then ((i:Int),num (F i)) else best P no F i:=rfl
   by_cases a:(rd P (i:Int)).ID=no
   ·rw [if_pos a,if_neg (by simp)]
    rw [hb,if_neg fun z=>z.1 a] at ih
    exact ih
   ·rw [if_neg a]
    by_cases d:(best P no F i).2<num (F i)
    ·rw [if_pos (decide_eq_true (show ((best P no F i).2:Int)<((S.secFrom 0 (F i)).length:Int) from Int.ofNat_lt.2 d))]
     rw [hb,if_pos ⟨a,d⟩] at ih
     exact ih
    ·rw [if_neg (by
      simp only [decide_eq_true_eq]
      exact fun z=>d (Int.ofNat_lt.1 z))]
     rw [hb,if_neg fun z=>d z.2] at ih
     exact ih
  ·rw [if_neg (by omega)]
   rw [show i=P.length by omega]
theorem emptiest_eq {P x:List Device} {k:Nat} {F L:Nat→Nat→Bool} {no:Int} (hk:1000<k) (hP:DevsOk P) (s:Sets P F L x):room_emptiest.f k x no=some (best P no F P.length).1:=by
 have hl:=hP.1
 exact emptiest_l0 hk hP s k 0 (by omega) (by omega)
abbrev Pl:=Nat×Nat
def place (P:List Device) (t:Pl):Ptr:=⟨(rd P (t.1:Int)).ID,(t.2:Int)⟩
def left (F:Nat→Nat→Bool) (T:List Pl):Nat→Nat→Bool:=fun j i=>F j i&&!decide ((j,i)∈T)
structure Took (P:List Device) (no:Int) (F:Nat→Nat→Bool) (T:List Pl):Prop where
 nd:T.Nodup
 in_:∀t∈T,t.1<P.length∧t.2<64∧F t.1 t.2=true∧(rd P (t.1:Int)).ID≠no
 cnt:tot P no (left F T) P.length+T.length=tot P no F P.length
theorem num_one:∀a:Fin 64,num (fun i=>decide (i=a.val))=1:=by decide +kernel
theorem num_less {b:Nat→Bool} {a:Nat} (ha:a<64) (h:b a=true):num b=num (fun i=>b i&&!decide (i=a))+1:=by
 have q:=S.sec_split (b:=b) (c:=fun i=>decide (i=a)) 0
 have e:num (fun i=>b i&&decide (i=a))=1:=by
  rw [num_congr (c:=fun i=>decide (i=a)) fun i hi=>by
   by_cases c:i=a
   ·subst c;simp [h]
   ·simp [c]]
  exact num_one ⟨a,ha⟩
 unfold num at e ⊢
 omega
theorem left_nil {F:Nat→Nat→Bool}:left F []=F:=by
 funext j i
 simp [left]
theorem left_snoc {F:Nat→Nat→Bool} {T:List Pl} {m a:Nat} (j i:Nat):left F (T++[(m,a)]) j i=(left F T j i&&!decide (j=m∧i=a)):=by
 unfold left
 rw [Bool.and_assoc]
 congr 1
 by_cases c:(j,i)∈T <;>by_cases d:j=m∧i=a
 ·simp [c]
 ·simp [c]
 ·simp [d]
 ·have:¬(j,i)∈T++[(m,a)]:=fun z=>by
   rcases List.mem_append.1 z with z|z
   ·exact c z
   ·rw [List.mem_singleton] at z
    injection z with z1 z2
    exact d ⟨z1,z2⟩
  simp [c,d,this]
theorem Took.nil {P:List Device} {no:Int} {F:Nat→Nat→Bool}:Took P no F []:=⟨List.nodup_nil,fun t h=>absurd h (List.not_mem_nil),by rw [left_nil];rfl⟩
theorem Took.snoc {P:List Device} {no:Int} {F:Nat→Nat→Bool} {T:List Pl} (h:Took P no F T) {m a:Nat} (hm:m<P.length) (hid:(rd P (m:Int)).ID≠no) (ha:a<64) (hf:left F T m a=true):Took P no F (T++[(m,a)]):=by
 have hf':=hf
 unfold left at hf'
 rw [Bool.and_eq_true] at hf'
 have nin:¬(m,a)∈T:=by simpa using hf'.2
 refine ⟨?_,fun t ht=>?_,?_⟩
 ·rw [List.nodup_append]
  refine ⟨h.nd,by simp,fun x hx y hy e=>?_⟩
  rw [List.mem_singleton] at hy
  rw [e,hy] at hx
  exact nin hx
 ·rcases List.mem_append.1 ht with ht|ht
  ·exact h.in_ t ht
  ·rw [List.mem_singleton] at ht
   subst ht
   exact ⟨hm,ha,hf'.1,hid⟩
 ·have e:=tot_less (P:=P) (no:=no) (F:=left F T) (G:=left F (T++[(m,a)])) (m:=m) hid (by
   rw [num_less ha hf]
   congr 1
   exact num_congr fun i _=>by rw [left_snoc];simp) (fun j i hj _=>by rw [left_snoc];simp [hj]) P.length hm
  have:=h.cnt
  rw [List.length_append]
  simp only [List.length_cons,List.length_nil]
  omega
theorem one_step {P x:List Device} {k:Nat} {F L:Nat→Nat→Bool} {no:Int} (hk:1000<k) (hP:DevsOk P) (s:Sets P F L x) {m:Nat} (hm:m<P.length) (hn:0<num (F m)):
 ∃(a:Nat) (u v w:Int),a<64∧F m a=true∧(∀j,j<a→F m j=false)∧seg_Make.f k (rd x (m:Int)).Free=some u∧seg_Set_Least.f u=some (a:Int)∧seg_One.f (a:Int)=some v∧seg_Set_Segs.f k (uandn u v)=some (S.segsOf fun i=>F m i&&!decide (i=a)):=by
 rw [s.at_ m hm]
 simp only
 obtain ⟨u,eu,hu⟩:=Make_segs (b:=F m) hk
 have u0:u≠0:=fun z=>by
  have q:=hu.zero_iff.1 z
  have:num (F m)=num (fun _=>false):=num_congr q
  have z:num (fun _=>false)=0:=by decide +kernel
  omega
 obtain ⟨a,ha,h1,h2,h3,_⟩:=S.least hu u0
 obtain ⟨v,ev,hv⟩:=S.One_set (n:=(a:Int)) (by omega) (by omega)
 refine ⟨a,u,v,0,ha,h1,h2,eu,h3,ev,?_⟩
 rw [S.Set_Segs_eq ((hu.andn hv).congr (c:=fun i=>F m i&&!decide (i=a)) fun i _=>by
  congr 2
  simp only [decide_eq_decide]
  omega) (by omega)]
end Go.Proofs.YtnaajldlloglkaaGreatDoor.W
namespace Go.Proofs.YtnaajldlloglkaaGreatDoor.W
open Go.H
theorem id_inj {P:List Device} (h:DevsOk P) {i j:Nat} (hi:i<P.length) (hj:j<P.length) (e:(rd P (i:Int)).ID=(rd P (j:Int)).ID):i=j:=
 asc_inj (g:=fun m=>(rd P (m:Int)).ID) (fun j hj z=>(h.2 j (by omega) hj).2 z) hi hj e
theorem refCommit_l0 {P:List Device} {k:Nat} {F L:Nat→Nat→Bool} (hk:1000<k) (hP:P.length≤900):∀(n i:Nat) (x:List Device),i≤P.length→P.length-i<n→Sets P (fun j=>if j<i then fun s=>F j s||L j s else F j) (fun j=>if j<i then fun _=>false else L j) x→
 ∃x',Sets P (fun j s=>F j s||L j s) (fun _ _=>false) x'∧r7_Commit.l0 k n x i=some x'
 |0,i,x,_,hn,_=>by omega
 |n+1,i,x,hi,hn,s=>by
  have hl:=hP
  have hx:=s.len
  rw [r7_Commit.l0]
  by_cases c:i<P.length
  ·have ri:=s.at_ i c
   simp only [Nat.lt_irrefl,if_false] at ri
   have f1:=S.segsOf_len (F i)
   have f2:=S.segsOf_len (L i)
   rw [if_pos (by omega),if_pos (by omega),if_pos (by omega),ri]
   simp only
   rw [S.Two_eq hk (by omega) (by omega) (S.segsOf_ok _) (S.segsOf_ok _)]
   simp only [Option.bind_some,Int.toNat_natCast]
   rw [show (S.segsOf fun j=>S.pick2 0 (S.mem (S.segsOf (F i)) j) (S.mem (S.segsOf (L i)) j))=S.segsOf fun s=>F i s||L i s from S.segsOf_congr fun j hj=>by rw [S.mem_segsOf hj,S.mem_segsOf hj];rfl]
   rw [if_pos (by omega),if_pos (by rw [List.length_set];omega),w64_succ c (by omega)]
   have r2:rd (x.set i (⟨(rd P (i:Int)).ID,(rd P (i:Int)).Size,S.segsOf (fun s=>F i s||L i s),S.segsOf (L i)⟩:Device)) (i:Int)=⟨(rd P (i:Int)).ID,(rd P (i:Int)).Size,S.segsOf (fun s=>F i s||L i s),S.segsOf (L i)⟩:=by
    rw [rd_setD (by omega) (by omega),if_pos rfl]
   rw [r2]
   simp only
   rw [List.set_set]
   have q:=s.set c (b:=fun s=>F i s||L i s) (c:=fun _=>false)
   rw [S.segsOf_none] at q
   refine refCommit_l0 hk hP n (i+1) _ (by omega) (by omega) ⟨q.len,fun j hj=>?_⟩
   rw [q.at_ j hj]
   by_cases d:j=i
   ·simp only [if_pos d]
    rw [if_pos (by omega),if_pos (by omega),d]
   ·simp only [if_neg d]
    by_cases e:j<i
    ·rw [if_pos e,if_pos e,if_pos (by omega),if_pos (by omega)]
    ·rw [if_neg e,if_neg e,if_neg (by omega),if_neg (by omega)]
  ·rw [if_neg (by omega)]
   refine ⟨x,⟨hx,fun j hj=>?_⟩,rfl⟩
   rw [s.at_ j hj,if_pos (by omega),if_pos (by omega)]
def busy (d:Device) (i:Nat):Bool:=decide ((i:Int)<d.Size)&&!(S.mem d.Free i||S.mem d.Late i)
def usedN (d:Device):Nat:=(S.secFrom 0 (busy d)).length
theorem usedN_le (d:Device):usedN d≤64:=S.secFrom_len _ _
theorem Busy_set {k:Nat} {d:Device} (hk:1000<k) (h:DevOk d):∃x,room_Busy.f k d=some x∧S.IsSet x (busy d):=by
 have s1:=ok_short h.free.1
 have s2:=ok_short h.late.1
 obtain ⟨t,et,ht⟩:=S.To_set (n:=d.Size) (by have:=h.size;omega) h.size.2
 obtain ⟨x,ex,hx⟩:=S.Make_set (k:=k) (l:=d.Free) (by omega) (by omega) h.free.1
 obtain ⟨y,ey,hy⟩:=S.Make_set (k:=k) (l:=d.Late) (by omega) (by omega) h.late.1
 unfold room_Busy.f
 rw [et,ex,ey]
 exact ⟨_,rfl,ht.andn (hx.or hy)⟩
theorem Used_eq {k:Nat} {d:Device} (hk:1000<k) (h:DevOk d):r7_Used.f k d=some (usedN d:Int):=by
 have s1:=ok_short h.free.1
 have s2:=ok_short h.late.1
 unfold r7_Used.f
 rw [S.refCount_eq hk (by omega) h.free.1,S.refCount_eq hk (by omega) h.late.1]
 simp only [Option.bind_some]
 have hz:=h.size
 have c0:((S.secFrom 0 fun i=>decide ((i:Int)<d.Size)).length:Int)=d.Size:=by
  have:=S.sec_below ⟨d.Size.toNat,by omega⟩
  simp only at this
  rw [Int.toNat_of_nonneg (by omega)] at this
  omega
 have q1:=S.sec_split (b:=fun i=>decide ((i:Int)<d.Size)) (c:=S.mem d.Free) 0
 have e1:S.secFrom 0 (fun i=>decide ((i:Int)<d.Size)&&S.mem d.Free i)=S.secFrom 0 (S.mem d.Free):=S.secFrom_congr 64 0 rfl fun j _ hj=>by
  cases m:S.mem d.Free j
  ·simp
  ·simp [S.below_iff.1 h.free.2 j hj m]
 have q2:=S.sec_split (b:=fun i=>decide ((i:Int)<d.Size)&&!S.mem d.Free i) (c:=S.mem d.Late) 0
 have e2:S.secFrom 0 (fun i=>decide ((i:Int)<d.Size)&&!S.mem d.Free i&&S.mem d.Late i)=S.secFrom 0 (S.mem d.Late):=S.secFrom_congr 64 0 rfl fun j _ hj=>by
  cases m:S.mem d.Late j
  ·simp
  ·have:=h.dis j hj
   rw [m,Bool.and_true] at this
   simp [S.below_iff.1 h.late.2 j hj m,this]
 have e3:S.secFrom 0 (fun i=>decide ((i:Int)<d.Size)&&!S.mem d.Free i&&!S.mem d.Late i)=S.secFrom 0 (busy d):=S.secFrom_congr 64 0 rfl fun j _ hj=>by
  unfold busy
  cases S.mem d.Free j <;>cases S.mem d.Late j <;>simp
 rw [e1] at q1
 rw [e2,e3] at q2
 have l1:=S.secFrom_len (S.mem d.Free) 0
 have l2:=S.secFrom_len (S.mem d.Late) 0
 have l3:usedN d=(S.secFrom 0 (busy d)).length:=rfl
 rw [w64_id (x:=d.Size-_) (by omega) (by omega),w64_id (by omega) (by omega)]
 congr 1
 omega
theorem first_least {b:Nat→Bool} {a:Nat} (ha:a<64) (h1:b a=true) (h2:∀j,j<a→b j=false):0<(S.segsOf b).length∧(rd (S.segsOf b) 0).At=(a:Int):=by
 have o:=S.segsOf_ok b
 have m:=S.mem_segsOf (b:=b) ha
 rw [h1] at m
 cases e:S.segsOf b with
 |nil=>rw [e] at m;simp [S.mem] at m
 |cons s r=>
  rw [e] at o m
  have q:=S.okFrom_cons.1 o
  refine ⟨by simp,?_⟩
  show s.At=(a:Int)
  have up:s.At≤(a:Int):=by
   simp only [S.mem,Bool.or_eq_true,Bool.and_eq_true,decide_eq_true_eq] at m
   rcases m with m|m
   ·exact m.1
   ·have:=S.mem_low q.2.2.2 m
    omega
  have hm:S.mem (s::r) s.At.toNat=true:=by
   simp only [S.mem,Bool.or_eq_true,Bool.and_eq_true,decide_eq_true_eq]
   left
   omega
  rw [←e,S.mem_segsOf (by omega)] at hm
  rcases Nat.lt_or_ge s.At.toNat a with c|c
  ·rw [h2 _ c] at hm;cases hm
  ·omega
theorem refCount_segs {b:Nat→Bool} {k:Nat} (hk:1000<k):r1_Count.f k (S.segsOf b)=some (num b:Int):=by
 have:=S.segsOf_len b
 rw [S.refCount_eq hk (by omega) (S.segsOf_ok b)]
 have:num (S.mem (S.segsOf b))=num b:=num_congr fun i hi=>S.mem_segsOf hi
 rw [←this]
 rfl
theorem refCount_l0 {P x:List Device} {k:Nat} {F L:Nat→Nat→Bool} {no:Int} (hk:1000<k) (hP:DevsOk P) (s:Sets P F L x):∀(n i:Nat),i≤P.length→P.length-i<n→r7_Count.l0 x no k n (tot P no F i:Nat) i=some (tot P no F P.length:Int)
 |0,i,_,h=>by omega
 |n+1,i,hi,hn=>by
  have hl:=hP.1
  have hx:=s.len
  rw [r7_Count.l0]
  by_cases c:i<P.length
  ·have ih:=refCount_l0 (no:=no) hk hP s n (i+1) (by omega) (by omega)
   have tl:=tot_le P no F i
   have nl:=num_le (F i)
   rw [if_pos (by omega),if_pos (by omega),s.at_ i c]
   simp only
   unfold r7_Count.j0
   by_cases a:(rd P (i:Int)).ID=no
   ·rw [if_pos a,w64_succ c (by omega),←ih]
    show _=r7_Count.l0 x no k n ((if (rd P (i:Int)).ID=no then tot P no F i else tot P no F i+num (F i):Nat):Int) _
    rw [if_pos a]
   ·rw [if_neg a,if_pos (by omega),refCount_segs hk]
    simp only [Option.bind_some]
    have e:w64 ((tot P no F i:Int)+(num (F i):Int))=((tot P no F (i+1):Nat):Int):=by
     show w64 ((tot P no F i:Int)+(num (F i):Int))=((if (rd P (i:Int)).ID=no then tot P no F i else tot P no F i+num (F i):Nat):Int)
     rw [if_neg a,w64_id (by omega) (by omega)]
     omega
    rw [e,w64_succ c (by omega),ih]
  ·rw [if_neg (by omega)]
   rw [show i=P.length by omega]
theorem refCount7_eq {P x:List Device} {k:Nat} {F L:Nat→Nat→Bool} {no:Int} (hk:1000<k) (hP:DevsOk P) (s:Sets P F L x):r7_Count.f k x no=some (tot P no F P.length:Int):=by
 have hl:=hP.1
 exact refCount_l0 hk hP s k 0 (by omega) (by omega)
theorem Two_less {b:Nat→Bool} {a k:Nat} (hk:1000<k) (ha:a<64):r1_Two.f k (S.segsOf b) [(⟨(a:Int),1⟩:Seg)] 1=some (S.segsOf fun i=>b i&&!decide (i=a)):=by
 have:=S.segsOf_len b
 have o:S.ok [(⟨(a:Int),1⟩:Seg)]=true:=by
  rw [S.okFrom_cons]
  exact ⟨by show (0:Int)≤(a:Int);omega,(by show (1:Int)≤1;omega),(by show (a:Int)+1≤64;omega),rfl⟩
 rw [S.Two_eq hk (by omega) (by simp) (S.segsOf_ok b) o]
 congr 1
 refine S.segsOf_congr fun i hi=>?_
 rw [S.mem_segsOf hi]
 show (b i&&!S.mem [(⟨(a:Int),1⟩:Seg)] i)=_
 have:S.mem [(⟨(a:Int),1⟩:Seg)] i=decide (i=a):=by
  simp only [S.mem,Bool.or_false]
  rw [←Bool.decide_and,decide_eq_decide]
  omega
 rw [this]
theorem refTake_l1 {P x:List Device} {k:Nat} {F L:Nat→Nat→Bool} {no:Int} (hk:1000<k) (hP:DevsOk P) (s:Sets P F L x) {m a:Nat} (hm:m<P.length) (e1:(best P no F P.length).1=(m:Int)) (ha:a<64) (h1:F m a=true) (h2:∀j,j<a→F m j=false) {acc:List Ptr} (hacc:acc.length≤1000) {i0:Int} (re0:List Device→List Ptr→Int→Option (List Ptr×List Device×Bool)):∀(n i:Nat),i≤P.length→P.length-i<n→
 r7_Take.l1 no k acc i0 x re0 n (best P no F i).1 ((best P no F i).2:Nat) i=re0 (x.set m ⟨(rd P (m:Int)).ID,(rd P (m:Int)).Size,S.segsOf (fun i=>F m i&&!decide (i=a)),S.segsOf (L m)⟩) (acc++[place P (m,a)]) (w64 (i0+1))
 |0,i,_,h=>by omega
 |n+1,i,hi,hn=>by
  have hl:=hP.1
  have hx:=s.len
  rw [r7_Take.l1]
  by_cases c:i<P.length
  ·have ih:=refTake_l1 hk hP s hm e1 ha h1 h2 hacc (i0:=i0) re0 n (i+1) (by omega) (by omega)
   rw [if_pos (by omega),if_pos (by omega),s.at_ i c]
   simp only
   rw [refCount_segs hk]
   simp only [Option.bind_some]
   rw [if_pos (by omega)]
   unfold r7_Take.j1 r7_Take.j0
   rw [w64_succ c (by omega)]
   have hb:best P no F (i+1)=if (rd P (i:Int)).ID≠no∧(best P no F i).2<num (F i) then ((i:Int),num (F i)) else best P no F i:=rfl
   by_cases a:(rd P (i:Int)).ID=no
   ·rw [if_pos a,if_neg (by simp)]
    rw [hb,if_neg fun z=>z.1 a] at ih
    exact ih
   ·rw [if_neg a]
    by_cases d:(best P no F i).2<num (F i)
    ·rw [if_pos (decide_eq_true (show ((best P no F i).2:Int)<(num (F i):Int) from Int.ofNat_lt.2 d))]
     rw [hb,if_pos ⟨a,d⟩] at ih
     exact ih
    ·rw [if_neg (by
      simp only [decide_eq_true_eq]
      exact fun z=>d (Int.ofNat_lt.1 z))]
     rw [hb,if_neg fun z=>d z.2] at ih
     exact ih
  ·have ei:i=P.length:=by omega
   subst ei
   obtain ⟨f0,f1⟩:=first_least ha h1 h2
   rw [if_neg (by omega),e1,if_pos (by omega),s.at_ m hm]
   simp only
   rw [if_pos (by omega),if_pos (by omega),if_pos (by omega),if_pos (by omega),f1,Two_less hk ha]
   simp only [Option.bind_some]
   rw [if_pos (by omega),Int.toNat_natCast]
   rfl
theorem EqPtrs_self {l:List Ptr} {k:Nat} (hl:l.length≤1000) (hk:1000<k):r0_EqPtrs.f k l l=some true:=by
 unfold r0_EqPtrs.f
 rw [if_pos rfl]
 refine (loop_says (f:=r0_EqPtrs.l0 l l) (len:=l.length) (E:=some true) (F:=some true) (P:=fun _=>True) ?_ ?_ ?_ k 0 (by omega) (by omega)).1 fun _ _ _=>trivial
 ·intro n i c _
  rw [r0_EqPtrs.l0,if_pos (by omega),if_pos (by omega),if_pos (by omega),if_pos rfl,w64_succ c (by omega)]
 ·intro n i c a
  exact absurd trivial a
 ·intro n
  rw [r0_EqPtrs.l0,if_neg (by omega)]
theorem CopyPtrs_l0 {l:List Ptr} (hl:l.length≤1000):∀(n i:Nat),i≤l.length→l.length-i<n→r0_CopyPtrs.l0 l n (l.take i) i=some l
 |0,i,_,h=>by omega
 |n+1,i,hi,hn=>by
  rw [r0_CopyPtrs.l0]
  by_cases c:i<l.length
  ·rw [if_pos (by omega),if_pos (by omega),if_pos (by rw [List.length_take];omega),w64_succ c (by omega),rd_nat c,←List.take_succ_eq_append_getElem c]
   exact CopyPtrs_l0 hl n (i+1) (by omega) (by omega)
  ·rw [if_neg (by omega),List.take_of_length_le (by omega)]
theorem CopyPtrs_eq {l:List Ptr} {k:Nat} (hl:l.length≤1000) (hk:1000<k):r0_CopyPtrs.f k l=some l:=CopyPtrs_l0 hl k 0 (by omega) (by omega)
end Go.Proofs.YtnaajldlloglkaaGreatDoor.W
