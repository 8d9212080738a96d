/- Plain facts; lines of the claims before, printed by mkfacts.py. -/
import Derived.Test.YtnaajldlloglkaaGreatDoorMoveF
import Derived.Test.YtnaajldlloglkaaGreatDoorMoveS
set_option linter.unusedVariables false
set_option linter.unusedSimpArgs false
namespace Go.Proofs.YtnaajldlloglkaaGreatDoor.W
open Go.H
def settleStep {R:Type} (k:Nat) (x:List Device) (i:Int) (re:List Device→Int→Option R):Option R:=
 (seg_Make.f k ((rd x i).Free)).bind fun y1=>(seg_Make.f k ((rd x i).Late)).bind fun y2=>(seg_Set_Segs.f k (uor y1 y2)).bind fun y3=>if 0≤i∧i<(x.length:Int) then (if 0≤i∧i<((x.set i.toNat (⟨(rd x i).ID,(rd x i).Size,y3,(rd x i).Late⟩:Device)).length:Int) then re ((x.set i.toNat (⟨(rd x i).ID,(rd x i).Size,y3,(rd x i).Late⟩:Device)).set i.toNat (⟨(rd (x.set i.toNat (⟨(rd x i).ID,(rd x i).Size,y3,(rd x i).Late⟩:Device)) i).ID,(rd (x.set i.toNat (⟨(rd x i).ID,(rd x i).Size,y3,(rd x i).Late⟩:Device)) i).Size,(rd (x.set i.toNat (⟨(rd x i).ID,(rd x i).Size,y3,(rd x i).Late⟩:Device)) i).Free,([]:List Seg)⟩:Device)) (w64 (i+1)) else none) else none
structure Settles {R:Type} (k N:Nat) (f:Nat→List Device→Int→Option R) (out:List Device→R):Prop where
 more:∀(n i:Nat) (x:List Device),i<N→x.length=N→f (n+1) x i=settleStep k x i (f n)
 stop:∀(n:Nat) (x:List Device),f (n+1) x (N:Int)=some (out x)
theorem settle_sets {R:Type} {P:List Device} {k:Nat} {F L:Nat→Nat→Bool} {f:Nat→List Device→Int→Option R} {out:List Device→R} (hk:1000<k) (hP:P.length≤1000) (hf:Settles k P.length f out):∀(n i:Nat) (x:List Device),i≤P.length→P.length-i<n→Sets P (fun j=>if j<i then fun s=>F j s||L j s else F j) (fun j=>if j<i then fun _=>false else L j) x→
 ∃x',Sets P (fun j s=>F j s||L j s) (fun _ _=>false) x'∧f n x i=some (out x')
 |0,i,x,_,hn,_=>by omega
 |n+1,i,x,hi,hn,s=>by
  have hx:=s.len
  by_cases c:i<P.length
  ·have ri:=s.at_ i c
   simp only [Nat.lt_irrefl,if_false] at ri
   obtain ⟨u,eu,hu⟩:=Make_segs (b:=F i) hk
   obtain ⟨v,ev,hv⟩:=Make_segs (b:=L i) hk
   rw [hf.more n i x c hx]
   unfold settleStep
   rw [ri]
   simp only
   rw [eu,ev]
   simp only [Option.bind_some]
   rw [S.Set_Segs_eq (hu.or hv) (by omega)]
   simp only [Option.bind_some,Int.toNat_natCast]
   rw [if_pos (by omega),if_pos (by rw [List.length_set];omega),w64_succ c (by omega)]
   have r2:rd (x.set i (⟨(rd P (i:Int)).ID,(rd P (i:Int)).Size,S.segsOf (fun s=>F i s||L i s),S.segsOf (L i)⟩:Device)) (i:Int)=⟨(rd P (i:Int)).ID,(rd P (i:Int)).Size,S.segsOf (fun s=>F i s||L i s),S.segsOf (L i)⟩:=by
    rw [rd_setD (by omega) (by omega),if_pos rfl]
   rw [r2]
   simp only
   rw [List.set_set]
   have q:=s.set c (b:=fun s=>F i s||L i s) (c:=fun _=>false)
   rw [S.segsOf_none] at q
   refine settle_sets hk hP hf n (i+1) _ (by omega) (by omega) ⟨q.len,fun j hj=>?_⟩
   rw [q.at_ j hj]
   by_cases d:j=i
   ·simp only [if_pos d]
    rw [if_pos (by omega),if_pos (by omega),d]
   ·simp only [if_neg d]
    by_cases e:j<i
    ·rw [if_pos e,if_pos e,if_pos (by omega),if_pos (by omega)]
    ·rw [if_neg e,if_neg e,if_neg (by omega),if_neg (by omega)]
  ·rw [show i=P.length by omega,hf.stop]
   refine ⟨x,⟨hx,fun j hj=>?_⟩,rfl⟩
   rw [s.at_ j hj,if_pos (by omega),if_pos (by omega)]
theorem settle_all {R:Type} {P x:List Device} {k:Nat} {F L:Nat→Nat→Bool} {f:Nat→List Device→Int→Option R} {out:List Device→R} (hk:1000<k) (hP:P.length≤900) (hf:Settles k P.length f out) (s:Sets P F L x):∃x',Sets P (fun j s=>F j s||L j s) (fun _ _=>false) x'∧f k x 0=some (out x'):=
 settle_sets hk (by omega) hf k 0 x (by omega) (by omega) ⟨s.len,fun j hj=>by rw [s.at_ j hj];simp⟩
def SegsIn (x:List Device):Prop:=∀d∈x,S.ok d.Free=true∧S.ok d.Late=true
theorem Busy_eq {P x:List Device} {k:Nat} {F L:Nat→Nat→Bool} (hk:1000<k) (hP:DevsOk P) (s:Sets P F L x) {m:Nat} (hm:m<P.length):
 ∃u,room_Busy.f k (rd x (m:Int))=some u∧S.IsSet u fun i=>decide ((i:Int)<(rd P (m:Int)).Size)&&!(F m i||L m i):=by
 have p:=(hP.2 m (by omega) hm).1.size
 obtain ⟨a,ea,ha⟩:=S.To_set (n:=(rd P (m:Int)).Size) (by omega) (by omega)
 obtain ⟨u,eu,hu⟩:=Make_segs (b:=F m) hk
 obtain ⟨v,ev,hv⟩:=Make_segs (b:=L m) hk
 refine ⟨_,?_,ha.andn (hu.or hv)⟩
 unfold room_Busy.f
 rw [s.at_ m hm]
 simp only
 rw [ea,eu,ev]
 rfl
end Go.Proofs.YtnaajldlloglkaaGreatDoor.W
namespace Go.Proofs.YtnaajldlloglkaaGreatDoor.W
open Go.H
theorem tOwn_eq {t:Table} (h:t.List_.length≤1000):table_Own.f t=some t:=by
 unfold table_Own.f slices_Clone_Entry.f
 rw [if_pos (by simp only [List.length_nil];omega)]
 rfl
theorem set_same {α:Type} [Inhabited α] {l:List α} {i:Nat} (h:i<l.length):l.set i (rd l (i:Int))=l:=by
 rw [rd_nat h];exact List.set_getElem_self h
theorem Owns_l0 {p:Pool} {y1:List Device} {y2:List Table} {y3:Table} (hl:y2.length≤1000) (h:∀t∈y2,t.List_.length≤1000):∀(n i:Nat),i≤y2.length→y2.length-i<n→chain_Own.l0 p y1 y2 y3 n i y2=some ⟨y1,y2,⟨p.Job.Dev,p.Job.At,y3⟩,p.Next⟩
 |0,i,_,hn=>by omega
 |n+1,i,hi,hn=>by
  rw [chain_Own.l0]
  by_cases c:i<y2.length
  ·rw [if_pos (by omega),if_pos (by omega),tOwn_eq (h _ (rd_mem c))]
   simp only [Option.bind_some,Int.toNat_natCast]
   rw [if_pos (by omega),set_same c,w64_succ c (by omega)]
   exact Owns_l0 hl h n (i+1) (by omega) (by omega)
  ·rw [if_neg (by omega)]
theorem Own_all {p:Pool} {k:Nat} (hk:1000<k) (hp:PIn p) (hd:DevsOk p.Devices):chain_Own.f k p=some p:=by
 have h1:=hp.tabs_len
 unfold chain_Own.f
 rw [Own_eq hk hd]
 simp only [Option.bind_some]
 unfold slices_Clone_Table.f
 rw [if_pos (by simp only [List.length_nil];omega)]
 simp only [Option.bind_some,List.nil_append]
 rw [tOwn_eq hp.job]
 exact Owns_l0 h1 hp.tabs k 0 (by omega) (by omega)
abbrev zpool:Pool:=⟨[],[],⟨0,0,⟨0,0,[]⟩⟩,0⟩
theorem zin:PIn zpool:=⟨fun d h=>absurd h List.not_mem_nil,Nat.zero_le _,Nat.zero_le _,fun d h=>absurd h List.not_mem_nil,Nat.zero_le _,by show -9223372036854775808≤(0:Int)∧(0:Int)<9223372036854775808;omega⟩
theorem SegsIn.at_ {x:List Device} (h:SegsIn x) {j:Nat} (hj:j<x.length):S.ok (rd x (j:Int)).Free=true∧S.ok (rd x (j:Int)).Late=true:=h _ (rd_mem hj)
theorem SegsIn.sets {x:List Device} (h:SegsIn x):Sets x (fun j=>S.mem (rd x (j:Int)).Free) (fun j=>S.mem (rd x (j:Int)).Late) x:=
 ⟨rfl,fun j hj=>by rw [S.segsOf_mem (h.at_ hj).1,S.segsOf_mem (h.at_ hj).2]⟩
theorem DevsOk.segs {x:List Device} (h:DevsOk x):SegsIn x:=fun d hd=>by
 obtain ⟨j,hj,e⟩:=List.getElem_of_mem hd
 have p:=(h.2 j (by omega) hj).1
 rw [rd_nat hj,e] at p
 exact ⟨p.free.1,p.late.1⟩
theorem SegsIn.devs {x:List Device} (h:SegsIn x):DevsIn x:=fun d hd=>by
 have:=ok_short (h d hd).1
 have:=ok_short (h d hd).2
 omega
structure Settled (x D:List Device):Prop where
 len:D.length=x.length
 devs:DevsIn D
 id:∀j:Nat,j<x.length→(rd D (j:Int)).ID=(rd x (j:Int)).ID∧(rd D (j:Int)).Size=(rd x (j:Int)).Size
theorem settle_same {x:List Device} {k:Nat} (hk:1000<k) (hx:SegsIn x) (hl:x.length≤900):∃D,Settled x D∧r7_Commit.f k x=some D∧
 ∀{R:Type} {f:Nat→List Device→Int→Option R} {out:List Device→R},Settles k x.length f out→f k x 0=some (out D):=by
 have s:=hx.sets
 obtain ⟨D,q,e⟩:=refCommit_l0 hk hl k 0 x (by omega) (by omega) (F:=fun j=>S.mem (rd x (j:Int)).Free) (L:=fun j=>S.mem (rd x (j:Int)).Late) ⟨s.len,fun j hj=>(s.at_ j hj).trans (by simp)⟩
 have e0:((0:Nat):Int)=0:=rfl
 rw [e0] at e
 refine ⟨D,⟨q.len,fun d hd=>?_,fun j hj=>by rw [q.at_ j hj];exact ⟨rfl,rfl⟩⟩,?_,fun {R f out} hf=>?_⟩
 ·obtain ⟨j,hj,e⟩:=List.getElem_of_mem hd
  have r:=q.at_ j (by rw [←q.len];exact hj)
  rw [rd_nat hj,e] at r
  rw [r]
  have a:=S.segsOf_len fun s=>S.mem (rd x (j:Int)).Free s||S.mem (rd x (j:Int)).Late s
  have b:=S.segsOf_len fun _:Nat=>false
  simp only
  omega
 ·unfold r7_Commit.f r0_CopyDevices.f
  have a:r0_CopyDevices.l0 x k k [] 0=some x:=CopyDs_l0 hk (by omega) hx.devs k 0 (by omega) (by omega)
  rw [a]
  exact e
 ·obtain ⟨D',q',e'⟩:=settle_all hk hl hf s
  rw [e',q'.ext q fun j i _ _=>⟨rfl,rfl⟩]
theorem Commit_same {p:Pool} {k:Nat} {D:List Device} (hk:1000<k) (hp:PIn p) (e:r7_Commit.f k p.Devices=some D):r9_Commit.f k p=some ⟨D,p.Tables,p.Job,p.Next⟩:=by
 unfold r9_Commit.f
 rw [CopyPool_eq hk hp]
 simp only [Option.bind_some]
 rw [e]
 rfl
theorem Remove_bad {p:Pool} {k:Nat} (hk:1000<k) (hp:PIn p) (h:¬PoolOk p) (n:Int):move_Remove.f k p n=some (zpool,1):=by
 unfold move_Remove.f
 rw [(May_says hk hp).2 h]
 rfl
theorem Step_bad {p:Pool} {k:Nat} (hk:1000<k) (hp:PIn p) (h:¬PoolOk p) (n:Int):move_Step.f k p n=some (zpool,[],1):=by
 unfold move_Step.f
 rw [(May_says hk hp).2 h]
 rfl
end Go.Proofs.YtnaajldlloglkaaGreatDoor.W
namespace Go.Proofs.YtnaajldlloglkaaGreatDoor.W
open Go.H
def loose (P:List Device) (m:Nat):Nat→Int
 |0=>0
 |n+1=>if n=m then loose P m n else loose P m n+((rd P (n:Int)).Size-(usedN (rd P (n:Int)):Int))
theorem loose_le {P:List Device} {m:Nat} (hP:DevsOk P):∀n,n≤P.length→ -64*(n:Int)≤loose P m n∧loose P m n≤64*(n:Int)
 |0,_=>by show -64*((0:Nat):Int)≤0∧(0:Int)≤64*((0:Nat):Int);omega
 |n+1,h=>by
  have ih:=loose_le (m:=m) hP n (by omega)
  have p:=(hP.2 n (by omega) (by omega)).1.size
  have u:=usedN_le (rd P (n:Int))
  show -64*((n+1:Nat):Int)≤(if n=m then loose P m n else loose P m n+((rd P (n:Int)).Size-(usedN (rd P (n:Int)):Int)))∧(if n=m then loose P m n else loose P m n+((rd P (n:Int)).Size-(usedN (rd P (n:Int)):Int)))≤64*((n+1:Nat):Int)
  split <;>omega
theorem loose_at {P:List Device} {m n:Nat}:loose P m (n+1)=if n=m then loose P m n else loose P m n+((rd P (n:Int)).Size-(usedN (rd P (n:Int)):Int)):=rfl
theorem Loose_l0 {P:List Device} {k m:Nat} (hk:1000<k) (hP:DevsOk P) (hm:m<P.length):∀(n i:Nat),i≤P.length→P.length-i<n→move_Loose.l0 P (rd P (m:Int)).ID k n (loose P m i) i=some (loose P m P.length)
 |0,i,_,h=>by omega
 |n+1,i,hi,hn=>by
  have hl:=hP.1
  rw [move_Loose.l0]
  by_cases c:i<P.length
  ·have ih:=Loose_l0 hk hP hm n (i+1) (by omega) (by omega)
   have b:=loose_le (m:=m) hP i (by omega)
   have p:=(hP.2 i (by omega) c).1
   have ps:=p.size
   have u:=usedN_le (rd P (i:Int))
   rw [if_pos (by omega),if_pos (by omega)]
   unfold move_Loose.j0
   rw [w64_succ c (by omega)]
   rw [loose_at] at ih
   by_cases a:i=m
   ·rw [if_pos (by rw [a])]
    rw [if_pos a] at ih
    exact ih
   ·rw [if_neg fun z=>a (id_inj hP c hm z)]
    rw [if_neg a] at ih
    obtain ⟨x,ex,hx⟩:=Busy_set hk p
    rw [ex]
    simp only [Option.bind_some]
    rw [S.Count_eq hx]
    simp only [Option.bind_some]
    have eu:((S.secFrom 0 (busy (rd P (i:Int)))).length:Int)=(usedN (rd P (i:Int)):Int):=rfl
    rw [eu,w64_id (x:=(rd P (i:Int)).Size-_) (by omega) (by omega),w64_id (by omega) (by omega)]
    exact ih
  ·rw [if_neg (by omega),show i=P.length by omega]
theorem Fits_l0 {p:Pool} {k m:Nat} (hk:1000<k) (hP:DevsOk p.Devices) (hm:m<p.Devices.length):∀(n i:Nat),i≤p.Devices.length→p.Devices.length-i<n→r9_Fits.l0 p m k n (loose p.Devices m i) i=some (decide ((usedN (rd p.Devices (m:Int)):Int)≤loose p.Devices m p.Devices.length))
 |0,i,_,h=>by omega
 |n+1,i,hi,hn=>by
  have hl:=hP.1
  rw [r9_Fits.l0]
  by_cases c:i<p.Devices.length
  ·have ih:=Fits_l0 hk hP hm n (i+1) (by omega) (by omega)
   have b:=loose_le (m:=m) hP i (by omega)
   have pp:=(hP.2 i (by omega) c).1
   have ps:=pp.size
   have u:=usedN_le (rd p.Devices (i:Int))
   rw [if_pos (by omega)]
   unfold r9_Fits.j0
   rw [w64_succ c (by omega)]
   rw [loose_at] at ih
   by_cases a:i=m
   ·rw [if_pos (by omega)]
    rw [if_pos a] at ih
    exact ih
   ·rw [if_neg (by omega),if_pos (by omega),if_pos (by omega),Used_eq hk pp]
    rw [if_neg a] at ih
    simp only [Option.bind_some]
    rw [w64_id (x:=loose p.Devices m i+_) (by omega) (by omega),w64_id (by omega) (by omega),show loose p.Devices m i+(rd p.Devices (i:Int)).Size-(usedN (rd p.Devices (i:Int)):Int)=loose p.Devices m i+((rd p.Devices (i:Int)).Size-(usedN (rd p.Devices (i:Int)):Int)) by omega]
    exact ih
  ·rw [if_neg (by omega),if_pos (by omega),Used_eq hk (hP.2 m (by omega) hm).1,show i=p.Devices.length by omega]
   rfl
theorem Remove_settles {k:Nat} {id:Int} {y:Pool} {y3:Int×Bool}:Settles k y.Devices.length (fun n x i=>move_Remove.l0 id k y y3 n x i) (fun x=>(⟨x,y.Tables,⟨id,0,⟨id,(rd y.Devices y3.1).Size,[]⟩⟩,y.Next⟩,0)):=by
 refine ⟨fun n i x hi hx=>?_,fun n x=>?_⟩
 ·rw [move_Remove.l0,if_pos (by omega),if_pos (by omega)]
  rfl
 ·rw [move_Remove.l0,if_neg (by omega)]
theorem Remove_same {p:Pool} {k:Nat} (hk:1100<k) (hp:PIn p) (ok:PoolOk p) {id:Int} (i0: -9223372036854775808≤id) (i1:id<9223372036854775808):∃r,move_Remove.f k p id=some r∧r9_Remove.f k p id=some r∧PIn r.1:=by
 have hP:=ok.devs
 have hl:=hP.1
 unfold move_Remove.f r9_Remove.f
 rw [(May_says (by omega) hp).1 ok]
 simp only [Option.bind_some,if_true]
 rw [Own_all (by omega) hp hP]
 simp only [Option.bind_some]
 rcases room_Find_spot (k:=k) (by omega) hP i0 i1 with ⟨m,hm,e,ef⟩|⟨no,m,ef⟩
 ·simp only at e
  subst e
  rw [ef,ref_At_in (p:=p) (by omega) hP hm rfl]
  simp only [Option.bind_some,if_true]
  rw [if_neg (show ¬(m:Int)<0 by omega)]
  by_cases hj:p.Job.Dev=0
  ·rw [if_pos hj,if_pos hj]
   by_cases c1:(p.Devices.length:Int)=1
   ·rw [if_pos c1,if_pos c1]
    exact ⟨_,rfl,rfl,zin⟩
   rw [if_neg c1,if_neg c1]
   by_cases c2:(12:Int)≤(p.Tables.length:Int)
   ·rw [if_pos c2,if_pos c2]
    exact ⟨_,rfl,rfl,zin⟩
   rw [if_neg c2,if_neg c2,if_pos (by omega)]
   have a1:move_Loose.l0 p.Devices (rd p.Devices (m:Int)).ID k k 0 0=_:=Loose_l0 (k:=k) (by omega) hP hm k 0 (by omega) (by omega)
   have a2:r9_Fits.l0 p m k k 0 0=_:=Fits_l0 (k:=k) (by omega) hP hm k 0 (by omega) (by omega)
   unfold move_Loose.f r9_Fits.f
   rw [a1,a2]
   obtain ⟨x,ex,hx⟩:=Busy_set (k:=k) (by omega) (hP.2 m (by omega) hm).1
   simp only [Option.bind_some]
   rw [ex]
   simp only [Option.bind_some]
   rw [S.Count_eq hx]
   simp only [Option.bind_some]
   have eu:((S.secFrom 0 (busy (rd p.Devices (m:Int)))).length:Int)=(usedN (rd p.Devices (m:Int)):Int):=rfl
   rw [eu]
   by_cases c3:loose p.Devices m p.Devices.length<(usedN (rd p.Devices (m:Int)):Int)
   ·rw [if_pos c3,decide_eq_false (by omega)]
    exact ⟨_,rfl,rfl,zin⟩
   ·rw [if_neg c3,decide_eq_true (by omega),if_pos (by omega)]
    simp only [if_true]
    obtain ⟨D,sd,e,se⟩:=settle_same (k:=k) (by omega) hP.segs (by omega)
    have dl:=sd.len
    have di:=sd.id m hm
    have s:move_Remove.l0 (rd p.Devices (m:Int)).ID k p ((m:Int),true) k p.Devices 0=_:=se (Remove_settles (id:=(rd p.Devices (m:Int)).ID) (y:=p) (y3:=((m:Int),true)))
    rw [s,Commit_same (by omega) hp e]
    simp only [Option.bind_some]
    rw [if_pos (by omega),di.2]
    exact ⟨_,rfl,rfl,⟨sd.devs,by show D.length≤1000;omega,hp.tabs_len,hp.tabs,Nat.zero_le _,by show -9223372036854775808≤(rd p.Devices (m:Int)).ID∧(rd p.Devices (m:Int)).ID<9223372036854775808;omega⟩⟩
  ·rw [if_neg hj,if_neg hj]
   exact ⟨_,rfl,rfl,zin⟩
 ·rw [ef,ref_At_out (p:=p) (by omega) hP fun ⟨m,hm,e⟩=>no m hm e]
  simp only [Option.bind_some,Bool.false_eq_true,if_false]
  rw [if_pos (show (-1:Int)<0 by omega)]
  exact ⟨_,rfl,rfl,zin⟩
end Go.Proofs.YtnaajldlloglkaaGreatDoor.W
namespace Go.Proofs.YtnaajldlloglkaaGreatDoor.W
open Go.H
structure Spot2 (p:Pool) (id:Int) (c:Nat):Prop where
 le:c≤p.Tables.length
 lo:∀j:Nat,j<c→(rd p.Tables (j:Int)).Dev<id
 hi:∀j:Nat,c≤j→j<p.Tables.length→id<(rd p.Tables (j:Int)).Dev
theorem Find_place {p:Pool} (hl:p.Tables.length≤1000) (hb:∀j:Nat,j<p.Tables.length→0≤(rd p.Tables (j:Int)).Dev∧(rd p.Tables (j:Int)).Dev≤1000) (ha:∀j:Nat,j<p.Tables.length→0<j→(rd p.Tables ((j-1:Nat):Int)).Dev<(rd p.Tables (j:Int)).Dev) {id:Int} (i0:0≤id) (i1:id≤1000) (no:∀j:Nat,j<p.Tables.length→(rd p.Tables (j:Int)).Dev≠id):
 ∀(n lo hi:Nat),lo≤hi→hi≤p.Tables.length→hi-lo<n→(∀j:Nat,j<lo→(rd p.Tables (j:Int)).Dev<id)→(∀j:Nat,hi≤j→j<p.Tables.length→id<(rd p.Tables (j:Int)).Dev)→∃c,Spot2 p id c∧chain_Find.l0 p id n lo hi=some ((c:Int),false)
 |0,lo,hi,_,_,h,_,_=>by omega
 |n+1,lo,hi,h1,h2,hn,below,above=>by
  unfold chain_Find.l0
  by_cases c:lo<hi
  ·rw [if_pos (by omega),mid_eq (by omega) (by omega),if_pos (by omega)]
   unfold chain_Find_1.f
   simp only [Option.bind_some]
   have hj:(lo+hi)/2<p.Tables.length:=by omega
   have b:=hb _ hj
   have ne:=no _ hj
   rw [w64_id (x:=(rd p.Tables (((lo+hi)/2:Nat):Int)).Dev-id) (by omega) (by omega)]
   by_cases d:(rd p.Tables (((lo+hi)/2:Nat):Int)).Dev-id<0
   ·rw [if_pos d,w64_succ hj (by omega)]
    refine Find_place hl hb ha i0 i1 no n ((lo+hi)/2+1) hi (by omega) h2 (by omega) (fun j hjj=>?_) above
    rcases Nat.lt_or_ge j ((lo+hi)/2) with z|z
    ·have:(rd p.Tables (j:Int)).Dev<(rd p.Tables (((lo+hi)/2:Nat):Int)).Dev:=asc_lt (g:=fun m:Nat=>(rd p.Tables (m:Int)).Dev) ha z hj
     omega
    ·have e:j=(lo+hi)/2:=by omega
     rw [e]
     omega
   ·rw [if_neg d]
    refine Find_place hl hb ha i0 i1 no n lo ((lo+hi)/2) (by omega) (by omega) (by omega) below fun j h3 h4=>?_
    rcases Nat.lt_or_ge ((lo+hi)/2) j with z|z
    ·have:(rd p.Tables (((lo+hi)/2:Nat):Int)).Dev<(rd p.Tables (j:Int)).Dev:=asc_lt (g:=fun m:Nat=>(rd p.Tables (m:Int)).Dev) ha z h4
     omega
    ·have e:j=(lo+hi)/2:=by omega
     rw [e]
     omega
  ·have e:hi=lo:=by omega
   subst e
   refine ⟨hi,⟨h2,below,above⟩,?_⟩
   rw [if_neg (by omega)]
   unfold chain_Find.j0
   by_cases d:hi<p.Tables.length
   ·have b:=hb _ d
    have ne:=no _ d
    rw [if_pos (by omega),if_pos (by omega)]
    unfold chain_Find_1.f
    simp only [Option.bind_some]
    rw [w64_id (by omega) (by omega),beq_eq_false_iff_ne.2 (by omega)]
   ·rw [if_neg (by omega)]
theorem Put_same {p:Pool} {k:Nat} (hk:1000<k) {it a d s:Int} {lt:List Pair} (hlt:lt.length≤1000) {E:List Entry} (hE:E.length≤1000) {q:Ptr} {x:List Device} (re:Int→List Pair→List Device→Int→List Entry→Option (Pool×List Pair×Int)):
 ∃E',E'.length≤E.length+1∧move_Step.j3 p it lt a E re [q] true x=move_Step.j2 it a re true (lt++[(⟨⟨p.Job.Dev,a⟩,q⟩:Pair)]) x E'∧r7_Add.f k ⟨d,s,E⟩ a q=some ⟨d,s,E'⟩:=by
 have go:∀E',move_Step.j5 p it lt a [q] x re E'=move_Step.j2 it a re true (lt++[(⟨⟨p.Job.Dev,a⟩,q⟩:Pair)]) x E':=fun E'=>by
  unfold move_Step.j5
  rw [if_pos (by simp),if_pos (by omega)]
  rfl
 have snoc:move_Step.j6 p it lt a E [q] x re=move_Step.j2 it a re true (lt++[(⟨⟨p.Job.Dev,a⟩,q⟩:Pair)]) x (E++[(⟨a,1,q.Dev,q.At,0⟩:Entry)]):=by
  unfold move_Step.j6
  rw [if_pos (by omega),go]
  rfl
 have snoc2:r7_Add.j0 a q ⟨d,s,E⟩=some ⟨d,s,E++[(⟨a,1,q.Dev,q.At,0⟩:Entry)]⟩:=by
  unfold r7_Add.j0
  rw [if_pos (by show (E.length+1)*40≤_;omega)]
 have two:∀b:Bool,b=false→move_Step.j7 p it lt a E [q] x re b=move_Step.j6 p it lt a E [q] x re∧r7_Add.j1 a q ⟨d,s,E⟩ b=r7_Add.j0 a q ⟨d,s,E⟩:=fun b hb=>by
  unfold move_Step.j7 r7_Add.j1
  rw [hb,if_neg (by simp),if_neg (by simp)]
  exact ⟨rfl,rfl⟩
 have ln:(E++[(⟨a,1,q.Dev,q.At,0⟩:Entry)]).length≤E.length+1:=by rw [List.length_append];exact Nat.le_refl _
 unfold move_Step.j3 r7_Add.f
 rw [T.CopyT_eq hE hk,if_pos rfl,if_pos (by simp)]
 simp only [Option.bind_some]
 by_cases c0:0<E.length
 ·have g0:(0:Int)≤((E.length-1:Nat):Int):=by omega
  have g1:(0:Int)≤((E.length-1:Nat):Int)∧((E.length-1:Nat):Int)<(E.length:Int):=by omega
  rw [w64_pred c0 (Nat.le_refl _) (by omega),if_pos g0,if_pos g1,if_pos g0,if_pos g1]
  unfold table_end.f
  simp only [Option.bind_some]
  have rq:rd [q] 0=q:=rfl
  rw [rq]
  by_cases c1:w64 ((rd E ((E.length-1:Nat):Int)).From+(rd E ((E.length-1:Nat):Int)).Len)=a
  ·rw [if_pos c1,if_pos c1]
   by_cases c2:(rd E ((E.length-1:Nat):Int)).Dev=q.Dev
   ·rw [if_pos c2,if_pos c2]
    cases c3:w64 ((rd E ((E.length-1:Nat):Int)).To+(rd E ((E.length-1:Nat):Int)).Len)==q.At
    ·rw [(two _ rfl).1,(two _ rfl).2,snoc,snoc2]
     exact ⟨_,ln,rfl,rfl⟩
    ·unfold move_Step.j7 r7_Add.j1
     simp only [w64_pred c0 (Nat.le_refl _) (show E.length<4611686018427387904 by omega)]
     rw [if_pos trivial,if_pos g1,if_pos g1,if_pos trivial,if_pos g1,if_pos g1,go]
     exact ⟨_,by rw [List.length_set];omega,rfl,rfl⟩
   ·rw [if_neg c2,if_neg c2,(two _ rfl).1,(two _ rfl).2,snoc,snoc2]
    exact ⟨_,ln,rfl,rfl⟩
  ·rw [if_neg c1,if_neg c1,(two _ rfl).1,(two _ rfl).2,snoc,snoc2]
   exact ⟨_,ln,rfl,rfl⟩
 ·rw [w64_id (by omega) (by omega),if_neg (by omega),if_neg (by omega),snoc,snoc2]
  exact ⟨_,ln,rfl,rfl⟩
theorem Take_same {p:Pool} {P x:List Device} {k:Nat} {F L:Nat→Nat→Bool} {no:Int} (hk:1100<k) (hP:DevsOk P) (s:Sets P F L x) (o:SetsOk P F L) (hn:p.Job.Dev=no) {it a:Int} {lt:List Pair} {E:List Entry} {re:Int→List Pair→List Device→Int→List Entry→Option (Pool×List Pair×Int)}:
 (tot P no F P.length=0∧room_Free.f k x no=some 0∧r7_Take.f k x 1 no=some ([],[],false))∨
 (∃(c:Nat) (q:Ptr) (x':List Device) (F':Nat→Nat→Bool),0<c∧room_Free.f k x no=some (c:Int)∧Sets P F' L x'∧SetsOk P F' L∧move_Step.l1 k p it lt a E re k x [] 0=move_Step.j3 p it lt a E re [q] true x'∧r7_Take.f k x 1 no=some ([q],x',true)):=by
 have hl:=hP.1
 have hx:=s.len
 have tl:=tot_le P no F P.length
 have dx:=s.ok hP o
 unfold r7_Take.f
 rw [Free_eq (by omega) hP s,refCount7_eq (by omega) hP s]
 simp only [Option.bind_some]
 by_cases c:tot P no F P.length=0
 ·left
  rw [c]
  exact ⟨rfl,rfl,rfl⟩
 right
 rcases best_at P no F P.length with ⟨_,_,z⟩|⟨m,hm,e1,e2,e3,_⟩
 ·omega
 obtain ⟨b,u,v,w,hb,h1,h2,eu,el,ev,es⟩:=one_step (k:=k) (no:=no) (by omega) hP s hm e3
 have cp:r0_CopyDevices.f k x=some x:=CopyDs_l0 (by omega) (by omega) (devs_in dx) k 0 (by omega) (by omega)
 rw [if_neg (by omega),cp]
 simp only [Option.bind_some]
 have q:=s.set hm (b:=fun i=>F m i&&!decide (i=b)) (c:=L m)
 refine ⟨tot P no F P.length,place P (m,b),x.set m ⟨(rd P (m:Int)).ID,(rd P (m:Int)).Size,S.segsOf (fun i=>F m i&&!decide (i=b)),S.segsOf (L m)⟩,fun j=>if j=m then (fun i=>F m i&&!decide (i=b)) else F j,by omega,rfl,?_,?_,?_,?_⟩
 ·refine ⟨q.len,fun j hj=>?_⟩
  rw [q.at_ j hj]
  by_cases z:j=m
  ·subst z
   simp only [if_true]
  ·simp only [if_neg z]
 ·have sub:∀j i:Nat,(if j=m then (fun i=>F m i&&!decide (i=b)) else F j) i=true→F j i=true:=fun j i h=>by
   by_cases z:j=m
   ·subst z
    rw [if_pos rfl] at h
    simp only [Bool.and_eq_true] at h
    exact h.1
   ·rw [if_neg z] at h
    exact h
  refine ⟨fun j i hj hi h=>o.free j i hj hi (sub j i h),o.late,fun j i hj hi=>?_⟩
  have d:=o.dis j i hj hi
  cases y:(if j=m then (fun i=>F m i&&!decide (i=b)) else F j) i
  ·rfl
  ·rw [sub j i y] at d
   exact d
 ·match k,hk with
  |k+1,hk=>
   rw [move_Step.l1,if_pos (by omega),hn,emptiest_eq (by omega) hP s,e1]
   simp only [Option.bind_some]
   rw [if_neg (by omega),if_pos (by omega),eu]
   simp only [Option.bind_some]
   rw [if_pos (by omega),el]
   simp only [Option.bind_some]
   rw [ev]
   simp only [Option.bind_some]
   rw [es]
   simp only [Option.bind_some]
   rw [if_pos (by omega)]
   unfold move_Step.j4
   rw [if_pos (by simp),s.at_ m hm]
   simp only [Int.toNat_natCast,List.nil_append]
   match k,hk with
   |k+1,hk=>
    rw [move_Step.l1,if_neg (by decide)]
    rfl
 ·match k,hk with
  |k+1,hk=>
   rw [r7_Take.l0,if_pos (by omega)]
   have rl:=refTake_l1 (k:=k+1) (by omega) hP s hm e1 hb h1 h2 (acc:=[]) (by simp) (i0:=0) (r7_Take.l0 1 no (k+1) k) (k+1) 0 (by omega) (by omega)
   have rl:r7_Take.l1 no (k+1) [] 0 x (r7_Take.l0 1 no (k+1) k) (k+1) (-1) 0 0=_:=rl
   rw [rl]
   match k,hk with
   |k+1,hk=>
    rw [r7_Take.l0,if_neg (by decide)]
    rfl
end Go.Proofs.YtnaajldlloglkaaGreatDoor.W
namespace Go.Proofs.YtnaajldlloglkaaGreatDoor.W
open Go.H
theorem tab_long {dev size:Int}:∀{l:List Entry} {lo:Int},lo≤size→T.tabFrom dev size lo l=true→lo+(l.length:Int)≤size
 |[],lo,h,_=>by simp;exact h
 |x::r,lo,h,e=>by
  obtain ⟨a,b,c⟩:=T.tabFrom_cons.1 e
  unfold T.EntOk at b
  have:=tab_long (by omega) c
  rw [List.length_cons]
  omega
section
variable {p:Pool} {k m:Nat}
theorem Step_settles {lt:List Pair} {y:Pool} {x:List Device} {Ts:List W.Table} {a b c d:Int} {E:List Entry}:Settles k x.length (fun n x' i=>move_Step.l2 k y lt x Ts a b c d E n x' i) (fun x'=>(⟨x',Ts,⟨a,b,⟨c,d,E⟩⟩,y.Next⟩,lt,0)):=by
 refine ⟨fun n i x' hi hx=>?_,fun n x'=>?_⟩
 ·rw [move_Step.l2,if_pos (by omega),if_pos (by omega)]
  rfl
 ·rw [move_Step.l2,if_neg (by omega)]
theorem Last_same (hk:1000<k) {y:Pool} {x:List Device} {Ts:List W.Table} {a b c d:Int} {E:List Entry} {lt:List Pair} (hx:SegsIn x) (hl:x.length≤900) (ht:Ts.length≤1000) (htl:∀t∈Ts,t.List_.length≤1000) (hE:E.length≤1000) (ha: -9223372036854775808≤a∧a<9223372036854775808):
 ∃r,move_Step.j8 k y lt x Ts a b c d E=some r∧r9_Step.j3 k y lt x Ts a b c d E=some r∧PIn r.1∧r.2.1=lt:=by
 obtain ⟨D,sd,e,se⟩:=settle_same hk hx hl
 have dl:=sd.len
 have pin:PIn (⟨x,Ts,⟨a,b,⟨c,d,E⟩⟩,y.Next⟩:Pool):=⟨hx.devs,by show x.length≤1000;omega,ht,htl,hE,ha⟩
 unfold move_Step.j8 r9_Step.j3
 rw [se (Step_settles (y:=y) (lt:=lt) (Ts:=Ts) (a:=a) (b:=b) (c:=c) (d:=d) (E:=E)),Commit_same hk pin e]
 exact ⟨_,rfl,rfl,⟨sd.devs,by show D.length≤1000;omega,ht,htl,hE,ha⟩,rfl⟩
theorem Place_l1 {y3 c4 c5:Int} {lt:List Pair} {x y8:List Device} {E:List Entry} {c:Nat} (hk:1000<k) (hp:PIn p) (s:Spot2 p p.Job.Dev c) (hE:E.length≤1000):∀(n i:Nat),i≤c→c-i<n→r9_Step.l1 k p y3 lt x c4 c5 E y8 n i=r9_Step.j5 k p y3 lt x y8 (p.Tables.take c++⟨c4,c5,E⟩::p.Tables.drop c)
 |0,i,_,h=>by omega
 |n+1,i,hi,hn=>by
  have h1:=hp.tabs_len
  have hc:=s.le
  have fin:∀re,c=i→r9_Step.j4 k p y3 lt x c4 c5 E y8 (i:Int) re false=r9_Step.j5 k p y3 lt x y8 (p.Tables.take c++⟨c4,c5,E⟩::p.Tables.drop c):=fun re e=>by
   subst e
   unfold r9_Step.j4
   have tl:(p.Tables.take c).length=c:=by rw [List.length_take];omega
   have dl:(p.Tables.drop c).length=p.Tables.length-c:=by rw [List.length_drop]
   have cp:r0_CopyTables.f k (p.Tables.take c)=some (p.Tables.take c):=CopyTs_l0 hk (by omega) (fun t ht=>hp.tabs t (List.mem_of_mem_take ht)) k 0 (by omega) (by omega)
   have g:(0:Int)≤(c:Int)∧(c:Int)≤(p.Tables.length:Int):=by omega
   rw [if_neg (by simp),if_pos g,Int.toNat_natCast,cp]
   simp only [Option.bind_some]
   rw [if_pos (by omega),if_pos g,if_pos (by simp only [List.length_append,List.length_cons,List.length_nil];omega),List.append_assoc]
   rfl
  rw [r9_Step.l1]
  by_cases e:c=i
  ·by_cases q:i<p.Tables.length
   ·have:=s.hi i (by omega) q
    rw [if_pos (by omega),if_pos (by omega),decide_eq_false (by omega)]
    exact fin _ e
   ·rw [if_neg (by omega)]
    exact fin _ e
  ·have:=s.lo i (by omega)
   rw [if_pos (by omega),if_pos (by omega),decide_eq_true (by omega)]
   unfold r9_Step.j4
   rw [if_pos rfl,w64_succ (show i<p.Tables.length by omega) (by omega)]
   exact Place_l1 hk hp s hE n (i+1) (by omega) (by omega)
theorem End_same (hk:1100<k) (hp:PIn p) (ok:PoolOk p) (hB:Begun p m) {it it9:Int} {re:Int→List Pair→List Device→Int→List Entry→Option (Pool×List Pair×Int)} {re':List Pair→Int→List Device→Int→Int→Int→List Entry→Option (Pool×List Pair×Int)} {a:Nat} {lt:List Pair} {x:List Device} {F L:Nat→Nat→Bool} {E:List Entry} (s:Sets p.Devices F L x) (o:SetsOk p.Devices F L) (ha:(a:Int)≤(rd p.Devices (m:Int)).Size) (hE:E.length≤1000):
 ∃r,move_Step.j1 k p it lt x a E re false=some r∧r9_Step.j0 k p m lt it9 x a p.Job.Table.Dev p.Job.Table.Size E re' false=some r∧PIn r.1∧r.2.1=lt:=by
 have hP:=ok.devs
 have hl:=hP.1
 have hm:=hB.lt
 have hx:=s.len
 have dx:=s.ok hP o
 have xm:=s.at_ m hm
 have bi:=hB.id
 have bs:=hB.size
 have pm:=(hP.2 m (by omega) hm).1
 have pid:=pm.id
 unfold move_Step.j1 r9_Step.j0
 have gm:(0:Int)≤(m:Int)∧(m:Int)<(x.length:Int):=by omega
 have ff:¬(false=true):=by simp
 rw [if_neg ff,if_neg ff,if_pos gm,xm,bs]
 by_cases c:(a:Int)<(rd p.Devices (m:Int)).Size
 ·rw [if_pos c,if_neg (show ¬(a:Int)=_ by simp only;omega)]
  exact Last_same (y:=p) (by omega) dx.segs (by omega) hp.tabs_len hp.tabs hE hp.jobDev
 ·have gm1:(0:Int)≤(m:Int)∧(m:Int)≤(x.length:Int):=by omega
  have wm:w64 ((m:Int)+1)=((m+1:Nat):Int):=w64_succ hm (by omega)
  have tl:(x.take m).length=m:=by rw [List.length_take];omega
  have dl:(x.drop (m+1)).length=x.length-(m+1):=by rw [List.length_drop]
  have cpd:r0_CopyDevices.f k (x.take m)=some (x.take m):=CopyDs_l0 (by omega) (by omega) (fun d hd=>devs_in dx d (List.mem_of_mem_take hd)) k 0 (by omega) (by omega)
  rw [if_neg c,if_pos (show (a:Int)=_ by simp only;omega),if_pos gm1,wm,if_pos (by omega),Int.toNat_natCast,Int.toNat_natCast,cpd]
  simp only [Option.bind_some]
  rw [if_pos (by omega)]
  have fx:room_Find.f k x p.Job.Dev=some ((m:Int),true):=find_in (p:=⟨x,p.Tables,p.Job,p.Next⟩) (by omega) dx (show m<x.length by omega) hp.jobDev.1 hp.jobDev.2 (show (rd x (m:Int)).ID=_ by rw [xm];exact bi)
  rw [fx]
  simp only [Option.bind_some]
  have tdev:∀j:Nat,j<p.Tables.length→1≤(rd p.Tables (j:Int)).Dev∧(rd p.Tables (j:Int)).Dev≤40:=fun j hj=>by
   have:=tab_dev (ok.ids.tabs j (by omega) hj).ok
   exact ⟨this.1,this.2.1⟩
  obtain ⟨q,sq,eq⟩:=Find_place (p:=⟨x,p.Tables,⟨p.Job.Dev,a,⟨p.Job.Table.Dev,p.Job.Table.Size,E⟩⟩,p.Next⟩) hp.tabs_len (fun j hj=>by have:=tdev j hj;show 0≤(rd p.Tables (j:Int)).Dev∧(rd p.Tables (j:Int)).Dev≤1000;omega) (fun j hj z=>(ok.ids.tabs j (by omega) hj).asc z) (id:=p.Job.Dev) (by omega) (by omega) (fun j hj e=>(ok.ids.tabs j (by omega) hj).dev ⟨m,hm,bi.trans e.symm⟩) k 0 p.Tables.length (by omega) (by show p.Tables.length≤p.Tables.length;omega) (by have:=hp.tabs_len;omega) (fun j hj=>by omega) (fun j h1 h2=>absurd h2 (by show ¬j<p.Tables.length;omega))
  have sq':Spot2 p p.Job.Dev q:=⟨sq.le,sq.lo,sq.hi⟩
  have ql:=sq'.le
  unfold chain_Find.f
  have eq':chain_Find.l0 (⟨x,p.Tables,⟨p.Job.Dev,a,⟨p.Job.Table.Dev,p.Job.Table.Size,E⟩⟩,p.Next⟩:Pool) p.Job.Dev k 0 (p.Tables.length:Int)=some ((q:Int),false):=eq
  rw [bs] at eq'
  rw [eq']
  simp only [Option.bind_some]
  unfold slices_Delete_Device.f slices_Insert_Table.f
  have tln:=ok.len
  rw [wm,if_pos (by omega),if_pos (by omega),Int.toNat_natCast,Int.toNat_natCast,Int.toNat_natCast]
  simp only [Option.bind_some]
  have pl:=Place_l1 (k:=k) (y3:=(m:Int)) (c4:=p.Job.Table.Dev) (c5:=(rd p.Devices (m:Int)).Size) (lt:=lt) (x:=x) (y8:=x.take m) (by omega) hp sq' hE k 0 (by omega) (by omega)
  have pl:r9_Step.l1 k p m lt x p.Job.Table.Dev (rd p.Devices (m:Int)).Size E (x.take m) k 0=_:=pl
  rw [pl]
  unfold move_Step.j9 r9_Step.j5
  rw [wm,Int.toNat_natCast]
  have sg:SegsIn (x.take m++x.drop (m+1)):=fun d hd=>by
   rcases List.mem_append.1 hd with h|h
   ·exact dx.segs d (List.mem_of_mem_take h)
   ·exact dx.segs d (List.mem_of_mem_drop h)
  exact Last_same (y:=p) (by omega) sg (by rw [List.length_append,tl,dl];omega) (by rw [List.length_append,List.length_cons,List.length_take,List.length_drop];omega) (fun t ht=>by
   rcases List.mem_append.1 ht with h|h
   ·exact hp.tabs t (List.mem_of_mem_take h)
   ·rcases List.mem_cons.1 h with h|h
    ·rw [h];exact hE
    ·exact hp.tabs t (List.mem_of_mem_drop h)) (Nat.zero_le _) (by omega)
theorem Step_l0 (hk:1100<k) (hp:PIn p) (ok:PoolOk p) (hB:Begun p m) {N:Int} (hN:N≤64) {L:Nat→Nat→Bool}:∀(n i a:Nat) (lt:List Pair) (x:List Device) (F:Nat→Nat→Bool) (E:List Entry),(i:Int)≤N→N.toNat-i<n→(a:Int)≤(rd p.Devices (m:Int)).Size→Sets p.Devices F L x→SetsOk p.Devices F L→E.length≤100+i→lt.length≤i→
 ∃r,move_Step.l0 k p n (N-(i:Int)) lt x a E=some r∧r9_Step.l0 N k p m n lt i x a p.Job.Table.Dev p.Job.Table.Size E=some r∧PIn r.1∧r.2.1.length≤64
 |0,i,a,lt,x,F,E,_,h,_,_,_,_,_=>by omega
 |n+1,i,a,lt,x,F,E,hi,hn,ha,s,o,hE,hlt=>by
  have hP:=ok.devs
  have hl:=hP.1
  have hm:=hB.lt
  have hx:=s.len
  have dx:=s.ok hP o
  have xm:=s.at_ m hm
  have bi:=hB.id
  have bs:=hB.size
  have pm:=(hP.2 m (by omega) hm).1
  have ps:=pm.size
  have fin:∀(it it9:Int) re re',∃r,move_Step.j1 k p it lt x a E re false=some r∧r9_Step.j0 k p m lt it9 x a p.Job.Table.Dev p.Job.Table.Size E re' false=some r∧PIn r.1∧r.2.1.length≤64:=fun it it9 re re'=>by
   obtain ⟨r,h1,h2,h3,h4⟩:=End_same (it:=it) (it9:=it9) (re:=re) (re':=re') hk hp ok hB s o ha (show E.length≤1000 by omega)
   exact ⟨r,h1,h2,h3,by rw [h4];omega⟩
  have gm:(0:Int)≤(m:Int)∧(m:Int)<(x.length:Int):=by omega
  rw [move_Step.l0,r9_Step.l0]
  by_cases c:(i:Int)<N
  ·rw [if_pos (show 0<N-(i:Int) by omega),if_pos c,if_pos gm,bs,xm]
   by_cases d:(a:Int)<(rd p.Devices (m:Int)).Size
   ·rw [decide_eq_true d]
    have a64:a<64:=by omega
    have ins:S.inNum (a:Int)=true:=S.inNum_iff.2 ⟨by omega,by omega⟩
    have fx:room_Find.f k x p.Job.Dev=some ((m:Int),true):=find_in (p:=⟨x,p.Tables,p.Job,p.Next⟩) (by omega) dx (show m<x.length by omega) hp.jobDev.1 hp.jobDev.2 (show (rd x (m:Int)).ID=_ by rw [xm];exact bi)
    obtain ⟨u,eu,hu⟩:=Busy_eq (k:=k) (by omega) hP s hm
    have f1:=S.segsOf_len (F m)
    have f2:=S.segsOf_len (L m)
    have wi:w64 (N-(i:Int)-1)=N-((i+1:Nat):Int):=by rw [w64_id (by omega) (by omega)];omega
    have wa:w64 ((a:Int)+1)=((a+1:Nat):Int):=w64_succ a64 (by omega)
    have w9:w64 ((i:Int)+1)=((i+1:Nat):Int):=w64_succ (n:=64) (by omega) (by omega)
    unfold move_Step.j1 r9_Step.j0
    rw [if_pos rfl,if_pos rfl,if_pos gm,fx]
    simp only [Option.bind_some]
    rw [if_pos gm,eu]
    simp only [Option.bind_some]
    rw [S.SetHas_eq hu,xm]
    simp only [Option.bind_some]
    rw [S.refHas_eq (by omega) (by omega) (S.segsOf_ok _),ins,Bool.true_and,Bool.true_and,Int.toNat_natCast,S.mem_segsOf a64,decide_eq_true d,Bool.true_and]
    simp only [Option.bind_some]
    have skip:∃r,move_Step.j2 (N-(i:Int)) a (move_Step.l0 k p n) true lt x E=some r∧r9_Step.j2 k p lt i x a p.Job.Table.Dev p.Job.Table.Size E (r9_Step.l0 N k p m n) true=some r∧PIn r.1∧r.2.1.length≤64:=by
     unfold move_Step.j2 r9_Step.j2 r9_Step.j1
     rw [if_pos rfl,if_pos rfl,wi,wa,w9]
     exact Step_l0 hk hp ok hB hN n (i+1) (a+1) lt x F E (by omega) (by omega) (by omega) s o (by omega) (by omega)
    have ff:¬(false=true):=by simp
    cases hF:F m a
    ·rw [if_neg ff,if_pos gm]
     rw [S.refHas_eq (by omega) (by omega) (S.segsOf_ok _),ins,Bool.true_and,Int.toNat_natCast,S.mem_segsOf a64]
     simp only [Option.bind_some]
     cases hL:L m a
     ·rw [if_pos (by rfl)]
      unfold r9_Step.j2
      rw [if_neg (by simp)]
      rcases Take_same (p:=p) (k:=k) (no:=p.Job.Dev) (it:=N-(i:Int)) (a:=(a:Int)) (lt:=lt) (E:=E) (re:=move_Step.l0 k p n) hk hP s o rfl with ⟨_,e1,e2⟩|⟨t,q,x',F',t0,e1,s',o',e3,e2⟩
      ·rw [e1,e2]
       simp only [Option.bind_some]
       rw [if_pos (by omega)]
       unfold move_Step.j3 move_Step.j2
       rw [if_neg (by simp),if_neg (by simp),if_neg (by simp)]
       exact ⟨_,rfl,rfl,zin,Nat.zero_le _⟩
      ·obtain ⟨E',el,g1,g2⟩:=Put_same (p:=p) (k:=k) (it:=N-(i:Int)) (a:=(a:Int)) (d:=p.Job.Table.Dev) (s:=p.Job.Table.Size) (x:=x') (by omega) (show lt.length≤1000 by omega) (show E.length≤1000 by omega) (q:=q) (move_Step.l0 k p n)
       rw [e1,e2]
       simp only [Option.bind_some]
       rw [if_neg (by omega),e3,g1,if_pos trivial,if_pos (by simp)]
       have rq:rd [q] 0=q:=rfl
       rw [rq,←bs,g2]
       simp only [Option.bind_some]
       rw [if_pos (by simp),if_pos (by omega)]
       unfold move_Step.j2 r9_Step.j1
       rw [if_pos rfl,wi,wa,w9]
       exact Step_l0 hk hp ok hB hN n (i+1) (a+1) _ x' F' E' (by omega) (by omega) (by omega) s' o' (by omega) (by rw [List.length_append];simp only [List.length_cons,List.length_nil];omega)
     ·rw [if_neg (by simp)]
      rw [←bs]
      exact skip
    ·rw [if_neg (by simp),if_pos rfl,←bs]
     exact skip
   ·rw [decide_eq_false d,←bs]
    exact fin _ _ _ _
  ·rw [if_neg (by omega),if_neg c]
   exact fin _ _ _ _
theorem Step_same (hk:1100<k) (hp:PIn p) (ok:PoolOk p) (n:Int):∃r,move_Step.f k p n=some r∧r9_Step.f k p n=some r∧PIn r.1∧r.2.1.length≤64:=by
 have hP:=ok.devs
 unfold move_Step.f r9_Step.f
 rw [(May_says (by omega) hp).1 ok,T.Between_eq]
 simp only [Option.bind_some,if_true]
 rw [Own_all (by omega) hp hP]
 simp only [Option.bind_some]
 by_cases c:1≤n∧n≤64
 ·rw [decide_eq_true c,if_neg (by omega),decide_eq_false (by omega)]
  unfold move_Step.j0
  simp only [if_true,Bool.false_eq_true,if_false]
  by_cases hj:p.Job.Dev=0
  ·rw [if_pos hj,if_pos hj]
   exact ⟨_,rfl,rfl,zin,Nat.zero_le _⟩
  ·rw [if_neg hj,if_neg hj,CopyPool_eq (by omega) hp]
   simp only [Option.bind_some]
   rcases ok.job with z|⟨m,hB⟩
   ·exact absurd z.dev hj
   ·rw [ref_At_in (p:=p) (by omega) hP hB.lt hB.id]
    simp only [Option.bind_some]
    have b0:=hB.at0
    have b1:=hB.at1
    have ps:=(hP.2 m (by omega) hB.lt).1.size
    have tb:=T.tabOk_iff.1 hB.tab
    have tl:=tab_long (by omega) tb.2
    have:=Step_l0 hk hp ok hB (N:=n) c.2 k 0 p.Job.At.toNat [] p.Devices _ p.Job.Table.List_ (by omega) (by omega) (by omega) hP.sets hP.setsOk (by omega) (Nat.zero_le _)
    rw [Int.toNat_of_nonneg b0,show n-((0:Nat):Int)=n by omega] at this
    exact this
 ·rw [decide_eq_false c]
  unfold move_Step.j0
  by_cases c1:n<1
  ·rw [if_pos c1,if_pos rfl,if_neg (by simp)]
   exact ⟨_,rfl,rfl,zin,Nat.zero_le _⟩
  ·rw [if_neg c1,decide_eq_true (by omega),if_pos rfl,if_neg (by simp)]
   exact ⟨_,rfl,rfl,zin,Nat.zero_le _⟩
end
end Go.Proofs.YtnaajldlloglkaaGreatDoor.W
namespace Go.Proofs.YtnaajldlloglkaaGreatDoor.W
open Go.H
theorem Tidy_settles {k:Nat} {y:Pool} {y3:Int×Bool} {y4:W.Table×Int}:Settles k y.Devices.length (fun n x i=>move_Tidy.l0 k y y3 y4 n x i) (fun x=>(⟨x,y.Tables.set y3.1.toNat y4.1,y.Job,y.Next⟩,0)):=by
 refine ⟨fun n i x hi hx=>?_,fun n x=>?_⟩
 ·rw [move_Tidy.l0,if_pos (by omega),if_pos (by omega)]
  rfl
 ·rw [move_Tidy.l0,if_neg (by omega)]
theorem tTidy_eq {t:W.Table} {k:Nat} (hl:t.List_.length≤1000) (hk:1000<k) (h:T.tabOk' t=true):table_Tidy.f k t=some (T.tidyT t,0):=by
 unfold table_Tidy.f
 rw [T.May_eq (by omega) (by omega),h]
 simp only [Option.bind_some,if_true]
 rw [tOwn_eq hl]
 exact T.Tidy_l0 hl hk k 0 (by omega) (by omega) (by simp)
theorem Tidy_same {p:Pool} {k:Nat} (hk:1100<k) (hp:PIn p) (ok:PoolOk p) {id:Int} (i0: -9223372036854775808≤id) (i1:id<9223372036854775808):∃r,move_Tidy.f k p id=some r∧r9_Tidy.f k p id=some r∧PIn r.1:=by
 have hP:=ok.devs
 have hl:=hP.1
 have tl:=hp.tabs_len
 have tdev:∀j:Nat,j<p.Tables.length→1≤(rd p.Tables (j:Int)).Dev∧(rd p.Tables (j:Int)).Dev≤40:=fun j hj=>by
  have:=tab_dev (ok.ids.tabs j (by omega) hj).ok
  exact ⟨this.1,this.2.1⟩
 have asc:∀j:Nat,j<p.Tables.length→0<j→(rd p.Tables ((j-1:Nat):Int)).Dev<(rd p.Tables (j:Int)).Dev:=fun j hj z=>(ok.ids.tabs j (by omega) hj).asc z
 unfold move_Tidy.f r9_Tidy.f
 rw [(May_says (by omega) hp).1 ok]
 simp only [Option.bind_some,if_true]
 rw [Own_all (by omega) hp hP]
 simp only [Option.bind_some]
 have sp:Spot (fun m=>(rd p.Tables (m:Int)).Dev) p.Tables.length id (chain_Find.f k p id):=chain_Find_l0 tl (fun j hj=>by have:=tdev j hj;omega) asc i0 i1 k 0 p.Tables.length (by omega) (by omega) (by omega) fun m hm _=>by omega
 rcases sp with ⟨m,hm,e,ef⟩|⟨no,m,ef⟩
 ·simp only at e
  rcases ref_Table_spot (k:=k) (by omega) hp id with ⟨m',hm',e',er⟩|⟨no,_⟩
  ·have mm:m'=m:=asc_inj (g:=fun m:Nat=>(rd p.Tables (m:Int)).Dev) asc hm' hm (e'.trans e.symm)
   subst mm
   rw [ef,er]
   simp only [Option.bind_some,if_true]
   have g:(0:Int)≤(m':Int)∧(m':Int)<(p.Tables.length:Int):=by omega
   have to:=(ok.ids.tabs m' (by omega) hm).ok
   have tll:=hp.tabs _ (rd_mem hm)
   rw [if_pos g,tTidy_eq tll (by omega) to]
   simp only [Option.bind_some]
   rw [if_pos g,if_neg (show ¬(m':Int)<0 by omega)]
   obtain ⟨D,sd,ec,se⟩:=settle_same (k:=k) (by omega) hP.segs (by omega)
   have dl:=sd.len
   have s:move_Tidy.l0 k p ((m':Int),true) (T.tidyT (rd p.Tables (m':Int)),0) k p.Devices 0=_:=se (Tidy_settles (y:=p) (y3:=((m':Int),true)) (y4:=(T.tidyT (rd p.Tables (m':Int)),0)))
   rw [s,Commit_same (by omega) hp ec]
   simp only [Option.bind_some]
   rw [if_pos g,T.refTidy_eq tll (by omega) to]
   simp only [Option.bind_some]
   rw [if_pos g]
   refine ⟨_,rfl,rfl,⟨sd.devs,by show D.length≤1000;omega,by show (p.Tables.set _ _).length≤1000;rw [List.length_set];exact tl,fun t ht=>?_,hp.job,hp.jobDev⟩⟩
   rcases List.mem_or_eq_of_mem_set ht with h|h
   ·exact hp.tabs t h
   ·rw [h]
    exact Nat.le_trans (List.length_filter_le _ _) tll
  ·exact absurd e (no m hm)
 ·rcases ref_Table_spot (k:=k) (by omega) hp id with ⟨m',hm',e',er⟩|⟨_,er⟩
  ·exact absurd e' (no m' hm')
  ·rw [ef,er]
   simp only [Option.bind_some,Bool.false_eq_true,if_false]
   rw [if_pos (show (-1:Int)<0 by omega)]
   exact ⟨_,rfl,rfl,zin⟩
theorem Tidy_bad {p:Pool} {k:Nat} (hk:1000<k) (hp:PIn p) (h:¬PoolOk p) (n:Int):move_Tidy.f k p n=some (zpool,1):=by
 unfold move_Tidy.f
 rw [(May_says hk hp).2 h]
 rfl
end Go.Proofs.YtnaajldlloglkaaGreatDoor.W
namespace Go.Proofs.YtnaajldlloglkaaGreatDoor.W
open Go.H
theorem EqPairs_self {l:List Pair} {k:Nat} (hl:l.length≤1000) (hk:1000<k):r0_EqPairs.f k l l=some true:=by
 unfold r0_EqPairs.f
 rw [if_pos rfl]
 refine (loop_says (f:=r0_EqPairs.l0 l l) (len:=l.length) (E:=some true) (F:=some true) (P:=fun _=>True) ?_ ?_ ?_ k 0 (by omega) (by omega)).1 fun _ _ _=>trivial
 ·intro n i c _
  rw [r0_EqPairs.l0,if_pos (by omega),if_pos (by omega),if_pos (by omega),if_pos rfl,w64_succ c (by omega)]
 ·intro n i c a
  exact absurd trivial a
 ·intro n
  rw [r0_EqPairs.l0,if_neg (by omega)]
theorem smash3 {it2:Int} {lt0:List Device} {re:List Device→Int→Option Bool} (g:0≤it2∧it2<(lt0.length:Int)):∀(n i:Nat) (l:List Seg),l.length≤1000→i≤l.length→l.length-i<n→l10_MoveExact.l3 it2 lt0 re n l (i:Int)=re (lt0.set it2.toNat ⟨-9,0,[],[]⟩) (w64 (it2+1))
 |0,i,l,_,_,h=>by omega
 |n+1,i,l,hl,hi,hn=>by
  rw [l10_MoveExact.l3]
  by_cases c:i<l.length
  ·rw [if_pos (by omega),if_pos (by omega),w64_succ c (by omega)]
   exact smash3 g n (i+1) _ (by rw [List.length_set];exact hl) (by rw [List.length_set];omega) (by rw [List.length_set];omega)
  ·rw [if_neg (by omega),if_pos g]
theorem smash2 {k:Nat} {it2:Int} {lt0:List Device} {re:List Device→Int→Option Bool} (g:0≤it2∧it2<(lt0.length:Int)):∀(n i:Nat) (l:List Seg),l.length≤1000→i≤l.length→l.length-i<n→l10_MoveExact.l2 k it2 lt0 re n l (i:Int)=l10_MoveExact.l3 it2 lt0 re k (rd lt0 it2).Late 0
 |0,i,l,_,_,h=>by omega
 |n+1,i,l,hl,hi,hn=>by
  rw [l10_MoveExact.l2]
  by_cases c:i<l.length
  ·rw [if_pos (by omega),if_pos (by omega),w64_succ c (by omega)]
   exact smash2 g n (i+1) _ (by rw [List.length_set];exact hl) (by rw [List.length_set];omega) (by rw [List.length_set];omega)
  ·rw [if_neg (by omega),if_pos g]
theorem smash5 {it2:Int} {lt0:List W.Table} {re:Int→List W.Table→Option Bool} (g:0≤it2∧it2<(lt0.length:Int)):∀(n i:Nat) (l:List Entry),l.length≤1000→i≤l.length→l.length-i<n→l10_MoveExact.l5 it2 lt0 re n (i:Int) l=re (w64 (it2+1)) (lt0.set it2.toNat ⟨-9,0,[]⟩)
 |0,i,l,_,_,h=>by omega
 |n+1,i,l,hl,hi,hn=>by
  rw [l10_MoveExact.l5]
  by_cases c:i<l.length
  ·rw [if_pos (by omega),if_pos (by omega),w64_succ c (by omega)]
   exact smash5 g n (i+1) _ (by rw [List.length_set];exact hl) (by rw [List.length_set];omega) (by rw [List.length_set];omega)
  ·rw [if_neg (by omega),if_pos g]
section
variable {k:Nat} {i4 it9:Int} {x w:Pool} {re:Int→List Device→List W.Table→Int→Int→Int→Int→List Entry→Int→Option Bool}
theorem smash6:∀(n i:Nat) (l:List Entry),l.length≤1000→i≤l.length→l.length-i<n→l10_MoveExact.l6 k i4 x.Devices x.Tables x.Job.Dev x.Job.At x.Job.Table.Dev x.Job.Table.Size x.Job.Table.List_ x.Next x.Devices x.Tables x.Job.Dev x.Job.At x.Job.Table.Dev x.Job.Table.Size x.Job.Table.List_ x.Next it9 w.Devices w.Tables w.Job.Dev w.Job.At w.Job.Table.Dev w.Job.Table.Size w.Job.Table.List_ w.Next re n (i:Int) l=l10_MoveExact.j6 k i4 x.Devices x.Tables x.Job.Dev x.Job.At x.Job.Table.Dev x.Job.Table.Size x.Job.Table.List_ x.Next x.Devices x.Tables x.Job.Dev x.Job.At x.Job.Table.Dev x.Job.Table.Size x.Job.Table.List_ x.Next it9 w.Devices w.Tables w.Job.Dev w.Job.At w.Job.Table.Dev w.Job.Table.Size w.Job.Table.List_ w.Next re
 |0,i,l,_,_,h=>by omega
 |n+1,i,l,hl,hi,hn=>by
  rw [l10_MoveExact.l6]
  by_cases c:i<l.length
  ·rw [if_pos (by omega),if_pos (by omega),w64_succ c (by omega)]
   exact smash6 n (i+1) _ (by rw [List.length_set];exact hl) (by rw [List.length_set];omega) (by rw [List.length_set];omega)
  ·rw [if_neg (by omega)]
theorem smash4 (hk:1000<k) {E:List Entry} (hE:E.length≤1000):∀(n i:Nat) (l:List W.Table),l.length≤1000→(∀t∈l,t.List_.length≤1000)→i≤l.length→l.length-i<n→l10_MoveExact.l4 k i4 x.Devices x.Tables x.Job.Dev x.Job.At x.Job.Table.Dev x.Job.Table.Size x.Job.Table.List_ x.Next x.Devices x.Tables x.Job.Dev x.Job.At x.Job.Table.Dev x.Job.Table.Size x.Job.Table.List_ x.Next it9 E w.Devices w.Tables w.Job.Dev w.Job.At w.Job.Table.Dev w.Job.Table.Size w.Job.Table.List_ w.Next re n (i:Int) l=l10_MoveExact.j6 k i4 x.Devices x.Tables x.Job.Dev x.Job.At x.Job.Table.Dev x.Job.Table.Size x.Job.Table.List_ x.Next x.Devices x.Tables x.Job.Dev x.Job.At x.Job.Table.Dev x.Job.Table.Size x.Job.Table.List_ x.Next it9 w.Devices w.Tables w.Job.Dev w.Job.At w.Job.Table.Dev w.Job.Table.Size w.Job.Table.List_ w.Next re
 |0,i,l,_,_,_,h=>by omega
 |n+1,i,l,hl,ht,hi,hn=>by
  rw [l10_MoveExact.l4]
  by_cases c:i<l.length
  ·have q:=smash5 (it2:=(i:Int)) (lt0:=l) (re:=l10_MoveExact.l4 k i4 x.Devices x.Tables x.Job.Dev x.Job.At x.Job.Table.Dev x.Job.Table.Size x.Job.Table.List_ x.Next x.Devices x.Tables x.Job.Dev x.Job.At x.Job.Table.Dev x.Job.Table.Size x.Job.Table.List_ x.Next it9 E w.Devices w.Tables w.Job.Dev w.Job.At w.Job.Table.Dev w.Job.Table.Size w.Job.Table.List_ w.Next re n) (by omega) k 0 (rd l (i:Int)).List_ (ht _ (rd_mem c)) (by omega) (by have:=ht _ (rd_mem c);omega)
   have q:l10_MoveExact.l5 (i:Int) l (l10_MoveExact.l4 k i4 x.Devices x.Tables x.Job.Dev x.Job.At x.Job.Table.Dev x.Job.Table.Size x.Job.Table.List_ x.Next x.Devices x.Tables x.Job.Dev x.Job.At x.Job.Table.Dev x.Job.Table.Size x.Job.Table.List_ x.Next it9 E w.Devices w.Tables w.Job.Dev w.Job.At w.Job.Table.Dev w.Job.Table.Size w.Job.Table.List_ w.Next re n) k 0 (rd l (i:Int)).List_=_:=q
   rw [if_pos (by omega),if_pos (by omega),q,w64_succ c (by omega)]
   exact smash4 hk hE n (i+1) _ (by rw [List.length_set];exact hl) (fun t h=>by
    rcases List.mem_or_eq_of_mem_set h with h|h
    ·exact ht t h
    ·rw [h];exact Nat.zero_le _) (by rw [List.length_set];omega) (by rw [List.length_set];omega)
  ·rw [if_neg (by omega)]
   exact smash6 k 0 E hE (by omega) (by omega)
theorem smash1 (hk:1000<k) {Ts:List W.Table} (hl':Ts.length≤1000) (ht:∀t∈Ts,t.List_.length≤1000) {E:List Entry} (hE:E.length≤1000):∀(n i:Nat) (l:List Device),l.length≤1000→DevsIn l→i≤l.length→l.length-i<n→l10_MoveExact.l1 k i4 x.Devices x.Tables x.Job.Dev x.Job.At x.Job.Table.Dev x.Job.Table.Size x.Job.Table.List_ x.Next x.Devices x.Tables x.Job.Dev x.Job.At x.Job.Table.Dev x.Job.Table.Size x.Job.Table.List_ x.Next it9 Ts E w.Devices w.Tables w.Job.Dev w.Job.At w.Job.Table.Dev w.Job.Table.Size w.Job.Table.List_ w.Next re n l (i:Int)=l10_MoveExact.j6 k i4 x.Devices x.Tables x.Job.Dev x.Job.At x.Job.Table.Dev x.Job.Table.Size x.Job.Table.List_ x.Next x.Devices x.Tables x.Job.Dev x.Job.At x.Job.Table.Dev x.Job.Table.Size x.Job.Table.List_ x.Next it9 w.Devices w.Tables w.Job.Dev w.Job.At w.Job.Table.Dev w.Job.Table.Size w.Job.Table.List_ w.Next re
 |0,i,l,_,_,_,h=>by omega
 |n+1,i,l,hl,hx,hi,hn=>by
  rw [l10_MoveExact.l1]
  by_cases c:i<l.length
  ·have e:=hx _ (rd_mem c)
   have g:(0:Int)≤(i:Int)∧(i:Int)<(l.length:Int):=by omega
   have q2:=smash2 (k:=k) (re:=l10_MoveExact.l1 k i4 x.Devices x.Tables x.Job.Dev x.Job.At x.Job.Table.Dev x.Job.Table.Size x.Job.Table.List_ x.Next x.Devices x.Tables x.Job.Dev x.Job.At x.Job.Table.Dev x.Job.Table.Size x.Job.Table.List_ x.Next it9 Ts E w.Devices w.Tables w.Job.Dev w.Job.At w.Job.Table.Dev w.Job.Table.Size w.Job.Table.List_ w.Next re n) g k 0 (rd l (i:Int)).Free e.1 (by omega) (by omega)
   have q2:l10_MoveExact.l2 k (i:Int) l (l10_MoveExact.l1 k i4 x.Devices x.Tables x.Job.Dev x.Job.At x.Job.Table.Dev x.Job.Table.Size x.Job.Table.List_ x.Next x.Devices x.Tables x.Job.Dev x.Job.At x.Job.Table.Dev x.Job.Table.Size x.Job.Table.List_ x.Next it9 Ts E w.Devices w.Tables w.Job.Dev w.Job.At w.Job.Table.Dev w.Job.Table.Size w.Job.Table.List_ w.Next re n) k (rd l (i:Int)).Free 0=_:=q2
   have q3:=smash3 (re:=l10_MoveExact.l1 k i4 x.Devices x.Tables x.Job.Dev x.Job.At x.Job.Table.Dev x.Job.Table.Size x.Job.Table.List_ x.Next x.Devices x.Tables x.Job.Dev x.Job.At x.Job.Table.Dev x.Job.Table.Size x.Job.Table.List_ x.Next it9 Ts E w.Devices w.Tables w.Job.Dev w.Job.At w.Job.Table.Dev w.Job.Table.Size w.Job.Table.List_ w.Next re n) g k 0 (rd l (i:Int)).Late e.2 (by omega) (by omega)
   have q3:l10_MoveExact.l3 (i:Int) l (l10_MoveExact.l1 k i4 x.Devices x.Tables x.Job.Dev x.Job.At x.Job.Table.Dev x.Job.Table.Size x.Job.Table.List_ x.Next x.Devices x.Tables x.Job.Dev x.Job.At x.Job.Table.Dev x.Job.Table.Size x.Job.Table.List_ x.Next it9 Ts E w.Devices w.Tables w.Job.Dev w.Job.At w.Job.Table.Dev w.Job.Table.Size w.Job.Table.List_ w.Next re n) k (rd l (i:Int)).Late 0=_:=q3
   rw [if_pos (by omega),if_pos (by omega),q2,q3,w64_succ c (by omega)]
   exact smash1 hk hl' ht hE n (i+1) _ (by rw [List.length_set];exact hl) (fun d hd=>by
    rcases List.mem_or_eq_of_mem_set hd with h|h
    ·exact hx d h
    ·rw [h];exact ⟨by simp,by simp⟩) (by rw [List.length_set];omega) (by rw [List.length_set];omega)
  ·rw [if_neg (by omega)]
   exact smash4 hk hE k 0 Ts hl' ht (by omega) (by omega)
theorem act_end (hk:1000<k) {P:Script} {i:Nat} (hx:PIn x) (hw:PIn w) {l:List Pair} (hl:l.length≤1000) {Q:List Ptr} (hQ:Q.length≤1000) (eQ:(rd P.A (i:Int)).Q=Q) (e:Int):
 l10_MoveExact.j4 P k i x.Devices x.Tables x.Job.Dev x.Job.At x.Job.Table.Dev x.Job.Table.Size x.Job.Table.List_ x.Next Q x.Devices x.Tables x.Job.Dev x.Job.At x.Job.Table.Dev x.Job.Table.Size x.Job.Table.List_ x.Next re e l l e w.Devices w.Tables w.Job.Dev w.Job.At w.Job.Table.Dev w.Job.Table.Size w.Job.Table.List_ w.Next w.Devices w.Tables w.Job.Dev w.Job.At w.Job.Table.Dev w.Job.Table.Size w.Job.Table.List_ w.Next=if e=0 then re (w64 ((i:Int)+1)) w.Devices w.Tables w.Job.Dev w.Job.At w.Job.Table.Dev w.Job.Table.Size w.Job.Table.List_ w.Next else re (w64 ((i:Int)+1)) x.Devices x.Tables x.Job.Dev x.Job.At x.Job.Table.Dev x.Job.Table.Size x.Job.Table.List_ x.Next:=by
 unfold l10_MoveExact.j4 l10_num.f
 have e1:r0_EqPool.f k (⟨w.Devices,w.Tables,⟨w.Job.Dev,w.Job.At,⟨w.Job.Table.Dev,w.Job.Table.Size,w.Job.Table.List_⟩⟩,w.Next⟩:Pool) (⟨w.Devices,w.Tables,⟨w.Job.Dev,w.Job.At,⟨w.Job.Table.Dev,w.Job.Table.Size,w.Job.Table.List_⟩⟩,w.Next⟩:Pool)=some true:=EqPool_self hk hw
 have e2:r0_EqPool.f k (⟨x.Devices,x.Tables,⟨x.Job.Dev,x.Job.At,⟨x.Job.Table.Dev,x.Job.Table.Size,x.Job.Table.List_⟩⟩,x.Next⟩:Pool) (⟨x.Devices,x.Tables,⟨x.Job.Dev,x.Job.At,⟨x.Job.Table.Dev,x.Job.Table.Size,x.Job.Table.List_⟩⟩,x.Next⟩:Pool)=some true:=EqPool_self hk hx
 have e3:r0_CopyPool.f k (⟨w.Devices,w.Tables,⟨w.Job.Dev,w.Job.At,⟨w.Job.Table.Dev,w.Job.Table.Size,w.Job.Table.List_⟩⟩,w.Next⟩:Pool)=some w:=CopyPool_eq hk hw
 simp only [Option.bind_some,if_true]
 rw [e1]
 simp only [Option.bind_some,if_true]
 rw [EqPairs_self hl hk]
 simp only [Option.bind_some,if_true]
 rw [e2,eQ,EqPtrs_self hQ hk]
 simp only [Option.bind_some,if_true]
 unfold l10_MoveExact.j5
 rw [if_neg (by simp)]
 have h1:=hw.devs_len
 have s:l10_MoveExact.l1 k i x.Devices x.Tables x.Job.Dev x.Job.At x.Job.Table.Dev x.Job.Table.Size x.Job.Table.List_ x.Next x.Devices x.Tables x.Job.Dev x.Job.At x.Job.Table.Dev x.Job.Table.Size x.Job.Table.List_ x.Next e w.Tables w.Job.Table.List_ w.Devices w.Tables w.Job.Dev w.Job.At w.Job.Table.Dev w.Job.Table.Size w.Job.Table.List_ w.Next re k w.Devices 0=_:=smash1 hk hw.tabs_len hw.tabs hw.job k 0 w.Devices h1 hw.devs (by omega) (by omega)
 rw [s]
 unfold l10_MoveExact.j6
 rw [e2,e3]
 simp only [Option.bind_some,if_true]
 unfold l10_MoveExact.j2 l10_MoveExact.j1
 simp only [if_true]
end
theorem within_eq:∀a:Fin 8,l0_Within.f (a.val:Int) 8=some (a.val:Int):=by decide +kernel
def Plays (a:Act):Prop:=(a.Do=1∨a.Do=3∨a.Do=7)∧(-9223372036854775808≤a.N∧a.N<9223372036854775808)∧a.Q.length≤1000
theorem act_eq {k:Nat} (hk:1100<k) {P:Script} {i:Nat} {x:Pool} {re:Int→List Device→List W.Table→Int→Int→Int→Int→List Entry→Int→Option Bool} (hx:PIn x) (ha:Plays (rd P.A (i:Int))):
 ∃y:Pool,PIn y∧l10_MoveExact.j3 P k i x.Devices x.Tables x.Job.Dev x.Job.At x.Job.Table.Dev x.Job.Table.Size x.Job.Table.List_ x.Next re (rd P.A (i:Int)).Q x.Devices x.Tables x.Job.Dev x.Job.At x.Job.Table.Dev x.Job.Table.Size x.Job.Table.List_ x.Next=re (w64 ((i:Int)+1)) y.Devices y.Tables y.Job.Dev y.Job.At y.Job.Table.Dev y.Job.Table.Size y.Job.Table.List_ y.Next:=by
 obtain ⟨dn,hN,hQ⟩:=ha
 unfold l10_MoveExact.j3
 have w6:∃d:Int,l0_Within.f (rd P.A (i:Int)).Do 8=some d∧(d=1∨d=3∨d=7):=by
  rcases dn with e|e|e
  ·exact ⟨1,by rw [e];exact within_eq 1,.inl rfl⟩
  ·exact ⟨3,by rw [e];exact within_eq 3,.inr (.inl rfl)⟩
  ·exact ⟨7,by rw [e];exact within_eq 7,.inr (.inr rfl)⟩
 obtain ⟨d,ed,hd⟩:=w6
 have ends:∀(w:Pool) (l:List Pair) (e:Int),PIn w→l.length≤1000→∃y:Pool,PIn y∧l10_MoveExact.j4 P k i x.Devices x.Tables x.Job.Dev x.Job.At x.Job.Table.Dev x.Job.Table.Size x.Job.Table.List_ x.Next (rd P.A (i:Int)).Q x.Devices x.Tables x.Job.Dev x.Job.At x.Job.Table.Dev x.Job.Table.Size x.Job.Table.List_ x.Next re e l l e w.Devices w.Tables w.Job.Dev w.Job.At w.Job.Table.Dev w.Job.Table.Size w.Job.Table.List_ w.Next w.Devices w.Tables w.Job.Dev w.Job.At w.Job.Table.Dev w.Job.Table.Size w.Job.Table.List_ w.Next=re (w64 ((i:Int)+1)) y.Devices y.Tables y.Job.Dev y.Job.At y.Job.Table.Dev y.Job.Table.Size y.Job.Table.List_ y.Next:=fun w l e hw hl=>by
  rw [act_end (by omega) hx hw hl hQ rfl e]
  by_cases c:e=0
  ·rw [if_pos c]
   exact ⟨w,hw,rfl⟩
  ·rw [if_neg c]
   exact ⟨x,hx,rfl⟩
 by_cases ok:PoolOk x
 ·have pe:r9_Pool.f k (⟨x.Devices,x.Tables,⟨x.Job.Dev,x.Job.At,⟨x.Job.Table.Dev,x.Job.Table.Size,x.Job.Table.List_⟩⟩,x.Next⟩:Pool)=some true:=(Pool_says hk hx).1 ok
  rw [pe,ed]
  simp only [Option.bind_some,if_true]
  rw [if_neg (show ¬d=0 by omega)]
  by_cases c1:d=1
  ·rw [if_pos c1]
   obtain ⟨r,h1,h2,h3⟩:=Remove_same hk hx ok hN.1 hN.2
   have h1:move_Remove.f k (⟨x.Devices,x.Tables,⟨x.Job.Dev,x.Job.At,⟨x.Job.Table.Dev,x.Job.Table.Size,x.Job.Table.List_⟩⟩,x.Next⟩:Pool) _=_:=h1
   have h2:r9_Remove.f k (⟨x.Devices,x.Tables,⟨x.Job.Dev,x.Job.At,⟨x.Job.Table.Dev,x.Job.Table.Size,x.Job.Table.List_⟩⟩,x.Next⟩:Pool) _=_:=h2
   rw [h1,h2]
   exact ends r.1 [] r.2 h3 (Nat.zero_le _)
  rw [if_neg c1,if_neg (show ¬d=6 by omega)]
  by_cases c7:d=7
  ·rw [if_pos c7]
   obtain ⟨r,h1,h2,h3⟩:=Tidy_same hk hx ok hN.1 hN.2
   have h1:move_Tidy.f k (⟨x.Devices,x.Tables,⟨x.Job.Dev,x.Job.At,⟨x.Job.Table.Dev,x.Job.Table.Size,x.Job.Table.List_⟩⟩,x.Next⟩:Pool) _=_:=h1
   have h2:r9_Tidy.f k (⟨x.Devices,x.Tables,⟨x.Job.Dev,x.Job.At,⟨x.Job.Table.Dev,x.Job.Table.Size,x.Job.Table.List_⟩⟩,x.Next⟩:Pool) _=_:=h2
   rw [h1,h2]
   exact ends r.1 [] r.2 h3 (Nat.zero_le _)
  rw [if_neg c7]
  obtain ⟨r,h1,h2,h3,h4⟩:=Step_same hk hx ok (rd P.A (i:Int)).N
  have h1:move_Step.f k (⟨x.Devices,x.Tables,⟨x.Job.Dev,x.Job.At,⟨x.Job.Table.Dev,x.Job.Table.Size,x.Job.Table.List_⟩⟩,x.Next⟩:Pool) _=_:=h1
  have h2:r9_Step.f k (⟨x.Devices,x.Tables,⟨x.Job.Dev,x.Job.At,⟨x.Job.Table.Dev,x.Job.Table.Size,x.Job.Table.List_⟩⟩,x.Next⟩:Pool) _=_:=h2
  rw [h1,h2]
  exact ends r.1 r.2.1 r.2.2 h3 (by omega)
 ·have pe:r9_Pool.f k (⟨x.Devices,x.Tables,⟨x.Job.Dev,x.Job.At,⟨x.Job.Table.Dev,x.Job.Table.Size,x.Job.Table.List_⟩⟩,x.Next⟩:Pool)=some false:=(Pool_says hk hx).2 ok
  rw [pe,ed]
  simp only [Option.bind_some,Bool.false_eq_true,if_false]
  rw [if_neg (show ¬d=0 by omega)]
  by_cases c1:d=1
  ·rw [if_pos c1]
   have h1:move_Remove.f k (⟨x.Devices,x.Tables,⟨x.Job.Dev,x.Job.At,⟨x.Job.Table.Dev,x.Job.Table.Size,x.Job.Table.List_⟩⟩,x.Next⟩:Pool) _=_:=Remove_bad (by omega) hx ok (rd P.A (i:Int)).N
   rw [h1]
   exact ends zpool [] 1 zin (Nat.zero_le _)
  rw [if_neg c1,if_neg (show ¬d=6 by omega)]
  by_cases c7:d=7
  ·rw [if_pos c7]
   have h1:move_Tidy.f k (⟨x.Devices,x.Tables,⟨x.Job.Dev,x.Job.At,⟨x.Job.Table.Dev,x.Job.Table.Size,x.Job.Table.List_⟩⟩,x.Next⟩:Pool) _=_:=Tidy_bad (by omega) hx ok (rd P.A (i:Int)).N
   rw [h1]
   exact ends zpool [] 1 zin (Nat.zero_le _)
  rw [if_neg c7]
  have h1:move_Step.f k (⟨x.Devices,x.Tables,⟨x.Job.Dev,x.Job.At,⟨x.Job.Table.Dev,x.Job.Table.Size,x.Job.Table.List_⟩⟩,x.Next⟩:Pool) _=_:=Step_bad (by omega) hx ok (rd P.A (i:Int)).N
  rw [h1]
  exact ends zpool [] 1 zin (Nat.zero_le _)
theorem Exact_l0 {k:Nat} (hk:1100<k) (hw:l10_wakes.f k=some true) {P:Script} (hA:P.A.length≤1000) (ha:∀a∈P.A,Plays a):∀(n i:Nat) (x:Pool),PIn x→i≤P.A.length→P.A.length-i<n→l10_MoveExact.l0 P k n i x.Devices x.Tables x.Job.Dev x.Job.At x.Job.Table.Dev x.Job.Table.Size x.Job.Table.List_ x.Next=some true
 |0,i,x,_,_,h=>by omega
 |n+1,i,x,hx,hi,hn=>by
  have stop:∀re,l10_MoveExact.j0 P k i x.Devices x.Tables x.Job.Dev x.Job.At x.Job.Table.Dev x.Job.Table.Size x.Job.Table.List_ x.Next re false=some true:=fun re=>by
   unfold l10_MoveExact.j0
   rw [if_neg (by simp),hw]
   rfl
  rw [l10_MoveExact.l0]
  by_cases c:i<P.A.length
  ·rw [if_pos (by omega)]
   by_cases c12:(i:Int)<12
   ·rw [decide_eq_true c12]
    unfold l10_MoveExact.j0
    have pl:=ha _ (rd_mem c)
    have cp:r0_CopyPool.f k (⟨x.Devices,x.Tables,⟨x.Job.Dev,x.Job.At,⟨x.Job.Table.Dev,x.Job.Table.Size,x.Job.Table.List_⟩⟩,x.Next⟩:Pool)=some x:=CopyPool_eq (by omega) hx
    rw [if_pos rfl,if_pos (by omega),cp,CopyPtrs_eq pl.2.2 (by omega)]
    simp only [Option.bind_some]
    obtain ⟨y,hy,e⟩:=act_eq hk (i:=i) (re:=l10_MoveExact.l0 P k n) hx pl
    rw [e,w64_succ c (by omega)]
    exact Exact_l0 hk hw hA ha n (i+1) y hy (by omega) (by omega)
   ·rw [decide_eq_false c12]
    exact stop _
  ·rw [if_neg (by omega)]
   exact stop _
def actsOf (K:List Int) (A:List Act):Nat→List Act
 |0=>[]
 |i+1=>actsOf K A i++[⟨rd K ((i:Int).tmod (K.length:Int)),(rd A (i:Int)).N,(rd A (i:Int)).Q⟩]
theorem actsOf_len (K:List Int) (A:List Act):∀i,(actsOf K A i).length=i
 |0=>rfl
 |i+1=>by rw [actsOf,List.length_append,actsOf_len K A i];rfl
theorem tmod_nat {i n:Nat}:(i:Int).tmod (n:Int)=((i%n:Nat):Int):=rfl
theorem actsOf_mem {K:List Int} (h0:0<K.length) (A:List Act):∀i,i≤A.length→∀a∈actsOf K A i,a.Do∈K∧∃a'∈A,a.N=a'.N∧a.Q=a'.Q
 |0,_,a,h=>by simp [actsOf] at h
 |i+1,hi,a,h=>by
  rw [actsOf] at h
  rcases List.mem_append.1 h with h|h
  ·exact actsOf_mem h0 A i (by omega) a h
  ·rw [List.mem_singleton] at h
   subst h
   refine ⟨?_,_,rd_mem (show i<A.length by omega),rfl,rfl⟩
   show rd K ((i:Int).tmod (K.length:Int))∈K
   rw [tmod_nat]
   exact rd_mem (Nat.mod_lt _ h0)
theorem only_l0 {p:Script} {k:Nat} {K:List Int} (h0:0<K.length) (hs:Sized p):∀(n i:Nat),i≤p.A.length→p.A.length-i<n→l10_only.l0 p K k n (i:Int) (actsOf K p.A i)=(l10_MoveExact.f k ⟨p.P,actsOf K p.A p.A.length⟩).bind fun y=>some y
 |0,i,_,h=>by omega
 |n+1,i,hi,hn=>by
  have h1:=hs.A
  rw [l10_only.l0]
  by_cases c:i<p.A.length
  ·have:=Nat.mod_lt i h0
   rw [if_pos (by omega),if_pos (by omega),if_pos (by omega),if_pos (by rw [tmod_nat];omega),if_pos (by rw [actsOf_len];omega),w64_succ c (by omega)]
   exact only_l0 h0 hs n (i+1) (by omega) (by omega)
  ·rw [if_neg (by omega)]
   rw [show i=p.A.length by omega]
set_option maxRecDepth 100000 in
theorem wakes10:l10_wakes.f 1500=some true:=by decide +kernel
theorem only_plain {p:Script} {K:List Int} (h0:0<K.length) (hK:∀a∈K,a=1∨a=3∨a=7) (hs:Sized p):∃k,l10_only.f k p K=some true:=by
 have ol:(actsOf K p.A p.A.length).length=p.A.length:=actsOf_len _ _ _
 have q:Sized (⟨p.P,actsOf K p.A p.A.length⟩:Script):=⟨hs.D,hs.Dl,hs.T,hs.Tl,hs.J,hs.jobDev,by
  show (actsOf K p.A p.A.length).length*40≤_
  rw [ol];exact hs.A,fun a ha=>by
  obtain ⟨_,a',h',e1,e2⟩:=actsOf_mem h0 p.A p.A.length (Nat.le_refl _) a ha
  rw [e1,e2];exact hs.Al a' h'⟩
 have on:∀k,p.A.length<k→l10_only.f k p K=l10_MoveExact.f k ⟨p.P,actsOf K p.A p.A.length⟩:=fun k hk=>by
  unfold l10_only.f
  have:=only_l0 (k:=k) h0 hs k 0 (by omega) (by omega)
  have:l10_only.l0 p K k k 0 []=_:=this
  rw [this]
  cases l10_MoveExact.f k ⟨p.P,actsOf K p.A p.A.length⟩ <;>rfl
 obtain ⟨h,e,hl⟩:=Heavy_eq (k:=p.P.Devices.length+p.P.Tables.length+p.A.length+1) q (by show p.P.Devices.length<_;omega) (by show p.P.Tables.length<_;omega) (by show (actsOf K p.A p.A.length).length<_;omega)
 cases h
 ·have lt:=hl rfl
  have l1:p.P.Devices.length≤1000:=lt.D
  have l2:p.P.Tables.length≤1000:=lt.T
  have l3:(actsOf K p.A p.A.length).length≤1000:=lt.A
  obtain ⟨h',e',_⟩:=Heavy_eq (k:=1500) q (by show p.P.Devices.length<_;omega) (by show p.P.Tables.length<_;omega) (by show (actsOf K p.A p.A.length).length<_;omega)
  refine ⟨1500,?_⟩
  rw [on 1500 (by omega)]
  unfold l10_MoveExact.f
  rw [e']
  simp only [Option.bind_some]
  cases h'
  ·rw [if_neg (by simp),CopyPool_eq (by omega) lt.inn]
   simp only [Option.bind_some]
   exact Exact_l0 (by omega) wakes10 l3 (fun a ha=>by
    obtain ⟨h1,a',h',e1,e2⟩:=actsOf_mem h0 p.A p.A.length (Nat.le_refl _) a ha
    exact ⟨hK _ h1,by rw [e1];exact (hs.Al a' h').2,lt.Q a ha⟩) 1500 0 p.P lt.inn (by omega) (by show (actsOf K p.A p.A.length).length-0<_;omega)
  ·rw [if_pos rfl]
 ·refine ⟨p.P.Devices.length+p.P.Tables.length+p.A.length+1,?_⟩
  rw [on _ (by omega)]
  unfold l10_MoveExact.f
  rw [e]
  rfl
end Go.Proofs.YtnaajldlloglkaaGreatDoor.W
namespace Go.Proofs.YtnaajldlloglkaaGreatDoor.W
open Go.H
theorem MoveTidies_plain {p:Script} (hs:Sized p):∃k,l10_MoveTidies.f k p=some true:=by
 obtain ⟨k,e⟩:=only_plain (K:=[1,3,3,7,7]) (by decide) (by decide) hs
 exact ⟨k,by unfold l10_MoveTidies.f;rw [e];rfl⟩
end Go.Proofs.YtnaajldlloglkaaGreatDoor.W
