/- Plain facts; lines of the claims before, printed by mkfacts.py. -/
import Derived.Test.YtnaajldlloglkaaGreatDoorMoveFn
import Derived.Test.YtnaajldlloglkaaGreatDoorL2
set_option linter.unusedVariables false
set_option linter.unusedSimpArgs false
namespace Go.Proofs.YtnaajldlloglkaaGreatDoor.W.S
open Go.H
theorem w64_id {x:Int} (h0: -9223372036854775808≤x) (h1:x<9223372036854775808):w64 x=x:=by
 have hk:IntKind.i64.wrap x=if x%18446744073709551616≥9223372036854775808 then x%18446744073709551616-18446744073709551616 else x%18446744073709551616:=by
  simp [IntKind.wrap,IntKind.bits,IntKind.signed]
 show IntKind.i64.wrap x=x
 rw [hk]
 split <;>omega
theorem wu64_id {x:Int} (h0:0≤x) (h1:x<18446744073709551616):wu64 x=x:=by
 simp only [wu64,IntKind.wrap,IntKind.bits,IntKind.signed]
 simp
 omega
theorem wu64_mod (x:Int):wu64 x=x%18446744073709551616:=by
 simp [wu64,IntKind.wrap,IntKind.bits,IntKind.signed]
structure IsSet (x:Int) (b:Nat→Bool):Prop where
 lo:0≤x
 hi:x<18446744073709551616
 bit:∀i,i<64→x.toNat.testBit i=b i
theorem uand_nat {a b:Int} (ha:0≤a) (ha2:a<18446744073709551616) (hb:0≤b) (hb2:b<18446744073709551616):uand a b=((a.toNat&&&b.toNat:Nat):Int):=by
 obtain ⟨m,rfl⟩:=Int.eq_ofNat_of_zero_le ha
 obtain ⟨n,rfl⟩:=Int.eq_ofNat_of_zero_le hb
 have hm:m<2^64:=by omega
 have hn:n<2^64:=by omega
 have h1:(BitVec.ofInt 64 (m:Int)).toNat=m:=by simp;omega
 have h2:(BitVec.ofInt 64 (n:Int)).toNat=n:=by simp;omega
 have h3:m&&&n<2^64:=Nat.and_lt_two_pow _ hn
 show IntKind.u64.wrap ((BitVec.ofInt 64 (m:Int)&&&BitVec.ofInt 64 (n:Int)).toNat:Int)=_
 rw [BitVec.toNat_and,h1,h2]
 exact wu64_id (by omega) (by omega)
theorem uor_nat {a b:Int} (ha:0≤a) (ha2:a<18446744073709551616) (hb:0≤b) (hb2:b<18446744073709551616):uor a b=((a.toNat|||b.toNat:Nat):Int):=by
 obtain ⟨m,rfl⟩:=Int.eq_ofNat_of_zero_le ha
 obtain ⟨n,rfl⟩:=Int.eq_ofNat_of_zero_le hb
 have hm:m<2^64:=by omega
 have hn:n<2^64:=by omega
 have h1:(BitVec.ofInt 64 (m:Int)).toNat=m:=by simp;omega
 have h2:(BitVec.ofInt 64 (n:Int)).toNat=n:=by simp;omega
 have h3:m|||n<2^64:=Nat.or_lt_two_pow hm hn
 show IntKind.u64.wrap ((BitVec.ofInt 64 (m:Int)|||BitVec.ofInt 64 (n:Int)).toNat:Int)=_
 rw [BitVec.toNat_or,h1,h2]
 exact wu64_id (by omega) (by omega)
theorem IsSet.and {x y:Int} {b c:Nat→Bool} (hx:IsSet x b) (hy:IsSet y c):IsSet (uand x y) fun i=>b i&&c i:=by
 rw [uand_nat hx.lo hx.hi hy.lo hy.hi]
 have h3:x.toNat&&&y.toNat<2^64:=Nat.and_lt_two_pow _ (by have:=hy.hi;have:=hy.lo;omega)
 exact ⟨by omega,by omega,fun i hi=>by rw [Int.toNat_natCast,Nat.testBit_and,hx.bit i hi,hy.bit i hi]⟩
theorem IsSet.or {x y:Int} {b c:Nat→Bool} (hx:IsSet x b) (hy:IsSet y c):IsSet (uor x y) fun i=>b i||c i:=by
 rw [uor_nat hx.lo hx.hi hy.lo hy.hi]
 have h3:x.toNat|||y.toNat<2^64:=Nat.or_lt_two_pow (by have:=hx.hi;have:=hx.lo;omega) (by have:=hy.hi;have:=hy.lo;omega)
 exact ⟨by omega,by omega,fun i hi=>by rw [Int.toNat_natCast,Nat.testBit_or,hx.bit i hi,hy.bit i hi]⟩
theorem IsSet.andn {x y:Int} {b c:Nat→Bool} (hx:IsSet x b) (hy:IsSet y c):IsSet (uandn x y) fun i=>b i&&!c i:=by
 obtain ⟨x0,x1,x2⟩:=hx
 obtain ⟨y0,y1,y2⟩:=hy
 obtain ⟨m,rfl⟩:=Int.eq_ofNat_of_zero_le x0
 obtain ⟨n,rfl⟩:=Int.eq_ofNat_of_zero_le y0
 have hlt:=(BitVec.ofInt 64 (m:Int)&&&~~~BitVec.ofInt 64 (n:Int)).isLt
 have e:uandn (m:Int) (n:Int)=((BitVec.ofInt 64 (m:Int)&&&~~~BitVec.ofInt 64 (n:Int)).toNat:Int):=wu64_id (x:=((BitVec.ofInt 64 (m:Int)&&&~~~BitVec.ofInt 64 (n:Int)).toNat:Int)) (by omega) (by omega)
 rw [e]
 refine ⟨by omega,by omega,fun i hi=>?_⟩
 rw [Int.toNat_natCast,BitVec.testBit_toNat,BitVec.getLsbD_and,BitVec.getLsbD_not]
 have h1:(BitVec.ofInt 64 (m:Int)).getLsbD i=b i:=by
  rw [←x2 i hi,←BitVec.testBit_toNat]
  congr 1
  simp
  omega
 have h2:(BitVec.ofInt 64 (n:Int)).getLsbD i=c i:=by
  rw [←y2 i hi,←BitVec.testBit_toNat]
  congr 1
  simp
  omega
 rw [h1,h2]
 simp [hi]
theorem IsSet.congr {x:Int} {b c:Nat→Bool} (h:IsSet x b) (e:∀i,i<64→b i=c i):IsSet x c:=⟨h.lo,h.hi,fun i hi=>(h.bit i hi).trans (e i hi)⟩
theorem IsSet.zero:IsSet 0 fun _=>false:=⟨by omega,by omega,fun i _=>by simp⟩
theorem IsSet.eq {x y:Int} {b:Nat→Bool} (hx:IsSet x b) (hy:IsSet y b):x=y:=by
 have h:x.toNat=y.toNat:=Nat.eq_of_testBit_eq fun i=>by
  by_cases hi:i<64
  ·rw [hx.bit i hi,hy.bit i hi]
  ·rw [Nat.testBit_lt_two_pow,Nat.testBit_lt_two_pow]
   ·exact Nat.lt_of_lt_of_le (show y.toNat<2^64 by have:=hy.hi;have:=hy.lo;omega) (Nat.pow_le_pow_right (by omega) (by omega))
   ·exact Nat.lt_of_lt_of_le (show x.toNat<2^64 by have:=hx.hi;have:=hx.lo;omega) (Nat.pow_le_pow_right (by omega) (by omega))
 have:=hx.lo
 have:=hy.lo
 omega
theorem To_set {n:Int} (h0:0≤n) (h1:n≤64):∃x,seg_To.f n=some x∧IsSet x fun i=>decide ((i:Int)<n):=by
 unfold seg_To.f
 by_cases h:64≤n
 ·rw [if_pos h]
  refine ⟨_,rfl,by omega,by omega,fun i hi=>?_⟩
  have:(18446744073709551615:Int).toNat=2^64-1:=by decide
  rw [this,Nat.testBit_two_pow_sub_one]
  simp only [hi,decide_true]
  symm
  simp
  omega
 ·rw [if_neg h,if_pos h0]
  obtain ⟨m,rfl⟩:=Int.eq_ofNat_of_zero_le h0
  have hm:m<64:=by omega
  have hp:2^m<2^64:=Nat.pow_lt_pow_right (by omega) hm
  have hp0:0<2^m:=Nat.two_pow_pos m
  have e1:(1*2^min (m:Int).toNat 64:Int)=((2^m:Nat):Int):=by
   rw [Int.toNat_natCast,Nat.min_eq_left (by omega)]
   simp
  have e2:wu64 (1*2^min (m:Int).toNat 64:Int)=((2^m:Nat):Int):=by rw [e1];exact wu64_id (by omega) (by omega)
  have e3:wu64 (((2^m:Nat):Int)-1)=((2^m-1:Nat):Int):=by
   rw [wu64_id (by omega) (by omega)]
   omega
  refine ⟨_,rfl,?_⟩
  rw [e2,e3]
  refine ⟨by omega,by omega,fun i hi=>?_⟩
  rw [Int.toNat_natCast,Nat.testBit_two_pow_sub_one]
  simp
theorem rd_nat {α:Type} [Inhabited α] {l:List α} {i:Nat} (h:i<l.length):rd l (i:Int)=l[i]:=by
 unfold rd
 rw [Int.toNat_natCast,List.getD_eq_getElem?_getD,List.getElem?_eq_getElem h]
 rfl
theorem w64_succ {i n:Nat} (h:i<n) (hn:n<4611686018427387904):w64 ((i:Int)+1)=((i+1:Nat):Int):=by
 rw [w64_id (by omega) (by omega)];omega
theorem w64_pred {i n:Nat} (h0:0<i) (h:i≤n) (hn:n<4611686018427387904):w64 ((i:Int)-1)=((i-1:Nat):Int):=by
 rw [w64_id (by omega) (by omega)];omega
def okFrom:Int→List Seg→Bool
 |_,[]=>true
 |lo,s::r=>decide (lo≤s.At)&&(decide (1≤s.Len)&&(decide (s.At+s.Len≤64)&&okFrom (s.At+s.Len+1) r))
abbrev ok (l:List Seg):Bool:=okFrom 0 l
theorem okFrom_cons {lo:Int} {s:Seg} {r:List Seg}:okFrom lo (s::r)=true↔lo≤s.At∧1≤s.Len∧s.At+s.Len≤64∧okFrom (s.At+s.Len+1) r=true:=by
 simp [okFrom]
theorem okFrom_f {lo:Int} {s:Seg} {r:List Seg} (h:¬(lo≤s.At∧1≤s.Len∧s.At+s.Len≤64)):okFrom lo (s::r)=false:=by
 cases e:okFrom lo (s::r) with
 |false=>rfl
 |true=>rw [okFrom_cons] at e;exact absurd ⟨e.1,e.2.1,e.2.2.1⟩ h
theorem okFrom_t {lo:Int} {s:Seg} {r:List Seg} (h1:lo≤s.At) (h2:1≤s.Len) (h3:s.At+s.Len≤64):okFrom lo (s::r)=okFrom (s.At+s.Len+1) r:=by
 simp [okFrom,h1,h2,h3]
def At0 (l:List Seg) (i:Nat) (lo:Int):Prop:=0≤lo∧(i=0→lo=0)∧(0<i→0≤(rd l ((i-1:Nat):Int)).At∧(rd l ((i-1:Nat):Int)).At+(rd l ((i-1:Nat):Int)).Len≤64∧1≤(rd l ((i-1:Nat):Int)).Len∧lo=(rd l ((i-1:Nat):Int)).At+(rd l ((i-1:Nat):Int)).Len+1)
theorem May_l0 {l:List Seg} (hl:l.length<4611686018427387904):∀(n i:Nat) (lo:Int),i≤l.length→l.length-i<n→At0 l i lo→seg_May.l0 l n i=some (okFrom lo (l.drop i))
 |0,i,lo,_,h,_=>by omega
 |n+1,i,lo,hi,hn,hlo=>by
  unfold seg_May.l0
  by_cases c:i<l.length
  ·rw [if_pos (by omega),if_pos ⟨by omega,by omega⟩,List.drop_eq_getElem_cons c]
   have er:=rd_nat c
   rw [er]
   generalize hs:l[i]=s at*
   obtain ⟨hlo0,hlo1,hlo2⟩:=hlo
   by_cases h1:s.At<0
   ·rw [if_pos h1,okFrom_f (by omega)];rfl
   rw [if_neg h1]
   by_cases h2:s.Len<1
   ·rw [if_pos h2,okFrom_f (by omega)];rfl
   rw [if_neg h2]
   by_cases h3:64<s.At
   ·rw [if_pos h3,okFrom_f (by omega)];rfl
   rw [if_neg h3,w64_id (by omega) (by omega)]
   by_cases h4:64-s.At<s.Len
   ·rw [if_pos h4,okFrom_f (by omega)];rfl
   rw [if_neg h4]
   have next:lo≤s.At→seg_May.l0 l n (w64 ((i:Int)+1))=some (okFrom lo (s::l.drop (i+1))):=fun hle=>by
    rw [w64_succ c hl,okFrom_t hle (by omega) (by omega)]
    refine May_l0 hl n (i+1) _ (by omega) (by omega) ⟨by omega,fun h=>by omega,fun _=>?_⟩
    rw [Nat.add_sub_cancel,er]
    exact ⟨by omega,by omega,by omega,rfl⟩
   by_cases h5:(0:Int)<(i:Int)
   ·have h5':0<i:=by omega
    obtain ⟨a1,a2,a3,a4⟩:=hlo2 h5'
    rw [if_pos h5,w64_pred h5' hi hl,if_pos ⟨by omega,by omega⟩,if_pos ⟨by omega,by omega⟩,w64_id (by omega) (by omega)]
    unfold seg_May.j0
    by_cases h6:s.At≤(rd l ((i-1:Nat):Int)).At+(rd l ((i-1:Nat):Int)).Len
    ·rw [decide_eq_true h6,if_pos rfl,okFrom_f (by omega)]
    ·rw [decide_eq_false h6,if_neg (by decide)]
     exact next (by omega)
   ·rw [if_neg h5]
    unfold seg_May.j0
    rw [if_neg (by decide)]
    exact next (by have:=hlo1 (by omega);omega)
  ·rw [if_neg (by omega),List.drop_eq_nil_of_le (by omega)]
   rfl
theorem May_eq {l:List Seg} {k:Nat} (hl:l.length<4611686018427387904) (hk:l.length<k):seg_May.f k l=some (ok l):=by
 have:=May_l0 hl k 0 0 (by omega) (by omega) ⟨by omega,fun _=>rfl,fun h=>by omega⟩
 rw [List.drop_zero] at this
 exact this
theorem Segs_l0 {l:List Seg} (hl:l.length<4611686018427387904):∀(n i:Nat) (lo:Int),i≤l.length→l.length-i<n→At0 l i lo→r1_Segs.l0 l n i=some (okFrom lo (l.drop i))
 |0,i,lo,_,h,_=>by omega
 |n+1,i,lo,hi,hn,hlo=>by
  unfold r1_Segs.l0
  by_cases c:i<l.length
  ·have g:(0:Int)≤(i:Int)∧(i:Int)<(l.length:Int):=⟨by omega,by omega⟩
   rw [if_pos g.2]
   simp only [if_pos g]
   rw [List.drop_eq_getElem_cons c]
   have er:=rd_nat c
   rw [er]
   generalize hs:l[i]=s at*
   obtain ⟨hlo0,hlo1,hlo2⟩:=hlo
   by_cases h1:s.At<0
   ·rw [if_pos h1,okFrom_f (by omega)];rfl
   rw [if_neg h1]
   by_cases h2:s.Len<1
   ·rw [if_pos h2,okFrom_f (by omega)];rfl
   rw [if_neg h2]
   by_cases h3:64<s.At
   ·rw [if_pos h3,okFrom_f (by omega)];rfl
   rw [if_neg h3,w64_id (by omega) (by omega)]
   by_cases h4:64-s.At<s.Len
   ·rw [if_pos h4,okFrom_f (by omega)];rfl
   rw [if_neg h4]
   have next:lo≤s.At→r1_Segs.l0 l n (w64 ((i:Int)+1))=some (okFrom lo (s::l.drop (i+1))):=fun hle=>by
    rw [w64_succ c hl,okFrom_t hle (by omega) (by omega)]
    refine Segs_l0 hl n (i+1) _ (by omega) (by omega) ⟨by omega,fun h=>by omega,fun _=>?_⟩
    rw [Nat.add_sub_cancel,er]
    exact ⟨by omega,by omega,by omega,rfl⟩
   by_cases h5:(0:Int)<(i:Int)
   ·have h5':0<i:=by omega
    obtain ⟨a1,a2,a3,a4⟩:=hlo2 h5'
    rw [if_pos h5,w64_pred h5' hi hl,if_pos ⟨by omega,by omega⟩,if_pos ⟨by omega,by omega⟩,w64_id (by omega) (by omega)]
    unfold r1_Segs.j0
    by_cases h6:s.At≤(rd l ((i-1:Nat):Int)).At+(rd l ((i-1:Nat):Int)).Len
    ·rw [decide_eq_true h6,if_pos rfl,okFrom_f (by omega)]
    ·rw [decide_eq_false h6,if_neg (by decide)]
     exact next (by omega)
   ·rw [if_neg h5]
    unfold r1_Segs.j0
    rw [if_neg (by decide)]
    exact next (by have:=hlo1 (by omega);omega)
  ·rw [if_neg (by omega),List.drop_eq_nil_of_le (by omega)]
   rfl
theorem Segs_eq {l:List Seg} {k:Nat} (hl:l.length<4611686018427387904) (hk:l.length<k):r1_Segs.f k l=some (ok l):=by
 have:=Segs_l0 hl k 0 0 (by omega) (by omega) ⟨by omega,fun _=>rfl,fun h=>by omega⟩
 rw [List.drop_zero] at this
 exact this
def mem:List Seg→Nat→Bool
 |[],_=>false
 |s::r,i=>(decide (s.At≤(i:Int))&&decide ((i:Int)<s.At+s.Len))||mem r i
theorem mem_low {lo:Int}:∀{l:List Seg},okFrom lo l=true→∀{i:Nat},mem l i=true→lo≤(i:Int)∧i<64
 |[],_,i,h=>by simp [mem] at h
 |s::r,hok,i,h=>by
  rw [okFrom_cons] at hok
  simp only [mem,Bool.or_eq_true,Bool.and_eq_true,decide_eq_true_eq] at h
  rcases h with h|h
  ·omega
  ·have:=mem_low hok.2.2.2 h
   omega
theorem ok_elem {lo:Int} (h0:0≤lo):∀{l:List Seg},okFrom lo l=true→∀s∈l,0≤s.At∧1≤s.Len∧s.At+s.Len≤64
 |[],_,s,h=>by simp at h
 |a::r,hok,s,h=>by
  rw [okFrom_cons] at hok
  rcases List.mem_cons.1 h with rfl|h
  ·omega
  ·exact ok_elem (by omega) hok.2.2.2 s h
theorem Make_l0 {l:List Seg} (hl:l.length<4611686018427387904) (hel:∀s∈l,0≤s.At∧1≤s.Len∧s.At+s.Len≤64):∀(n i:Nat) (x:Int) (b:Nat→Bool),i≤l.length→l.length-i<n→IsSet x b→∃y,seg_Make.l0 l n x i=some y∧IsSet y fun j=>b j||mem (l.drop i) j
 |0,i,x,b,_,h,_=>by omega
 |n+1,i,x,b,hi,hn,hx=>by
  unfold seg_Make.l0
  by_cases c:i<l.length
  ·rw [if_pos (by omega),if_pos ⟨by omega,by omega⟩,rd_nat c]
   have hs:=hel l[i] (List.getElem_mem c)
   rw [List.drop_eq_getElem_cons c]
   generalize l[i]=s at*
   rw [w64_id (by omega) (by omega)]
   obtain ⟨u,e1,hu⟩:=To_set (n:=s.At+s.Len) (by omega) (by omega)
   obtain ⟨v,e2,hv⟩:=To_set (n:=s.At) (by omega) (by omega)
   rw [e1,e2]
   simp only [Option.bind_some]
   rw [w64_succ c hl]
   obtain ⟨y,e3,hy⟩:=Make_l0 hl hel n (i+1) _ _ (by omega) (by omega) (hx.or (hu.andn hv))
   refine ⟨y,e3,hy.congr fun j hj=>?_⟩
   simp only [mem]
   rw [Bool.or_assoc]
   congr 2
   rw [Bool.eq_iff_iff]
   simp
   omega
  ·rw [if_neg (by omega),List.drop_eq_nil_of_le (by omega)]
   exact ⟨x,rfl,hx.congr fun j _=>by simp [mem]⟩
theorem Make_set {l:List Seg} {k:Nat} (hl:l.length<4611686018427387904) (hk:l.length<k) (h:ok l=true):∃x,seg_Make.f k l=some x∧IsSet x (mem l):=by
 obtain ⟨y,e,hy⟩:=Make_l0 hl (ok_elem (Int.le_refl 0) h) k 0 0 _ (by omega) (by omega) IsSet.zero
 exact ⟨y,e,hy.congr fun j _=>by simp⟩
end Go.Proofs.YtnaajldlloglkaaGreatDoor.W.S
namespace Go.Proofs.YtnaajldlloglkaaGreatDoor.W.S
open Go.H
theorem low_form:∀x:Nat,0<x→∃i m,x=2^(i+1)*m+2^i:=by
 intro x
 induction x using Nat.strongRecOn with
 |_ x ih=>
  intro h0
  rcases Nat.mod_two_eq_zero_or_one x with h|h
  ·obtain ⟨i,m,e⟩:=ih (x/2) (by omega) (by omega)
   refine ⟨i+1,m,?_⟩
   have:x=2*(x/2):=by omega
   rw [this,e,Nat.pow_succ 2 (i+1),Nat.pow_succ 2 i]
   simp only [Nat.mul_add,Nat.mul_comm,Nat.mul_left_comm,Nat.mul_assoc]
  ·exact ⟨0,x/2,by simp;omega⟩
theorem bit_form {i m:Nat} (j:Nat):(2^(i+1)*m+2^i).testBit j=if j<i+1 then decide (i=j) else m.testBit (j-(i+1)):=by
 rw [Nat.testBit_two_pow_mul_add m (Nat.pow_lt_pow_right (by omega) (by omega)) j,Nat.testBit_two_pow]
theorem and_pred {i m:Nat}:(2^(i+1)*m+2^i)&&&(2^(i+1)*m+2^i-1)=2^(i+1)*m:=by
 have hp:0<2^i:=Nat.two_pow_pos i
 have e:2^(i+1)*m+2^i-1=2^(i+1)*m+(2^i-1):=by omega
 have hlt:2^i-1<2^(i+1):=by have:2^i<2^(i+1):=Nat.pow_lt_pow_right (by omega) (by omega);omega
 apply Nat.eq_of_testBit_eq
 intro j
 rw [Nat.testBit_and,bit_form,e,Nat.testBit_two_pow_mul_add m hlt j,Nat.testBit_two_pow_sub_one,Nat.testBit_two_pow_mul]
 by_cases h:j<i+1
 ·rw [if_pos h,if_pos h]
  have:¬j≥i+1:=by omega
  simp [this]
  omega
 ·rw [if_neg h,if_neg h]
  have:j≥i+1:=by omega
  simp [this]
theorem and_neg {i m:Nat} (h:2^(i+1)*m+2^i<2^64):(2^(i+1)*m+2^i)&&&(2^64-(2^(i+1)*m+2^i))=2^i:=by
 have hp:0<2^i:=Nat.two_pow_pos i
 have hi:i<64:=by
  rcases Nat.lt_or_ge i 64 with h'|h'
  ·exact h'
  ·have:2^64≤2^i:=Nat.pow_le_pow_right (by omega) h'
   omega
 have e64:2^64=2^(i+1)*2^(63-i):=by rw [←Nat.pow_add];congr 1;omega
 have hs:2^(i+1)=2*2^i:=by rw [Nat.pow_succ,Nat.mul_comm]
 have hm:m<2^(63-i):=by
  rcases Nat.lt_or_ge m (2^(63-i)) with h'|h'
  ·exact h'
  ·have:=Nat.mul_le_mul_left (2^(i+1)) h'
   omega
 have e:2^64-(2^(i+1)*m+2^i)=2^(i+1)*(2^(63-i)-(m+1))+2^i:=by
  rw [e64,Nat.mul_sub,Nat.mul_add]
  have:=Nat.mul_le_mul_left (2^(i+1)) (show m+1≤2^(63-i) from hm)
  rw [Nat.mul_add] at this
  omega
 apply Nat.eq_of_testBit_eq
 intro j
 rw [Nat.testBit_and,e,bit_form,bit_form,Nat.testBit_two_pow_sub_succ hm,Nat.testBit_two_pow]
 by_cases hj:j<i+1
 ·rw [if_pos hj,if_pos hj];simp
 ·rw [if_neg hj,if_neg hj]
  have:¬i=j:=by omega
  simp [this]
  exact fun h _=>h
theorem tz_all:∀i:Fin 64,(0≤(wu64 ((2^i.val:Int)*285870213051353865)).fdiv (2^min (58:Int).toNat 64)∧(wu64 ((2^i.val:Int)*285870213051353865)).fdiv (2^min (58:Int).toNat 64)<64)∧w64 (tz ((wu64 ((2^i.val:Int)*285870213051353865)).fdiv (2^min (58:Int).toNat 64)).toNat)=(i.val:Int):=by decide +kernel
theorem least {x:Int} {b:Nat→Bool} (hx:IsSet x b) (h0:x≠0):∃i,i<64∧b i=true∧(∀j,j<i→b j=false)∧seg_Set_Least.f x=some (i:Int)∧IsSet (uand x (wu64 (x-1))) fun j=>b j&&!decide (j=i):=by
 obtain ⟨x0,x1,x2⟩:=hx
 obtain ⟨n,rfl⟩:=Int.eq_ofNat_of_zero_le x0
 rw [Int.toNat_natCast] at x2
 have hn:0<n:=by omega
 obtain ⟨i,m,e⟩:=low_form n hn
 have hlt:n<2^64:=by omega
 have hp:0<2^i:=Nat.two_pow_pos i
 have hi:i<64:=by
  rcases Nat.lt_or_ge i 64 with h'|h'
  ·exact h'
  ·have:2^64≤2^i:=Nat.pow_le_pow_right (by omega) h'
   omega
 have hbit:∀j,j<64→b j=if j<i+1 then decide (i=j) else m.testBit (j-(i+1)):=fun j hj=>by rw [←x2 j hj,e,bit_form]
 refine ⟨i,hi,by rw [hbit i hi,if_pos (by omega)];simp,fun j hj=>by rw [hbit j (by omega),if_pos (by omega)];simp;omega,?_,?_⟩
 ·have e1:wu64 (0-(n:Int))=((2^64-n:Nat):Int):=by rw [wu64_mod];omega
  have e2:uand (n:Int) (wu64 (0-(n:Int)))=((2^i:Nat):Int):=by
   rw [e1,uand_nat (by omega) (by omega) (by omega) (by omega),Int.toNat_natCast,Int.toNat_natCast]
   congr 1
   have:=and_neg (i:=i) (m:=m) (by omega)
   rw [←e] at this
   exact this
  have ht:=tz_all ⟨i,hi⟩
  simp only at ht
  unfold seg_Set_Least.f math_bits_TrailingZeros64.f
  rw [if_neg (by omega),e2]
  have e3:((2^i:Nat):Int)=(2^i:Int):=by simp
  rw [e3,if_pos ht.1,ht.2]
  rfl
 ·have e1:wu64 ((n:Int)-1)=((n-1:Nat):Int):=by rw [wu64_id (by omega) (by omega)];omega
  rw [e1,uand_nat (by omega) (by omega) (by omega) (by omega),Int.toNat_natCast,Int.toNat_natCast]
  have e2:n&&&(n-1)=2^(i+1)*m:=by rw [e];exact and_pred
  rw [e2]
  refine ⟨by omega,by omega,fun j hj=>?_⟩
  rw [Int.toNat_natCast,Nat.testBit_two_pow_mul,hbit j hj]
  by_cases h:j<i+1
  ·rw [if_pos h]
   have:¬j≥i+1:=by omega
   simp [this]
   omega
  ·rw [if_neg h]
   have h1:j≥i+1:=by omega
   have h2:¬j=i:=by omega
   simp [h1,h2]
def secFrom (lo:Nat) (b:Nat→Bool):List Nat:=(List.range' lo (64-lo)).filter b
theorem secFrom_end {b:Nat→Bool}:secFrom 64 b=[]:=rfl
theorem secFrom_cons {lo:Nat} {b:Nat→Bool} (h:lo<64):secFrom lo b=if b lo=true then lo::secFrom (lo+1) b else secFrom (lo+1) b:=by
 unfold secFrom
 rw [show 64-lo=(64-(lo+1))+1 by omega,List.range'_succ,List.filter_cons]
theorem secFrom_skip {b:Nat→Bool}:∀(d lo i:Nat),i=lo+d→i≤64→(∀j,lo≤j→j<i→b j=false)→secFrom lo b=secFrom i b
 |0,lo,i,e,_,_=>by rw [show i=lo by omega]
 |d+1,lo,i,e,hi,h=>by
  rw [secFrom_cons (by omega),h lo (by omega) (by omega),if_neg (by decide)]
  exact secFrom_skip d (lo+1) i (by omega) hi fun j h1 h2=>h j (by omega) h2
theorem secFrom_congr {b c:Nat→Bool}:∀(d lo:Nat),64-lo=d→(∀j,lo≤j→j<64→b j=c j)→secFrom lo b=secFrom lo c:=by
 intro d lo _ h
 unfold secFrom
 apply List.filter_congr
 intro j hj
 rw [List.mem_range'_1] at hj
 exact h j hj.1 (by omega)
theorem Sectors_l0:∀(n lo:Nat) (x:Int) (b:Nat→Bool) (acc:List Int),IsSet x b→(∀j,j<lo→b j=false)→lo≤64→64-lo<n→acc.length≤lo→seg_Set_Sectors.l0 n x acc=some (acc++(secFrom lo b).map fun (i:Nat)=>(i:Int))
 |0,lo,x,b,acc,_,_,_,h,_=>by omega
 |n+1,lo,x,b,acc,hx,hlo,h64,hn,hacc=>by
  unfold seg_Set_Sectors.l0
  by_cases h0:x=0
  ·rw [if_pos h0]
   subst h0
   have:secFrom lo b=[]:=by
    rw [secFrom_skip (64-lo) lo 64 (by omega) (by omega) fun j _ hj=>by rw [←hx.bit j hj];simp]
    rfl
   rw [this]
   simp
  ·rw [if_neg h0]
   obtain ⟨i,hi,hb,hlow,hleast,hnext⟩:=least hx h0
   rw [hleast]
   simp only [Option.bind_some]
   rw [if_pos (by omega)]
   have hli:lo≤i:=by
    rcases Nat.lt_or_ge i lo with h|h
    ·rw [hlo i h] at hb;cases hb
    ·exact h
   rw [Sectors_l0 n (i+1) _ _ _ hnext (fun j hj=>by
    by_cases e:j=i
    ·simp [e]
    ·rw [hlow j (by omega)];rfl) (by omega) (by omega) (by rw [List.length_append];simp;omega)]
   congr 1
   rw [List.append_assoc]
   congr 1
   rw [secFrom_skip (i-lo) lo i (by omega) (by omega) fun j _ hj=>hlow j hj,secFrom_cons hi,if_pos hb,List.map_cons]
   show _::_=_
   congr 1
   show List.map _ _=_
   congr 1
   refine secFrom_congr _ (i+1) rfl fun j h1 h2=>?_
   have:¬j=i:=by omega
   simp [this]
theorem Sectors_eq {x:Int} {b:Nat→Bool} {k:Nat} (hx:IsSet x b) (hk:64<k):seg_Set_Sectors.f k x=some ((secFrom 0 b).map fun (i:Nat)=>(i:Int)):=by
 have:=Sectors_l0 k 0 x b [] hx (fun j hj=>by omega) (by omega) (by omega) (by simp)
 rw [List.nil_append] at this
 exact this
def push (l:List Seg) (n:Nat):List Seg:=
 if l≠[]∧(rd l ((l.length-1:Nat):Int)).At+(rd l ((l.length-1:Nat):Int)).Len=(n:Int) then l.set (l.length-1) ⟨(rd l ((l.length-1:Nat):Int)).At,(rd l ((l.length-1:Nat):Int)).Len+1⟩ else l++[⟨(n:Int),1⟩]
def segsOf (b:Nat→Bool):List Seg:=(secFrom 0 b).foldl push []
def nextLo:Int→List Seg→Int
 |lo,[]=>lo
 |_,s::r=>nextLo (s.At+s.Len+1) r
theorem okFrom_append {lo:Int} {l m:List Seg}:okFrom lo (l++m)=(okFrom lo l&&okFrom (nextLo lo l) m):=by
 induction l generalizing lo with
 |nil=>simp [okFrom,nextLo]
 |cons s r ih=>simp only [List.cons_append,okFrom,nextLo,ih,Bool.and_assoc]
theorem nextLo_append {lo:Int} {l m:List Seg}:nextLo lo (l++m)=nextLo (nextLo lo l) m:=by
 induction l generalizing lo with
 |nil=>rfl
 |cons s r ih=>simp only [List.cons_append,nextLo,ih]
theorem mem_append {l m:List Seg} {i:Nat}:mem (l++m) i=(mem l i||mem m i):=by
 induction l with
 |nil=>simp [mem]
 |cons s r ih=>simp only [List.cons_append,mem,ih,Bool.or_assoc]
theorem push_nil {n:Nat}:push [] n=[⟨(n:Int),1⟩]:=rfl
theorem push_snoc {l:List Seg} {s:Seg} {n:Nat}:push (l++[s]) n=if s.At+s.Len=(n:Int) then l++[⟨s.At,s.Len+1⟩] else l++[s]++[⟨(n:Int),1⟩]:=by
 have e:rd (l++[s]) (((l++[s]).length-1:Nat):Int)=s:=by
  rw [rd_nat (by simp)]
  simp
 unfold push
 rw [e]
 have:l++[s]≠[]:=by simp
 by_cases h:s.At+s.Len=(n:Int)
 ·rw [if_pos ⟨this,h⟩,if_pos h]
  simp
 ·rw [if_neg (fun hh=>h hh.2),if_neg h]
structure Made (l:List Seg) (n:Nat):Prop where
 ok:ok l=true
 next:nextLo 0 l≤(n:Int)+1
 len:l.length≤n
theorem Made.nil:Made [] 0:=⟨rfl,by simp [nextLo],by simp⟩
theorem snoc_cases {α:Type} (l:List α):l=[]∨∃m s,l=m++[s]:=by
 rcases List.eq_nil_or_concat l with h|⟨m,s,h⟩
 ·exact .inl h
 ·exact .inr ⟨m,s,by rw [h];simp⟩
theorem Made.push {l:List Seg} {n:Nat} (h:Made l n) (hn:n<64):Made (push l n) (n+1)∧∀i,mem (push l n) i=(mem l i||decide (i=n)):=by
 obtain ⟨h1,h2,h3⟩:=h
 rcases snoc_cases l with rfl|⟨m,s,rfl⟩
 ·rw [push_nil]
  refine ⟨⟨?_,?_,by simp⟩,fun i=>?_⟩
  ·rw [S.ok,okFrom_cons]
   exact ⟨by simp only;omega,by simp only;omega,by simp only;omega,rfl⟩
  ·simp only [nextLo];omega
  ·simp only [mem,Bool.or_false,Bool.false_or]
   rw [Bool.eq_iff_iff]
   simp
   omega
 ·rw [push_snoc]
  unfold S.ok at h1
  rw [okFrom_append,Bool.and_eq_true,okFrom_cons] at h1
  rw [nextLo_append] at h2
  simp only [nextLo] at h2
  have h0:=ok_elem (Int.le_refl 0) (l:=m++[s]) (by rw [okFrom_append,Bool.and_eq_true,okFrom_cons];exact h1) s (by simp)
  obtain ⟨h1a,h1b,h1c,h1d,h1e⟩:=h1
  by_cases e:s.At+s.Len=(n:Int)
  ·rw [if_pos e]
   refine ⟨⟨?_,?_,by simpa using Nat.le_succ_of_le h3⟩,fun i=>?_⟩
   ·unfold S.ok
    rw [okFrom_append,Bool.and_eq_true,okFrom_cons]
    exact ⟨h1a,h1b,by simp only;omega,by simp only;omega,rfl⟩
   ·rw [nextLo_append]
    simp only [nextLo]
    omega
   ·rw [mem_append,mem_append]
    simp only [mem,Bool.or_false]
    rw [Bool.or_assoc]
    congr 1
    rw [Bool.eq_iff_iff]
    simp
    omega
  ·rw [if_neg e]
   refine ⟨⟨?_,?_,by simp at h3 ⊢;omega⟩,fun i=>?_⟩
   ·unfold S.ok
    rw [okFrom_append,okFrom_append,nextLo_append,Bool.and_eq_true,Bool.and_eq_true,okFrom_cons,okFrom_cons]
    simp only [nextLo]
    exact ⟨⟨h1a,h1b,h1c,h1d,h1e⟩,by omega,by omega,by omega,rfl⟩
   ·rw [nextLo_append,nextLo_append]
    simp only [nextLo]
    omega
   ·rw [mem_append]
    simp only [mem,Bool.or_false]
    congr 1
    rw [Bool.eq_iff_iff]
    simp
    omega
theorem fold_made {b:Nat→Bool}:∀(d lo:Nat) (acc:List Seg),lo+d=64→Made acc lo→Made ((secFrom lo b).foldl push acc) 64∧∀i,mem ((secFrom lo b).foldl push acc) i=(mem acc i||(decide (lo≤i)&&(decide (i<64)&&b i)))
 |0,lo,acc,e,h=>by
  obtain rfl:lo=64:=by omega
  rw [secFrom_end]
  refine ⟨h,fun i=>?_⟩
  simp only [List.foldl_nil]
  cases hm:mem acc i with
  |true=>rfl
  |false=>
   by_cases h1:i<64
   ·have:¬64≤i:=by omega
    simp [this]
   ·simp [h1]
 |d+1,lo,acc,e,h=>by
  have hlo:lo<64:=by omega
  rw [secFrom_cons hlo]
  by_cases hb:b lo=true
  ·rw [if_pos hb,List.foldl_cons]
   obtain ⟨h1,h2⟩:=h.push hlo
   obtain ⟨h3,h4⟩:=fold_made d (lo+1) _ (by omega) h1
   refine ⟨h3,fun i=>?_⟩
   rw [h4,h2]
   by_cases ei:i=lo
   ·subst ei;simp [hb,hlo]
   ·by_cases hi:lo≤i
    ·have:lo+1≤i:=by omega
     simp [ei,hi,this]
    ·have:¬lo+1≤i:=by omega
     simp [ei,hi,this]
  ·rw [if_neg hb]
   obtain ⟨h3,h4⟩:=fold_made (b:=b) d (lo+1) acc (by omega) ⟨h.ok,by have:=h.next;omega,by have:=h.len;omega⟩
   refine ⟨h3,fun i=>?_⟩
   rw [h4]
   by_cases ei:i=lo
   ·subst ei
    have:¬i+1≤i:=by omega
    simp [hb,this]
   ·by_cases hi:lo≤i
    ·have:lo+1≤i:=by omega
     simp [hi,this]
    ·have:¬lo+1≤i:=by omega
     simp [hi,this]
theorem segsOf_made (b:Nat→Bool):Made (segsOf b) 64:=(fold_made 64 0 [] (by omega) Made.nil).1
theorem segsOf_ok (b:Nat→Bool):ok (segsOf b)=true:=(segsOf_made b).ok
theorem segsOf_len (b:Nat→Bool):(segsOf b).length≤64:=(segsOf_made b).len
theorem mem_segsOf {b:Nat→Bool} {i:Nat} (hi:i<64):mem (segsOf b) i=b i:=by
 have:=(fold_made (b:=b) 64 0 [] (by omega) Made.nil).2 i
 unfold segsOf
 rw [this]
 simp [mem,hi]
theorem segsOf_congr {b c:Nat→Bool} (h:∀i,i<64→b i=c i):segsOf b=segsOf c:=by
 unfold segsOf
 rw [secFrom_congr 64 0 rfl fun j _ hj=>h j hj]
theorem ok_ext:∀{l m:List Seg} {lo lo':Int},0≤lo→0≤lo'→okFrom lo l=true→okFrom lo' m=true→(∀i,i<64→mem l i=mem m i)→l=m
 |[],[],_,_,_,_,_,_,_=>rfl
 |[],s::r,lo,lo',_,h0,_,h2,h=>by
  rw [okFrom_cons] at h2
  have:=h s.At.toNat (by omega)
  simp only [mem] at this
  have e:(s.At.toNat:Int)=s.At:=by omega
  rw [e] at this
  simp at this
  omega
 |s::r,[],lo,lo',h0,_,h2,_,h=>by
  rw [okFrom_cons] at h2
  have:=h s.At.toNat (by omega)
  simp only [mem] at this
  have e:(s.At.toNat:Int)=s.At:=by omega
  rw [e] at this
  simp at this
  omega
 |s::r,t::q,lo,lo',h0,h0',h1,h2,h=>by
  rw [okFrom_cons] at h1 h2
  have hr:∀i,mem r i=true→s.At+s.Len+1≤(i:Int):=fun i hi=>(mem_low h1.2.2.2 hi).1
  have hq:∀i,mem q i=true→t.At+t.Len+1≤(i:Int):=fun i hi=>(mem_low h2.2.2.2 hi).1
  have key:∀i:Nat,i<64→((s.At≤(i:Int)∧(i:Int)<s.At+s.Len)∨mem r i=true↔(t.At≤(i:Int)∧(i:Int)<t.At+t.Len)∨mem q i=true):=fun i hi=>by
   have:=h i hi
   rw [Bool.eq_iff_iff] at this
   simpa [mem] using this
  have eAt:s.At=t.At:=by
   have k1:=(key s.At.toNat (by omega)).1 (.inl ⟨by omega,by omega⟩)
   have k2:=(key t.At.toNat (by omega)).2 (.inl ⟨by omega,by omega⟩)
   rcases k1 with k1|k1
   ·rcases k2 with k2|k2
    ·omega
    ·have:=hr _ k2;omega
   ·have:=hq _ k1
    rcases k2 with k2|k2
    ·omega
    ·have:=hr _ k2;omega
  have eLen:s.Len=t.Len:=by
   rcases Int.lt_trichotomy s.Len t.Len with hlt|he|hgt
   ·have k:=(key (s.At+s.Len).toNat (by omega)).2 (.inl ⟨by omega,by omega⟩)
    rcases k with k|k
    ·omega
    ·have:=hr _ k;omega
   ·exact he
   ·have k:=(key (t.At+t.Len).toNat (by omega)).1 (.inl ⟨by omega,by omega⟩)
    rcases k with k|k
    ·omega
    ·have:=hq _ k;omega
  have est:s=t:=by cases s;cases t;simp_all
  subst est
  congr 1
  refine ok_ext (by omega) (by omega) h1.2.2.2 h2.2.2.2 fun i hi=>?_
  rw [Bool.eq_iff_iff]
  constructor
  ·intro hm
   have h3:=hr i hm
   rcases (key i hi).1 (.inr hm) with k|k
   ·omega
   ·exact k
  ·intro hm
   have h3:=hq i hm
   rcases (key i hi).2 (.inr hm) with k|k
   ·omega
   ·exact k
theorem segsOf_mem {l:List Seg} (h:ok l=true):segsOf (mem l)=l:=ok_ext (Int.le_refl 0) (Int.le_refl 0) (segsOf_ok _) h fun i hi=>mem_segsOf hi
end Go.Proofs.YtnaajldlloglkaaGreatDoor.W.S
namespace Go.Proofs.YtnaajldlloglkaaGreatDoor.W.S
open Go.H
def Rise:Nat→List Nat→Prop
 |_,[]=>True
 |lo,n::r=>lo≤n∧n<64∧Rise (n+1) r
theorem Rise.low {lo lo':Nat} (h:lo'≤lo):∀{l:List Nat},Rise lo l→Rise lo' l
 |[],_=>trivial
 |n::r,k=>⟨by have:=k.1;omega,k.2⟩
theorem secFrom_rise (b:Nat→Bool):∀(d lo:Nat),lo+d=64→Rise lo (secFrom lo b)
 |0,lo,e=>by
  obtain rfl:lo=64:=by omega
  rw [secFrom_end];trivial
 |d+1,lo,e=>by
  rw [secFrom_cons (by omega)]
  have ih:=secFrom_rise b d (lo+1) (by omega)
  split
  ·exact ⟨by omega,by omega,ih⟩
  ·exact ih.low (by omega)
theorem Made.up {l:List Seg} {n m:Nat} (h:Made l n) (hm:n≤m):Made l m:=⟨h.ok,by have:=h.next;omega,by have:=h.len;omega⟩
theorem Made.last {l:List Seg} {n:Nat} (h:Made l n) (h0:0<l.length):0≤(rd l ((l.length-1:Nat):Int)).At∧1≤(rd l ((l.length-1:Nat):Int)).Len∧(rd l ((l.length-1:Nat):Int)).At+(rd l ((l.length-1:Nat):Int)).Len≤64:=by
 rw [rd_nat (by omega)]
 exact ok_elem (Int.le_refl 0) h.ok _ (List.getElem_mem _)
theorem push_t {l:List Seg} {n:Nat} (h0:0<l.length) (h:(rd l ((l.length-1:Nat):Int)).At+(rd l ((l.length-1:Nat):Int)).Len=(n:Int)):push l n=l.set (l.length-1) ⟨(rd l ((l.length-1:Nat):Int)).At,(rd l ((l.length-1:Nat):Int)).Len+1⟩:=by
 unfold push
 rw [if_pos ⟨by intro e;rw [e] at h0;simp at h0,h⟩]
theorem push_f {l:List Seg} {n:Nat} (h:0<l.length→¬(rd l ((l.length-1:Nat):Int)).At+(rd l ((l.length-1:Nat):Int)).Len=(n:Int)):push l n=l++[⟨(n:Int),1⟩]:=by
 unfold push
 rw [if_neg]
 rintro ⟨h1,h2⟩
 exact h (List.length_pos_iff.2 h1) h2
theorem Set_Segs_l0 {L:List Nat} (hL:L.length<4611686018427387904):∀(n it lo:Nat) (acc:List Seg),it≤L.length→L.length-it<n→Rise lo (L.drop it)→lo≤64→Made acc lo→seg_Set_Segs.l0 (L.map fun (i:Nat)=>(i:Int)) n acc it=some ((L.drop it).foldl push acc)
 |0,it,lo,acc,_,h,_,_,_=>by omega
 |n+1,it,lo,acc,hit,hn,hr,h64,hm=>by
  unfold seg_Set_Segs.l0
  have el:((L.map fun (i:Nat)=>(i:Int)).length:Int)=(L.length:Int):=by simp
  by_cases c:it<L.length
  ·rw [if_pos (by omega),if_pos ⟨by omega,by omega⟩]
   have ed:=List.drop_eq_getElem_cons c
   rw [ed] at hr ⊢
   have er:rd (L.map fun (i:Nat)=>(i:Int)) (it:Int)=((L[it]:Nat):Int):=by rw [rd_nat (by simpa using c)];simp
   rw [er]
   generalize L[it]=m at*
   obtain ⟨hr1,hr2,hr3⟩:=hr
   have hmm:=hm.up hr1
   have hp:=(hmm.push hr2).1
   have hal:=hm.len
   have next:seg_Set_Segs.l0 (L.map fun (i:Nat)=>(i:Int)) n (push acc m) (w64 ((it:Int)+1))=some ((L.drop (it+1)).foldl push (push acc m)):=by
    rw [w64_succ c hL]
    exact Set_Segs_l0 hL n (it+1) (m+1) _ (by omega) (by omega) hr3 (by omega) hp
   rw [List.foldl_cons]
   by_cases h0:(0:Int)<(acc.length:Int)
   ·have h0':0<acc.length:=by omega
    obtain ⟨l1,l2,l3⟩:=hm.last h0'
    have ew:w64 ((acc.length:Int)-1)=((acc.length-1:Nat):Int):=w64_pred (n:=acc.length) h0' (Nat.le_refl _) (by omega)
    rw [if_pos h0]
    simp only [ew]
    rw [if_pos ⟨by omega,by omega⟩,if_pos ⟨by omega,by omega⟩,w64_id (by omega) (by omega)]
    unfold seg_Set_Segs.j1
    simp only [ew]
    by_cases h1:(rd acc ((acc.length-1:Nat):Int)).At+(rd acc ((acc.length-1:Nat):Int)).Len=(m:Int)
    ·rw [beq_t h1,if_pos rfl,if_pos ⟨by omega,by omega⟩,if_pos ⟨by omega,by omega⟩,w64_id (by omega) (by omega),Int.toNat_natCast]
     unfold seg_Set_Segs.j0
     rw [←push_t h0' h1]
     exact next
    ·rw [beq_f h1,if_neg (by decide),if_pos (by omega),er]
     unfold seg_Set_Segs.j0
     rw [←push_f fun _=>h1]
     exact next
   ·rw [if_neg h0]
    unfold seg_Set_Segs.j1
    rw [if_neg (by decide),if_pos (by omega),er]
    unfold seg_Set_Segs.j0
    rw [←push_f fun h=>by omega]
    exact next
  ·rw [if_neg (by omega),List.drop_eq_nil_of_le (by omega)]
   rfl
theorem secFrom_len (b:Nat→Bool) (lo:Nat):(secFrom lo b).length≤64:=by
 unfold secFrom
 refine Nat.le_trans (List.length_filter_le _ _) ?_
 simp
theorem Set_Segs_eq {x:Int} {b:Nat→Bool} {k:Nat} (hx:IsSet x b) (hk:64<k):seg_Set_Segs.f k x=some (segsOf b):=by
 unfold seg_Set_Segs.f
 rw [Sectors_eq hx hk]
 simp only [Option.bind_some]
 have hl:=secFrom_len b 0
 exact Set_Segs_l0 (by omega) k 0 0 [] (by omega) (by omega) (secFrom_rise b 64 0 (by omega)) (by omega) Made.nil
theorem EqSegs_l0 {l m:List Seg} (hl:l.length<4611686018427387904) (e:l.length=m.length):∀(n i:Nat),i≤l.length→l.length-i<n→r0_EqSegs.l0 l m n i=some (decide (l.drop i=m.drop i))
 |0,i,_,h=>by omega
 |n+1,i,hi,hn=>by
  unfold r0_EqSegs.l0
  by_cases c:i<l.length
  ·have c2:i<m.length:=by omega
   rw [if_pos (by omega),if_pos ⟨by omega,by omega⟩,if_pos ⟨by omega,by omega⟩,rd_nat c,rd_nat c2,List.drop_eq_getElem_cons c,List.drop_eq_getElem_cons c2]
   by_cases h:l[i]=m[i]
   ·rw [if_pos h,w64_succ c hl,EqSegs_l0 hl e n (i+1) (by omega) (by omega)]
    congr 1
    rw [decide_eq_decide,List.cons.injEq]
    exact ⟨fun hh=>⟨h,hh⟩,fun hh=>hh.2⟩
   ·rw [if_neg h]
    congr 1
    symm
    rw [decide_eq_false_iff_not,List.cons.injEq]
    exact fun hh=>h hh.1
  ·rw [if_neg (by omega),List.drop_eq_nil_of_le (by omega),List.drop_eq_nil_of_le (by omega)]
   simp
theorem EqSegs_eq {l m:List Seg} {k:Nat} (hl:l.length<4611686018427387904) (hk:l.length<k):r0_EqSegs.f k l m=some (decide (l=m)):=by
 unfold r0_EqSegs.f
 by_cases e:(l.length:Int)=(m.length:Int)
 ·rw [if_pos e]
  exact EqSegs_l0 hl (by omega) k 0 (by omega) (by omega)
 ·rw [if_neg e]
  have:¬l=m:=fun h=>e (by rw [h])
  simp [this]
end Go.Proofs.YtnaajldlloglkaaGreatDoor.W.S
namespace Go.Proofs.YtnaajldlloglkaaGreatDoor.W.S
open Go.H
theorem and_bytes {a b c d:Nat} (hb:b<256) (hd:d<256):(256*a+b)&&&(256*c+d)=256*(a&&&c)+(b&&&d):=by
 have hbd:b&&&d<2^8:=Nat.and_lt_two_pow _ (by omega)
 apply Nat.eq_of_testBit_eq
 intro j
 rw [Nat.testBit_and,show (256:Nat)=2^8 from rfl,Nat.testBit_two_pow_mul_add _ (by omega),Nat.testBit_two_pow_mul_add _ (by omega),Nat.testBit_two_pow_mul_add _ hbd]
 split
 ·rw [Nat.testBit_and]
 ·rw [Nat.testBit_and]
def pop8 (r:Nat):Nat:=((List.range 8).filter fun i=>r.testBit i).length
theorem low1:∀r:Fin 256,∀q:Fin 2,(r.val/2+128*q.val)&&&85=(r.val/2)&&&85:=by decide +kernel
theorem low2:∀r:Fin 256,∀q:Fin 4,(r.val/4+64*q.val)&&&51=(r.val/4)&&&51:=by decide +kernel
def rep (d:Nat):Nat→Nat
 |0=>0
 |k+1=>256*rep d k+d
def S1 (k n:Nat):Nat:=(n/2&&&rep 85 k)+(n&&&rep 85 k)
def S2 (k n:Nat):Nat:=(n/4&&&rep 51 k)+(n&&&rep 51 k)
def S3 (k n:Nat):Nat:=(n/16+n)&&&rep 15 k
def g1 (r:Nat):Nat:=(r/2&&&85)+(r&&&85)
def g2 (r:Nat):Nat:=(r/4&&&51)+(r&&&51)
theorem g_all:∀r:Fin 256,g1 r.val<256∧g2 (g1 r.val)≤68∧g2 (g1 r.val)%16≤4:=by decide +kernel
theorem g_pop:∀r:Fin 256,∀t:Fin 5,(g2 (g1 r.val)/16+g2 (g1 r.val)+16*t.val)&&&15=pop8 r.val:=by decide +kernel
theorem S1_step {k q r:Nat} (hr:r<256):S1 (k+1) (256*q+r)=256*S1 k q+g1 r:=by
 have e:(256*q+r)/2=256*(q/2)+(r/2+128*(q%2)):=by omega
 have h1:=low1 ⟨r,hr⟩ ⟨q%2,by omega⟩
 simp only at h1
 unfold S1 g1
 rw [show rep 85 (k+1)=256*rep 85 k+85 from rfl,e,and_bytes (by omega) (by omega),and_bytes hr (by omega),h1]
 omega
theorem S2_step {k q r:Nat} (hr:r<256):S2 (k+1) (256*q+r)=256*S2 k q+g2 r:=by
 have e:(256*q+r)/4=256*(q/4)+(r/4+64*(q%4)):=by omega
 have h1:=low2 ⟨r,hr⟩ ⟨q%4,by omega⟩
 simp only at h1
 unfold S2 g2
 rw [show rep 51 (k+1)=256*rep 51 k+51 from rfl,e,and_bytes (by omega) (by omega),and_bytes hr (by omega),h1]
 omega
def T (k n:Nat):Nat:=S3 k (S2 k (S1 k n))
theorem S_low (k n:Nat):S2 k (S1 k n)%16≤4:=by
 cases k with
 |zero=>simp [S2,rep]
 |succ k=>
  have e:n=256*(n/256)+n%256:=by omega
  have hr:n%256<256:=by omega
  have hg:=g_all ⟨n%256,hr⟩
  simp only at hg
  rw [e,S1_step hr,S2_step hg.1]
  omega
theorem T_step {k q r:Nat} (hr:r<256):T (k+1) (256*q+r)=256*T k q+pop8 r:=by
 have hg:=g_all ⟨r,hr⟩
 simp only at hg
 have hl:=S_low k q
 have hp:=g_pop ⟨r,hr⟩ ⟨S2 k (S1 k q)%16,by omega⟩
 simp only at hp
 unfold T
 rw [S1_step hr,S2_step hg.1]
 unfold S3
 rw [show rep 15 (k+1)=256*rep 15 k+15 from rfl]
 generalize S2 k (S1 k q)=B at*
 have e:(256*B+g2 (g1 r))/16+(256*B+g2 (g1 r))=256*(B/16+B)+(g2 (g1 r)/16+g2 (g1 r)+16*(B%16)):=by omega
 rw [e,and_bytes (by omega) (by omega),hp]
theorem T_zero (n:Nat):T 0 n=0:=by simp [T,S3,rep]
theorem T_byte (k n:Nat):T (k+1) n=256*T k (n/256)+pop8 (n%256):=by
 have e:n=256*(n/256)+n%256:=by omega
 have:=T_step (k:=k) (q:=n/256) (r:=n%256) (by omega)
 rw [←e] at this
 exact this
theorem pop8_le (r:Nat):pop8 r≤8:=by
 unfold pop8
 refine Nat.le_trans (List.length_filter_le _ _) ?_
 simp
def cnt (b:Nat→Bool) (lo:Nat):Nat:=((List.range' lo 8).filter b).length
theorem cnt_pop {n lo:Nat}:cnt (fun i=>n.testBit i) lo=pop8 (n/2^lo%256):=by
 unfold cnt pop8
 rw [List.range'_eq_map_range,List.filter_map,List.length_map]
 congr 1
 apply List.filter_congr
 intro j hj
 have hj8:j<8:=List.mem_range.1 hj
 rw [show (256:Nat)=2^8 from rfl,Nat.testBit_mod_two_pow,Nat.testBit_div_two_pow]
 simp [hj8,Nat.add_comm]
theorem sec_cnt (b:Nat→Bool):(secFrom 0 b).length=cnt b 0+cnt b 8+cnt b 16+cnt b 24+cnt b 32+cnt b 40+cnt b 48+cnt b 56:=by
 have e:List.range' 0 (64-0)=List.range' 0 8++List.range' 8 8++List.range' 16 8++List.range' 24 8++List.range' 32 8++List.range' 40 8++List.range' 48 8++List.range' 56 8:=by decide +kernel
 unfold secFrom cnt
 rw [e]
 simp only [List.filter_append,List.length_append]
theorem fdiv_pow (n j:Nat) (hj:j≤64):((n:Nat):Int).fdiv (2^min ((j:Nat):Int).toNat 64)=((n/2^j:Nat):Int):=by
 rw [Int.toNat_natCast,Nat.min_eq_left hj,Int.fdiv_eq_ediv_of_nonneg _ (Int.pow_nonneg (by decide))]
 simp
theorem uand_n {a b:Nat} (ha:a<18446744073709551616) (hb:b<18446744073709551616):uand (a:Int) (b:Int)=((a&&&b:Nat):Int):=by
 rw [uand_nat (by omega) (by omega) (by omega) (by omega)]
 simp
theorem and_le_r (a b:Nat):a&&&b≤b:=Nat.and_le_right
theorem T8_sum (n:Nat):∃p0 p1 p2 p3 p4 p5 p6 p7:Nat,p0≤8∧p1≤8∧p2≤8∧p3≤8∧p4≤8∧p5≤8∧p6≤8∧p7≤8∧
 T 8 n=p0+256*p1+65536*p2+16777216*p3+4294967296*p4+1099511627776*p5+281474976710656*p6+72057594037927936*p7∧(secFrom 0 fun i=>n.testBit i).length=p0+p1+p2+p3+p4+p5+p6+p7:=by
 refine ⟨_,_,_,_,_,_,_,_,pop8_le (n/2^0%256),pop8_le (n/2^8%256),pop8_le (n/2^16%256),pop8_le (n/2^24%256),pop8_le (n/2^32%256),pop8_le (n/2^40%256),pop8_le (n/2^48%256),pop8_le (n/2^56%256),?_,?_⟩
 ·rw [T_byte,T_byte,T_byte,T_byte,T_byte,T_byte,T_byte,T_byte,T_zero]
  simp only [Nat.div_div_eq_div_mul]
  simp only [show (2:Nat)^0=1 from rfl,show (2:Nat)^8=256 from rfl,show (2:Nat)^16=256*256 from rfl,show (2:Nat)^24=256*256*256 from rfl,show (2:Nat)^32=256*256*256*256 from rfl,show (2:Nat)^40=256*256*256*256*256 from rfl,show (2:Nat)^48=256*256*256*256*256*256 from rfl,show (2:Nat)^56=256*256*256*256*256*256*256 from rfl,Nat.div_one]
  omega
 ·rw [sec_cnt,cnt_pop,cnt_pop,cnt_pop,cnt_pop,cnt_pop,cnt_pop,cnt_pop,cnt_pop]
theorem rep85:rep 85 8=6148914691236517205:=by decide
theorem rep51:rep 51 8=3689348814741910323:=by decide
theorem rep15:rep 15 8=1085102592571150095:=by decide
theorem iand_127 {x:Nat} (hx:x<9223372036854775808):iand (x:Int) 127=((x%128:Nat):Int):=by
 have h1:(BitVec.ofInt 64 (x:Int)).toNat=x:=by simp;omega
 have h2:(BitVec.ofInt 64 127).toNat=127:=by decide
 show IntKind.i64.wrap ((BitVec.ofInt 64 (x:Int)&&&BitVec.ofInt 64 127).toNat:Int)=_
 rw [BitVec.toNat_and,h1,h2,show (127:Nat)=2^7-1 from rfl,Nat.and_two_pow_sub_one_eq_mod]
 exact w64_id (by omega) (by omega)
theorem digits {p0 p1 p2 p3 p4 p5 p6 p7 c d:Nat} (h0:p0≤8) (h1:p1≤8) (h2:p2≤8) (h3:p3≤8) (h4:p4≤8) (h5:p5≤8) (h6:p6≤8) (h7:p7≤8)
 (eT:c=p0+256*p1+65536*p2+16777216*p3+4294967296*p4+1099511627776*p5+281474976710656*p6+72057594037927936*p7) (hd:(c+c/256)+(c+c/256)/65536=d):(d+d/4294967296)%128=p0+p1+p2+p3+p4+p5+p6+p7:=by
 have e1:c/256=p1+256*p2+65536*p3+16777216*p4+4294967296*p5+1099511627776*p6+281474976710656*p7:=by omega
 have e2:c+c/256=(p0+p1)+256*(p1+p2)+65536*(p2+p3)+16777216*(p3+p4)+4294967296*(p4+p5)+1099511627776*(p5+p6)+281474976710656*(p6+p7)+72057594037927936*p7:=by rw [e1,eT];omega
 have e3:(c+c/256)/65536=(p2+p3)+256*(p3+p4)+65536*(p4+p5)+16777216*(p5+p6)+4294967296*(p6+p7)+1099511627776*p7:=by rw [e2];omega
 have e4:d=(p0+p1+p2+p3)+256*(p1+p2+p3+p4)+65536*(p2+p3+p4+p5)+16777216*(p3+p4+p5+p6)+4294967296*(p4+p5+p6+p7)+1099511627776*(p5+p6+p7)+281474976710656*(p6+p7)+72057594037927936*p7:=by rw [←hd,e3,e2];omega
 clear e1 e2 e3 hd eT
 have e5:d/4294967296=(p4+p5+p6+p7)+256*(p5+p6+p7)+65536*(p6+p7)+16777216*p7:=by omega
 rw [e5]
 omega
theorem Ones_nat {n:Nat} (hn:n<18446744073709551616):math_bits_OnesCount64.f (n:Int)=some (((secFrom 0 fun i=>n.testBit i).length:Nat):Int):=by
 have f1:∀a:Nat,(a:Int).fdiv (2^min (1:Int).toNat 64)=((a/2:Nat):Int):=fun a=>fdiv_pow a 1 (by omega)
 have f2:∀a:Nat,(a:Int).fdiv (2^min (2:Int).toNat 64)=((a/4:Nat):Int):=fun a=>fdiv_pow a 2 (by omega)
 have f4:∀a:Nat,(a:Int).fdiv (2^min (4:Int).toNat 64)=((a/16:Nat):Int):=fun a=>fdiv_pow a 4 (by omega)
 have f8:∀a:Nat,(a:Int).fdiv (2^min (8:Int).toNat 64)=((a/256:Nat):Int):=fun a=>fdiv_pow a 8 (by omega)
 have f16:∀a:Nat,(a:Int).fdiv (2^min (16:Int).toNat 64)=((a/65536:Nat):Int):=fun a=>fdiv_pow a 16 (by omega)
 have f32:∀a:Nat,(a:Int).fdiv (2^min (32:Int).toNat 64)=((a/4294967296:Nat):Int):=fun a=>fdiv_pow a 32 (by omega)
 have m1:∀a:Nat,a<18446744073709551616→uand (a:Int) 6148914691236517205=((a&&&6148914691236517205:Nat):Int):=fun a ha=>uand_n ha (by decide)
 have m2:∀a:Nat,a<18446744073709551616→uand (a:Int) 3689348814741910323=((a&&&3689348814741910323:Nat):Int):=fun a ha=>uand_n ha (by decide)
 have m4:∀a:Nat,a<18446744073709551616→uand (a:Int) 1085102592571150095=((a&&&1085102592571150095:Nat):Int):=fun a ha=>uand_n ha (by decide)
 have add:∀a b:Nat,a+b<18446744073709551616→wu64 ((a:Int)+(b:Int))=((a+b:Nat):Int):=fun a b h=>by rw [wu64_id (by omega) (by omega)];omega
 have b1:=and_le_r (n/2) 6148914691236517205
 have b2:=and_le_r n 6148914691236517205
 have e1:wu64 ((uand ((n:Int).fdiv (2^min (1:Int).toNat 64)) 6148914691236517205)+(uand (n:Int) 6148914691236517205))=((S1 8 n:Nat):Int):=by
  rw [f1,m1 _ (by omega),m1 _ hn,add _ _ (by omega)]
  unfold S1
  rw [rep85]
 have hs1:S1 8 n<18446744073709551616:=by unfold S1;rw [rep85];omega
 have c1:=and_le_r (S1 8 n/4) 3689348814741910323
 have c2:=and_le_r (S1 8 n) 3689348814741910323
 have e2:wu64 ((uand (((S1 8 n:Nat):Int).fdiv (2^min (2:Int).toNat 64)) 3689348814741910323)+(uand ((S1 8 n:Nat):Int) 3689348814741910323))=((S2 8 (S1 8 n):Nat):Int):=by
  rw [f2,m2 _ (by omega),m2 _ hs1,add _ _ (by omega)]
  unfold S2
  rw [rep51]
 have hs2:S2 8 (S1 8 n)≤7378697629483820646:=by unfold S2;rw [rep51];omega
 have e3:uand (wu64 ((((S2 8 (S1 8 n):Nat):Int).fdiv (2^min (4:Int).toNat 64))+((S2 8 (S1 8 n):Nat):Int))) 1085102592571150095=((T 8 n:Nat):Int):=by
  rw [f4,add _ _ (by omega),m4 _ (by omega)]
  unfold T S3
  rw [rep15]
 obtain ⟨p0,p1,p2,p3,p4,p5,p6,p7,h0,h1,h2,h3,h4,h5,h6,h7,eT,eS⟩:=T8_sum n
 unfold math_bits_OnesCount64.f
 simp only [e1,e2,e3]
 generalize T 8 n=c at*
 have hc:c<1157442765409226769:=by omega
 have g1:wu64 ((c:Int)+(c:Int).fdiv (2^min (8:Int).toNat 64))=((c+c/256:Nat):Int):=by rw [f8,add _ _ (by omega)]
 have g2:wu64 (((c+c/256:Nat):Int)+((c+c/256:Nat):Int).fdiv (2^min (16:Int).toNat 64))=(((c+c/256)+(c+c/256)/65536:Nat):Int):=by rw [f16,add _ _ (by omega)]
 simp only [g1,g2]
 generalize hd:(c+c/256)+(c+c/256)/65536=d at*
 have hd2:d<1162000000000000000:=by omega
 have g3:wu64 ((d:Int)+(d:Int).fdiv (2^min (32:Int).toNat 64))=((d+d/4294967296:Nat):Int):=by rw [f32,add _ _ (by omega)]
 rw [g3,eS]
 have g4:w64 ((d+d/4294967296:Nat):Int)=((d+d/4294967296:Nat):Int):=w64_id (by omega) (by omega)
 rw [g4,iand_127 (by omega),digits h0 h1 h2 h3 h4 h5 h6 h7 eT hd]
theorem Count_eq {x:Int} {b:Nat→Bool} (hx:IsSet x b):seg_Set_Count.f x=some (((secFrom 0 b).length:Nat):Int):=by
 obtain ⟨x0,x1,x2⟩:=hx
 obtain ⟨n,rfl⟩:=Int.eq_ofNat_of_zero_le x0
 unfold seg_Set_Count.f
 rw [Ones_nat (by omega)]
 simp only [Option.bind_some]
 have e:secFrom 0 (fun i=>n.testBit i)=secFrom 0 b:=secFrom_congr 64 0 rfl fun j _ hj=>by have:=x2 j hj;rwa [Int.toNat_natCast] at this
 rw [e]
theorem IsSet.zero_iff {x:Int} {b:Nat→Bool} (hx:IsSet x b):x=0↔∀i,i<64→b i=false:=by
 constructor
 ·rintro rfl i hi
  rw [←hx.bit i hi]
  simp
 ·intro h
  exact IsSet.eq hx (IsSet.zero.congr fun i hi=>(h i hi).symm)
def below (l:List Seg) (n:Int):Bool:=(List.range 64).all fun i=>!mem l i||decide ((i:Int)<n)
theorem below_iff {l:List Seg} {n:Int}:below l n=true↔∀i,i<64→mem l i=true→(i:Int)<n:=by
 unfold below
 rw [List.all_eq_true]
 constructor
 ·intro h i hi hm
  have:=h i (List.mem_range.2 hi)
  rw [hm] at this
  simpa using this
 ·intro h i hi
  have hi':=List.mem_range.1 hi
  cases hm:mem l i with
  |false=>rfl
  |true=>simpa using h i hi' hm
theorem segsOf_none:segsOf (fun _=>false)=[]:=by decide +kernel
theorem sec_below:∀n:Fin 65,(secFrom 0 fun i=>decide ((i:Int)<(n.val:Int))).length=n.val:=by decide +kernel
def inNum (n:Int):Bool:=decide (0≤n)&&decide (n<64)
theorem inNum_iff {n:Int}:inNum n=true↔0≤n∧n<64:=by simp [inNum]
theorem One_set {n:Int} (h0:0≤n) (h1:n<64):∃x,seg_One.f n=some x∧IsSet x fun i=>decide ((i:Int)=n):=by
 unfold seg_One.f
 rw [if_pos h0]
 obtain ⟨m,rfl⟩:=Int.eq_ofNat_of_zero_le h0
 have hm:m<64:=by omega
 have hp:2^m<2^64:=Nat.pow_lt_pow_right (by omega) hm
 have hp0:0<2^m:=Nat.two_pow_pos m
 have e1:(1*2^min (m:Int).toNat 64:Int)=((2^m:Nat):Int):=by
  rw [Int.toNat_natCast,Nat.min_eq_left (by omega)]
  simp
 have e2:wu64 (1*2^min (m:Int).toNat 64:Int)=((2^m:Nat):Int):=by rw [e1];exact wu64_id (by omega) (by omega)
 refine ⟨_,rfl,?_⟩
 rw [e2]
 refine ⟨by omega,by omega,fun i hi=>?_⟩
 rw [Int.toNat_natCast,Nat.testBit_two_pow]
 rw [Bool.eq_iff_iff]
 simp
 omega
theorem sec_split {b c:Nat→Bool} (lo:Nat):(secFrom lo fun i=>b i&&!c i).length+(secFrom lo fun i=>b i&&c i).length=(secFrom lo b).length:=by
 unfold secFrom
 induction List.range' lo (64-lo) with
 |nil=>rfl
 |cons a r ih=>
  rw [List.filter_cons,List.filter_cons,List.filter_cons]
  cases b a <;>cases c a <;>simp <;>omega
theorem SetHas_eq {x:Int} {b:Nat→Bool} {n:Int} (hx:IsSet x b):seg_Set_Has.f x n=some (inNum n&&b n.toNat):=by
 unfold seg_Set_Has.f inNum
 by_cases h0:0≤n
 ·rw [if_pos h0,decide_eq_true h0]
  by_cases h1:n<64
  ·rw [if_pos h1,decide_eq_true h1]
   obtain ⟨y,e,hy⟩:=One_set h0 h1
   rw [e]
   simp only [Option.bind_some,Bool.true_and]
   have hz:=hx.and hy
   cases hb:b n.toNat with
   |true=>
    rw [bne_t fun e=>?_]
    have:=hz.zero_iff.1 e n.toNat (by omega)
    rw [hb] at this
    simp at this
    omega
   |false=>
    rw [bne_f (hz.zero_iff.2 fun i hi=>?_)]
    by_cases e:(i:Int)=n
    ·rw [show n.toNat=i by omega] at hb
     rw [hb];rfl
    ·simp [e]
  ·rw [if_neg h1,decide_eq_false h1];rfl
 ·rw [if_neg h0,decide_eq_false h0];rfl
end Go.Proofs.YtnaajldlloglkaaGreatDoor.W.S
namespace Go.Proofs.YtnaajldlloglkaaGreatDoor.W.S
open Go.H
theorem Of_l0 {s:Nat→Bool}:∀(n i:Nat) (acc:List Seg),i≤64→64-i<n→Made acc i→r1_Of.l0 s n acc i=some ((secFrom i s).foldl push acc)
 |0,i,acc,_,h,_=>by omega
 |n+1,i,acc,hi,hn,hm=>by
  unfold r1_Of.l0
  by_cases c:i<64
  ·rw [if_pos (by omega),if_pos ⟨by omega,by omega⟩,Int.toNat_natCast,secFrom_cons c]
   have hal:=hm.len
   by_cases hs:s i=true
   ·rw [if_pos hs,if_pos hs,List.foldl_cons]
    have hp:=(hm.push c).1
    have next:r1_Of.l0 s n (push acc i) (w64 ((i:Int)+1))=some ((secFrom (i+1) s).foldl push (push acc i)):=by
     rw [w64_succ c (by omega)]
     exact Of_l0 n (i+1) _ (by omega) (by omega) hp
    by_cases h0:(0:Int)<(acc.length:Int)
    ·have h0':0<acc.length:=by omega
     obtain ⟨l1,l2,l3⟩:=hm.last h0'
     have ew:w64 ((acc.length:Int)-1)=((acc.length-1:Nat):Int):=w64_pred (n:=acc.length) h0' (Nat.le_refl _) (by omega)
     rw [if_pos h0]
     simp only [ew]
     rw [if_pos ⟨by omega,by omega⟩,if_pos ⟨by omega,by omega⟩,w64_id (by omega) (by omega)]
     unfold r1_Of.j1
     simp only [ew]
     by_cases h1:(rd acc ((acc.length-1:Nat):Int)).At+(rd acc ((acc.length-1:Nat):Int)).Len=(i:Int)
     ·rw [beq_t h1,if_pos rfl,if_pos ⟨by omega,by omega⟩,if_pos ⟨by omega,by omega⟩,w64_id (by omega) (by omega),Int.toNat_natCast]
      unfold r1_Of.j0
      rw [←push_t h0' h1]
      exact next
     ·rw [beq_f h1,if_neg (by decide),if_pos (by omega)]
      unfold r1_Of.j0
      rw [←push_f fun _=>h1]
      exact next
    ·rw [if_neg h0]
     unfold r1_Of.j1
     rw [if_neg (by decide),if_pos (by omega)]
     unfold r1_Of.j0
     rw [←push_f fun h=>by omega]
     exact next
   ·rw [if_neg hs,if_neg hs]
    unfold r1_Of.j0
    rw [w64_succ c (by omega)]
    exact Of_l0 n (i+1) _ (by omega) (by omega) (hm.up (by omega))
  ·obtain rfl:i=64:=by omega
   rw [if_neg (by omega)]
   rfl
theorem Of_eq {s:Nat→Bool} {k:Nat} (hk:64<k):r1_Of.f k s=some (segsOf s):=Of_l0 k 0 [] (by omega) (by omega) Made.nil
theorem Copy_l0 {l:List Seg} (hl:l.length<1125899906842624):∀(n i:Nat),i≤l.length→l.length-i<n→(l.length+1)*16≤140737488355328→r0_CopySegs.l0 l n (l.take i) i=some l
 |0,i,_,h,_=>by omega
 |n+1,i,hi,hn,hb=>by
  unfold r0_CopySegs.l0
  by_cases c:i<l.length
  ·have e:l.take i++[l[i]]=l.take (i+1):=(List.take_succ_eq_append_getElem c).symm
   rw [if_pos (by omega),if_pos ⟨by omega,by omega⟩,rd_nat c,if_pos (by rw [List.length_take];omega),e,w64_succ c (by omega)]
   exact Copy_l0 hl n (i+1) (by omega) (by omega) hb
  ·rw [if_neg (by omega),List.take_of_length_le (by omega)]
theorem Set_l1 {l:List Seg} {i:Nat} (c:i<l.length) (hs:0≤l[i].At∧1≤l[i].Len∧l[i].At+l[i].Len≤64) (re:Int→(Nat→Bool)→Option (Nat→Bool)):∀(n j:Nat) (s:Nat→Bool),l[i].At≤(j:Int)→(j:Int)≤l[i].At+l[i].Len→(l[i].At+l[i].Len-(j:Int)).toNat<n→
 ∃s',r1_Set.l1 l i re n j s=re (w64 ((i:Int)+1)) s'∧∀t:Nat,s' t=(s t||(decide ((j:Int)≤(t:Int))&&decide ((t:Int)<l[i].At+l[i].Len)))
 |0,j,s,_,_,h=>by omega
 |n+1,j,s,h1,h2,hn=>by
  unfold r1_Set.l1
  rw [if_pos ⟨by omega,by omega⟩,if_pos ⟨by omega,by omega⟩,rd_nat c,w64_id (by omega) (by omega)]
  by_cases hj:(j:Int)<l[i].At+l[i].Len
  ·rw [if_pos hj,if_pos ⟨by omega,by omega⟩,Int.toNat_natCast,w64_succ (show j<64 by omega) (by omega)]
   obtain ⟨s',e,hs'⟩:=Set_l1 c hs re n (j+1) (updF s j true) (by omega) (by omega) (by omega)
   refine ⟨s',e,fun t=>?_⟩
   rw [hs' t]
   unfold updF
   by_cases ht:t=j
   ·subst ht
    have:(t:Int)<l[i].At+l[i].Len:=hj
    simp [this]
   ·rw [if_neg ht]
    congr 1
    rw [Bool.eq_iff_iff]
    simp
    omega
  ·rw [if_neg hj]
   refine ⟨s,rfl,fun t=>?_⟩
   have:(decide ((j:Int)≤(t:Int))&&decide ((t:Int)<l[i].At+l[i].Len))=false:=by
    rw [Bool.eq_false_iff]
    simp
    omega
   rw [this,Bool.or_false]
theorem Set_l0 {l:List Seg} {k:Nat} (hk:1000<k) (hl:l.length≤500) (hel:∀s∈l,0≤s.At∧1≤s.Len∧s.At+s.Len≤64):∀(n i:Nat) (s:Nat→Bool),i≤l.length→l.length-i<n→∃s',r1_Set.l0 l k n i s=some s'∧∀t,s' t=(s t||mem (l.drop i) t)
 |0,i,s,_,h=>by omega
 |n+1,i,s,hi,hn=>by
  unfold r1_Set.l0
  by_cases c:i<l.length
  ·have h0:=hel l[i] (List.getElem_mem c)
   rw [if_pos (by omega),if_pos ⟨by omega,by omega⟩,rd_nat c]
   obtain ⟨a,ha⟩:=Int.eq_ofNat_of_zero_le h0.1
   obtain ⟨s1,e1,hs1⟩:=Set_l1 c h0 (r1_Set.l0 l k n) k a s (by omega) (by omega) (by omega)
   rw [ha,e1,w64_succ c (by omega)]
   obtain ⟨s2,e2,hs2⟩:=Set_l0 hk hl hel n (i+1) s1 (by omega) (by omega)
   refine ⟨s2,e2,fun t=>?_⟩
   rw [hs2,hs1,List.drop_eq_getElem_cons c]
   simp only [mem,Bool.or_assoc,ha]
  ·rw [if_neg (by omega),List.drop_eq_nil_of_le (by omega)]
   exact ⟨s,rfl,fun t=>by simp [mem]⟩
theorem Set_eq {l:List Seg} {k:Nat} (hk:1000<k) (hl:l.length≤500) (h:ok l=true):r1_Set.f k l=some (mem l):=by
 obtain ⟨s,e,hs⟩:=Set_l0 hk hl (ok_elem (Int.le_refl 0) h) k 0 (fun _=>false) (by omega) (by omega)
 unfold r1_Set.f
 have:s=mem l:=by funext t;rw [hs];simp
 rw [←this]
 exact e
def pick2 (kind:Int) (a b:Bool):Bool:=if kind=0 then a||b else if kind=1 then a&&!b else a&&b
theorem Two_l0 {kind:Int} {k:Nat} (hk:64<k) {a b:Nat→Bool}:∀(n i:Nat) (s:Nat→Bool),i≤64→64-i<n→(∀j,j<i→s j=pick2 kind (a j) (b j))→r1_Two.l0 kind k a b n i s=some (segsOf fun j=>pick2 kind (a j) (b j))
 |0,i,s,_,h,_=>by omega
 |n+1,i,s,hi,hn,hs=>by
  unfold r1_Two.l0
  by_cases c:i<64
  ·have g:(0:Int)≤(i:Int)∧(i:Int)<64:=⟨by omega,by omega⟩
   have next:∀v,v=pick2 kind (a i) (b i)→r1_Two.j0 (i:Int) (r1_Two.l0 kind k a b n) (updF s i v)=some (segsOf fun j=>pick2 kind (a j) (b j)):=fun v hv=>by
    unfold r1_Two.j0
    rw [w64_succ c (by omega)]
    refine Two_l0 hk n (i+1) _ (by omega) (by omega) fun j hj=>?_
    unfold updF
    by_cases e:j=i
    ·subst e;rw [if_pos rfl,hv]
    ·rw [if_neg e];exact hs j (by omega)
   rw [if_pos (by omega)]
   simp only [if_pos g,Int.toNat_natCast]
   by_cases k0:kind=0
   ·rw [if_pos k0]
    cases ha:a i with
    |true=>rw [if_pos rfl];exact next _ (by simp [pick2,k0,ha])
    |false=>rw [if_neg (by decide)];exact next _ (by simp [pick2,k0,ha])
   ·rw [if_neg k0]
    by_cases k1:kind=1
    ·rw [if_pos k1]
     cases ha:a i with
     |true=>rw [if_pos rfl];exact next _ (by simp [pick2,k1,ha])
     |false=>rw [if_neg (by decide)];exact next _ (by simp [pick2,k1,ha])
    ·rw [if_neg k1]
     cases ha:a i with
     |true=>rw [if_pos rfl];exact next _ (by simp [pick2,k0,k1,ha])
     |false=>rw [if_neg (by decide)];exact next _ (by simp [pick2,k0,k1,ha])
  ·obtain rfl:i=64:=by omega
   rw [if_neg (by omega),Of_eq hk]
   simp only [Option.bind_some]
   rw [segsOf_congr hs]
theorem Two_eq {l m:List Seg} {k:Nat} {kind:Int} (hk:1000<k) (hl:l.length≤500) (hm:m.length≤500) (h1:ok l=true) (h2:ok m=true):r1_Two.f k l m kind=some (segsOf fun j=>pick2 kind (mem l j) (mem m j)):=by
 unfold r1_Two.f
 rw [Set_eq hk hl h1,Set_eq hk hm h2]
 exact Two_l0 (by omega) k 0 _ (by omega) (by omega) fun j hj=>by omega
theorem refList_l0 {s:Nat→Bool}:∀(n i:Nat) (acc:List Int),i≤64→64-i<n→acc.length≤i→r1_List.l0 s n acc i=some (acc++(secFrom i s).map fun (i:Nat)=>(i:Int))
 |0,i,acc,_,h,_=>by omega
 |n+1,i,acc,hi,hn,ha=>by
  unfold r1_List.l0
  by_cases c:i<64
  ·rw [if_pos (by omega),if_pos ⟨by omega,by omega⟩,Int.toNat_natCast,secFrom_cons c]
   by_cases hs:s i=true
   ·rw [if_pos hs,if_pos (by omega),if_pos hs]
    unfold r1_List.j0
    rw [w64_succ c (by omega),refList_l0 n (i+1) _ (by omega) (by omega) (by rw [List.length_append];simp;omega)]
    simp
   ·rw [if_neg hs,if_neg hs]
    unfold r1_List.j0
    rw [w64_succ c (by omega)]
    exact refList_l0 n (i+1) _ (by omega) (by omega) (by omega)
  ·obtain rfl:i=64:=by omega
   rw [if_neg (by omega),secFrom_end]
   simp
theorem refList_eq {l:List Seg} {k:Nat} (hk:1000<k) (hl:l.length≤500) (h:ok l=true):r1_List.f k l=some ((secFrom 0 (mem l)).map fun (i:Nat)=>(i:Int)):=by
 unfold r1_List.f
 rw [Set_eq hk hl h]
 exact refList_l0 k 0 [] (by omega) (by omega) (by simp)
theorem refCount_eq {l:List Seg} {k:Nat} (hk:1000<k) (hl:l.length≤500) (h:ok l=true):r1_Count.f k l=some (((secFrom 0 (mem l)).length:Nat):Int):=by
 unfold r1_Count.f
 rw [refList_eq hk hl h]
 simp
theorem Num_eq {a b:Int}:r0_Num.f a b=some (decide (0≤a)&&decide (a≤b)):=by
 unfold r0_Num.f
 by_cases h:0≤a
 ·rw [if_pos h,decide_eq_true h];rfl
 ·rw [if_neg h,decide_eq_false h];rfl
theorem refHas_eq {l:List Seg} {k:Nat} {n:Int} (hk:1000<k) (hl:l.length≤500) (h:ok l=true):r1_Has.f k l n=some (inNum n&&mem l n.toNat):=by
 unfold r1_Has.f inNum
 rw [Set_eq hk hl h,Num_eq]
 simp only [Option.bind_some]
 by_cases h0:0≤n
 ·by_cases h1:n<64
  ·rw [decide_eq_true h0,decide_eq_true (show n≤63 by omega),decide_eq_true h1,Bool.true_and,if_pos rfl,if_pos ⟨h0,h1⟩];rfl
  ·rw [decide_eq_true h0,decide_eq_false (show ¬n≤63 by omega),decide_eq_false h1];rfl
 ·rw [decide_eq_false h0];rfl
def ends:List Seg→Int
 |[]=>0
 |[s]=>s.At+s.Len
 |_::t::r=>ends (t::r)
theorem ends_snoc {l:List Seg} {s:Seg}:ends (l++[s])=s.At+s.Len:=by
 induction l with
 |nil=>rfl
 |cons a r ih=>
  cases r with
  |nil=>rfl
  |cons b q=>exact ih
theorem Ends_eq {l:List Seg} (hl:l.length≤500) (h:ok l=true):r1_Ends.f l=some (ends l):=by
 unfold r1_Ends.f
 rcases snoc_cases l with rfl|⟨m,s,rfl⟩
 ·rfl
 ·have hs:=ok_elem (Int.le_refl 0) h s (by simp)
  have e0:(m++[s]).length=m.length+1:=by simp
  have ew:w64 (((m++[s]).length:Int)-1)=((m.length:Nat):Int):=by rw [e0,w64_id (by omega) (by omega)];omega
  have er:rd (m++[s]) ((m.length:Nat):Int)=s:=by rw [rd_nat (by simp)];simp
  rw [if_neg (by omega),ew,if_pos ⟨by omega,by omega⟩,if_pos ⟨by omega,by omega⟩,er,w64_id (by omega) (by omega),ends_snoc]
theorem mem_ends {lo:Int}:∀{l:List Seg},okFrom lo l=true→∀{i:Nat},mem l i=true→(i:Int)<ends l
 |[],_,i,h=>by simp [mem] at h
 |[s],_,i,h=>by
  simp [mem] at h
  show (i:Int)<s.At+s.Len
  omega
 |s::t::r,hok,i,h=>by
  rw [okFrom_cons] at hok
  have ih:=fun i=>mem_ends (i:=i) hok.2.2.2
  have ht:=hok.2.2.2
  rw [okFrom_cons] at ht
  show (i:Int)<ends (t::r)
  rw [mem,Bool.or_eq_true] at h
  rcases h with h|h
  ·simp at h
   have:=ih (t.At.toNat) (by simp [mem];omega)
   omega
  ·exact ih i h
theorem ends_mem {lo:Int} (h0:0≤lo):∀{l:List Seg},okFrom lo l=true→l≠[]→1≤ends l∧ends l≤64∧mem l (ends l-1).toNat=true
 |[],_,h=>absurd rfl h
 |[s],hok,_=>by
  rw [okFrom_cons] at hok
  show 1≤s.At+s.Len∧s.At+s.Len≤64∧mem [s] (s.At+s.Len-1).toNat=true
  refine ⟨by omega,by omega,?_⟩
  simp [mem]
  omega
 |s::t::r,hok,_=>by
  rw [okFrom_cons] at hok
  obtain ⟨h1,h2,h3⟩:=ends_mem (by omega) hok.2.2.2 (by simp)
  refine ⟨h1,h2,?_⟩
  show mem (s::t::r) (ends (t::r)-1).toNat=true
  rw [mem,h3,Bool.or_true]
theorem ends_below {l:List Seg} {n:Int} (h:ok l=true) (h0:0≤n):decide (ends l≤n)=below l n:=by
 rw [Bool.eq_iff_iff,decide_eq_true_iff,below_iff]
 constructor
 ·intro h1 i _ hm
  have:=mem_ends h hm
  omega
 ·intro h1
  by_cases e:l=[]
  ·subst e;exact h0
  ·obtain ⟨a,b,c⟩:=ends_mem (Int.le_refl 0) h e
   have:=h1 _ (by omega) c
   omega
end Go.Proofs.YtnaajldlloglkaaGreatDoor.W.S
namespace Go.Proofs.YtnaajldlloglkaaGreatDoor.W.T
open Go.H
def EntOk (dev size:Int) (x:Entry):Prop:=0≤x.From∧1≤x.Len∧x.From+x.Len≤size∧1≤x.Dev∧x.Dev≤40∧¬x.Dev=dev∧0≤x.To∧x.To+x.Len≤64∧0≤x.Stale∧x.Stale≤x.Len
instance (dev size:Int) (x:Entry):Decidable (EntOk dev size x):=by unfold EntOk;exact inferInstance
theorem entry_eq {t:Table} {x:Entry} (h1:1≤t.Size) (h2:t.Size≤64):table_entry.f t x=some (decide (EntOk t.Dev t.Size x)):=by
 have no:¬EntOk t.Dev t.Size x→some false=some (decide (EntOk t.Dev t.Size x)):=fun h=>by rw [decide_eq_false h]
 unfold table_entry.f table_id.f
 by_cases a1:0≤x.From
 case neg=>rw [if_neg a1];exact no (by unfold EntOk;omega)
 rw [if_pos a1]
 by_cases a2:x.From<t.Size
 case neg=>rw [if_neg a2];exact no (by unfold EntOk;omega)
 rw [if_pos a2]
 by_cases a3:1≤x.Len
 case neg=>rw [if_neg a3];exact no (by unfold EntOk;omega)
 rw [if_pos a3,w64_id (by omega) (by omega)]
 by_cases a4:x.Len≤t.Size-x.From
 case neg=>rw [if_neg a4];exact no (by unfold EntOk;omega)
 rw [if_pos a4]
 by_cases a5:1≤x.Dev
 case neg=>rw [if_neg a5];exact no (by unfold EntOk;omega)
 rw [if_pos a5]
 simp only [Option.bind_some]
 by_cases a6:x.Dev≤40
 case neg=>rw [decide_eq_false a6,if_neg (by decide)];exact no (by unfold EntOk;omega)
 rw [decide_eq_true a6,if_pos rfl]
 by_cases a7:x.Dev=t.Dev
 ·rw [if_pos a7];exact no (by unfold EntOk;omega)
 rw [if_neg a7]
 by_cases a8:0≤x.To
 case neg=>rw [if_neg a8];exact no (by unfold EntOk;omega)
 rw [if_pos a8]
 by_cases a9:x.To<64
 case neg=>rw [if_neg a9];exact no (by unfold EntOk;omega)
 rw [if_pos a9,w64_id (by omega) (by omega)]
 by_cases b1:x.Len≤64-x.To
 case neg=>rw [if_neg b1];exact no (by unfold EntOk;omega)
 rw [if_pos b1]
 by_cases b2:0≤x.Stale
 case neg=>rw [if_neg b2];exact no (by unfold EntOk;omega)
 rw [if_pos b2]
 congr 1
 rw [decide_eq_decide]
 unfold EntOk
 omega
def tabFrom (dev size:Int):Int→List Entry→Bool
 |_,[]=>true
 |lo,x::r=>decide (lo≤x.From)&&(decide (EntOk dev size x)&&tabFrom dev size (x.From+x.Len) r)
theorem tabFrom_cons {dev size lo:Int} {x:Entry} {r:List Entry}:tabFrom dev size lo (x::r)=true↔lo≤x.From∧EntOk dev size x∧tabFrom dev size (x.From+x.Len) r=true:=by simp [tabFrom]
theorem tabFrom_f {dev size lo:Int} {x:Entry} {r:List Entry} (h:¬(lo≤x.From∧EntOk dev size x)):tabFrom dev size lo (x::r)=false:=by
 cases e:tabFrom dev size lo (x::r) with
 |false=>rfl
 |true=>rw [tabFrom_cons] at e;exact absurd ⟨e.1,e.2.1⟩ h
theorem tabFrom_t {dev size lo:Int} {x:Entry} {r:List Entry} (h1:lo≤x.From) (h2:EntOk dev size x):tabFrom dev size lo (x::r)=tabFrom dev size (x.From+x.Len) r:=by simp [tabFrom,h1,h2]
def headOk (t:Table):Bool:=decide (1≤t.Dev)&&(decide (t.Dev≤40)&&(decide (1≤t.Size)&&decide (t.Size≤64)))
def tabOk' (t:Table):Bool:=headOk t&&tabFrom t.Dev t.Size 0 t.List_
theorem tabOk_iff {t:Table}:tabOk' t=true↔(1≤t.Dev∧t.Dev≤40∧1≤t.Size∧t.Size≤64)∧tabFrom t.Dev t.Size 0 t.List_=true:=by simp [tabOk',headOk]
def LoAt (l:List Entry) (i:Nat) (lo:Int):Prop:=0≤lo∧lo≤64∧(i=0→lo=0)∧(0<i→(rd l ((i-1:Nat):Int)).From+(rd l ((i-1:Nat):Int)).Len=lo)
theorem May_l0 {t:Table} (h1:1≤t.Size) (h2:t.Size≤64) (hl:t.List_.length<4611686018427387904):∀(n i:Nat) (lo:Int),i≤t.List_.length→t.List_.length-i<n→LoAt t.List_ i lo→table_May.l0 t n i=some (tabFrom t.Dev t.Size lo (t.List_.drop i))
 |0,i,lo,_,h,_=>by omega
 |n+1,i,lo,hi,hn,hlo=>by
  unfold table_May.l0
  by_cases c:i<t.List_.length
  ·rw [if_pos (by omega),if_pos ⟨by omega,by omega⟩,rd_nat c,entry_eq h1 h2,List.drop_eq_getElem_cons c]
   simp only [Option.bind_some]
   have er:=rd_nat c
   generalize hs:t.List_[i]=x at*
   obtain ⟨l0,l1,l2,l3⟩:=hlo
   by_cases a1:EntOk t.Dev t.Size x
   case neg=>rw [decide_eq_false a1,if_neg (by decide),tabFrom_f (fun h=>a1 h.2)];rfl
   rw [decide_eq_true a1,if_pos rfl]
   have next:lo≤x.From→table_May.l0 t n (w64 ((i:Int)+1))=some (tabFrom t.Dev t.Size lo (x::t.List_.drop (i+1))):=fun hle=>by
    rw [w64_succ c hl,tabFrom_t hle a1]
    refine May_l0 h1 h2 hl n (i+1) _ (by omega) (by omega) ⟨by unfold EntOk at a1;omega,by unfold EntOk at a1;omega,fun h=>by omega,fun _=>?_⟩
    rw [Nat.add_sub_cancel,er]
   by_cases a2:(0:Int)<(i:Int)
   ·rw [if_pos a2,w64_pred (by omega) hi hl,if_pos ⟨by omega,by omega⟩]
    unfold table_end.f
    simp only [Option.bind_some]
    rw [l3 (by omega),w64_id (by omega) (by omega)]
    unfold table_May.j1
    by_cases a3:x.From<lo
    ·rw [decide_eq_true a3,if_pos rfl,tabFrom_f (fun h=>by omega)]
    ·rw [decide_eq_false a3,if_neg (by decide)]
     exact next (by omega)
   ·rw [if_neg a2]
    unfold table_May.j1
    rw [if_neg (by decide)]
    exact next (by have:=l2 (by omega);unfold EntOk at a1;omega)
  ·rw [if_neg (by omega),List.drop_eq_nil_of_le (by omega)]
   rfl
theorem May_eq {t:Table} {k:Nat} (hl:t.List_.length<4611686018427387904) (hk:t.List_.length<k):table_May.f k t=some (tabOk' t):=by
 unfold table_May.f table_id.f tabOk' headOk
 by_cases a1:1≤t.Dev
 case neg=>rw [if_neg a1,decide_eq_false a1];rfl
 rw [if_pos a1,decide_eq_true a1]
 simp only [Option.bind_some]
 by_cases a2:t.Dev≤40
 case neg=>rw [decide_eq_false a2];rfl
 rw [decide_eq_true a2,if_pos rfl]
 by_cases a3:t.Size<1
 ·rw [if_pos a3,decide_eq_false (show ¬1≤t.Size by omega)];rfl
 rw [if_neg a3,decide_eq_true (show 1≤t.Size by omega)]
 unfold table_May.j0
 by_cases a4:64<t.Size
 ·rw [decide_eq_true a4,if_pos rfl,decide_eq_false (show ¬t.Size≤64 by omega)];rfl
 rw [decide_eq_false a4,if_neg (by decide),decide_eq_true (show t.Size≤64 by omega)]
 have:=May_l0 (t:=t) (by omega) (by omega) hl k 0 0 (by omega) (by omega) ⟨by omega,by omega,fun _=>rfl,fun h=>by omega⟩
 rw [List.drop_zero] at this
 simpa using this
theorem some_no {p:Prop} [Decidable p] (h:¬p):some false=some (decide p):=by rw [decide_eq_false h]
theorem Place_eq {dev len:Int} {p:Ptr}:r7_Place.f dev p len=some (decide (1≤p.Dev∧p.Dev≤40∧¬p.Dev=dev∧0≤p.At∧1≤len∧len≤64∧p.At+len≤64)):=by
 unfold r7_Place.f r0_Between.f
 by_cases a1:1≤p.Dev
 case neg=>rw [if_neg a1];exact some_no (fun h=>a1 h.1)
 rw [if_pos a1]
 simp only [Option.bind_some]
 by_cases a2:p.Dev≤40
 case neg=>rw [decide_eq_false a2,if_neg (by decide)];exact some_no (fun h=>a2 h.2.1)
 rw [decide_eq_true a2,if_pos rfl]
 by_cases a3:p.Dev=dev
 ·rw [if_pos a3];exact some_no (fun h=>h.2.2.1 a3)
 rw [if_neg a3]
 by_cases a4:0≤p.At
 case neg=>rw [if_neg a4];exact some_no (fun h=>a4 h.2.2.2.1)
 rw [if_pos a4]
 by_cases a5:1≤len
 case neg=>rw [if_neg a5];exact some_no (fun h=>a5 h.2.2.2.2.1)
 rw [if_pos a5]
 by_cases a6:len≤64
 case neg=>rw [if_neg a6];exact some_no (fun h=>a6 h.2.2.2.2.2.1)
 rw [if_pos a6,w64_id (by omega) (by omega)]
 congr 1
 rw [decide_eq_decide]
 omega
theorem Num_eq {a b:Int}:r0_Num.f a b=some (decide (0≤a∧a≤b)):=by
 unfold r0_Num.f
 by_cases h:0≤a
 ·rw [if_pos h];congr 1;rw [decide_eq_decide];omega
 ·rw [if_neg h];exact some_no (fun hh=>h hh.1)
theorem Between_eq {n a b:Int}:r0_Between.f n a b=some (decide (a≤n∧n≤b)):=by
 unfold r0_Between.f
 by_cases h:a≤n
 ·rw [if_pos h];congr 1;rw [decide_eq_decide];omega
 ·rw [if_neg h];exact some_no (fun hh=>h hh.1)
theorem refTable_l0 {t:Table} (h1:1≤t.Size) (h2:t.Size≤64) (hl:t.List_.length<4611686018427387904):∀(n i:Nat) (lo:Int),i≤t.List_.length→t.List_.length-i<n→0≤lo→r7_Table.l0 t n lo i=some (tabFrom t.Dev t.Size lo (t.List_.drop i))
 |0,i,lo,_,h,_=>by omega
 |n+1,i,lo,hi,hn,hlo=>by
  unfold r7_Table.l0
  by_cases c:i<t.List_.length
  ·rw [if_pos (by omega),if_pos ⟨by omega,by omega⟩,List.drop_eq_getElem_cons c]
   unfold r7_Table.j1
   rw [rd_nat c]
   generalize hs:t.List_[i]=x at*
   have no:¬(lo≤x.From∧EntOk t.Dev t.Size x)→some false=some (tabFrom t.Dev t.Size lo (x::t.List_.drop (i+1))):=fun h=>by rw [tabFrom_f h]
   simp only [if_true]
   by_cases a1:x.From<lo
   ·rw [if_pos a1];exact no (by omega)
   rw [if_neg a1]
   by_cases a2:x.Len<1
   ·rw [if_pos a2];exact no (by unfold EntOk;omega)
   rw [if_neg a2]
   by_cases a3:t.Size<x.Len
   ·rw [if_pos a3];exact no (by unfold EntOk;omega)
   rw [if_neg a3,w64_id (x:=t.Size-x.Len) (by omega) (by omega)]
   by_cases a4:t.Size-x.Len<x.From
   ·rw [if_pos a4];exact no (by unfold EntOk;omega)
   rw [if_neg a4,Place_eq,Num_eq]
   simp only [Option.bind_some]
   by_cases a5:1≤x.Dev∧x.Dev≤40∧¬x.Dev=t.Dev∧0≤x.To∧1≤x.Len∧x.Len≤64∧x.To+x.Len≤64
   case neg=>rw [decide_eq_false a5,if_neg (by decide)];exact no (by unfold EntOk;omega)
   rw [decide_eq_true a5,if_pos rfl]
   by_cases a6:0≤x.Stale∧x.Stale≤x.Len
   case neg=>rw [decide_eq_false a6];exact no (by unfold EntOk;omega)
   rw [decide_eq_true a6]
   simp only [Bool.not_true,Bool.false_eq_true,if_false]
   have a7:EntOk t.Dev t.Size x:=by unfold EntOk;omega
   rw [w64_succ c hl,tabFrom_t (by omega) a7,w64_id (by omega) (by omega)]
   exact refTable_l0 h1 h2 hl n (i+1) _ (by omega) (by omega) (by omega)
  ·rw [if_neg (by omega),List.drop_eq_nil_of_le (by omega)]
   rfl
theorem refTable_eq {t:Table} {k:Nat} (hl:t.List_.length<4611686018427387904) (hk:t.List_.length<k):r7_Table.f k t=some (tabOk' t):=by
 unfold r7_Table.f tabOk' headOk
 rw [Between_eq,Between_eq]
 simp only [Option.bind_some]
 by_cases a1:1≤t.Dev
 case neg=>rw [decide_eq_false (fun h=>a1 h.1),decide_eq_false a1];rfl
 by_cases a2:t.Dev≤40
 case neg=>rw [decide_eq_false (fun h=>a2 h.2),decide_eq_false a2];simp;rfl
 rw [decide_eq_true ⟨a1,a2⟩,decide_eq_true a1,decide_eq_true a2,if_pos rfl]
 by_cases a3:1≤t.Size
 case neg=>rw [decide_eq_false (fun h=>a3 h.1),decide_eq_false a3];rfl
 by_cases a4:t.Size≤64
 case neg=>rw [decide_eq_false (fun h=>a4 h.2),decide_eq_false a4];simp;rfl
 rw [decide_eq_true ⟨a3,a4⟩,decide_eq_true a3,decide_eq_true a4]
 unfold r7_Table.j0
 simp only [Bool.not_true,Bool.false_eq_true,if_false]
 have:=refTable_l0 (t:=t) (by omega) (by omega) hl k 0 0 (by omega) (by omega) (by omega)
 rw [List.drop_zero] at this
 simpa using this
theorem tab_elem {dev size lo:Int}:∀{l:List Entry},tabFrom dev size lo l=true→∀x∈l,EntOk dev size x
 |[],_,x,h=>by simp at h
 |a::r,hok,x,h=>by
  rw [tabFrom_cons] at hok
  rcases List.mem_cons.1 h with rfl|h
  ·exact hok.2.1
  ·exact tab_elem hok.2.2 x h
theorem CopyE_l0 {l:List Entry} (hl:l.length≤1000):∀(n i:Nat),i≤l.length→l.length-i<n→r0_CopyEntries.l0 l n (l.take i) i=some l
 |0,i,_,h=>by omega
 |n+1,i,hi,hn=>by
  unfold r0_CopyEntries.l0
  by_cases c:i<l.length
  ·have e:l.take i++[l[i]]=l.take (i+1):=(List.take_succ_eq_append_getElem c).symm
   rw [if_pos (by omega),if_pos ⟨by omega,by omega⟩,rd_nat c,if_pos (by rw [List.length_take];omega),e,w64_succ c (by omega)]
   exact CopyE_l0 hl n (i+1) (by omega) (by omega)
  ·rw [if_neg (by omega),List.take_of_length_le (by omega)]
theorem CopyT_eq {t:Table} {k:Nat} (hl:t.List_.length≤1000) (hk:1000<k):r0_CopyTable.f k t=some t:=by
 unfold r0_CopyTable.f r0_CopyEntries.f
 have:=CopyE_l0 hl k 0 (by omega) (by omega)
 rw [List.take_zero] at this
 rw [show (0:Int)=((0:Nat):Int) from rfl,this]
 rfl
theorem EqE_l0 {l m:List Entry} (hl:l.length<4611686018427387904) (e:l.length=m.length):∀(n i:Nat),i≤l.length→l.length-i<n→r0_EqEntries.l0 l m n i=some (decide (l.drop i=m.drop i))
 |0,i,_,h=>by omega
 |n+1,i,hi,hn=>by
  unfold r0_EqEntries.l0
  by_cases c:i<l.length
  ·have c2:i<m.length:=by omega
   rw [if_pos (by omega),if_pos ⟨by omega,by omega⟩,if_pos ⟨by omega,by omega⟩,rd_nat c,rd_nat c2,List.drop_eq_getElem_cons c,List.drop_eq_getElem_cons c2]
   by_cases h:l[i]=m[i]
   ·rw [if_pos h,w64_succ c hl,EqE_l0 hl e n (i+1) (by omega) (by omega)]
    congr 1
    rw [decide_eq_decide,List.cons.injEq]
    exact ⟨fun hh=>⟨h,hh⟩,fun hh=>hh.2⟩
   ·rw [if_neg h]
    congr 1
    symm
    rw [decide_eq_false_iff_not,List.cons.injEq]
    exact fun hh=>h hh.1
  ·rw [if_neg (by omega),List.drop_eq_nil_of_le (by omega),List.drop_eq_nil_of_le (by omega)]
   simp
theorem EqE_eq {l m:List Entry} {k:Nat} (hl:l.length≤1000) (hk:1000<k):r0_EqEntries.f k l m=some (decide (l=m)):=by
 unfold r0_EqEntries.f
 by_cases e:(l.length:Int)=(m.length:Int)
 ·rw [if_pos e]
  exact EqE_l0 (by omega) (by omega) k 0 (by omega) (by omega)
 ·rw [if_neg e]
  have:¬l=m:=fun h=>e (by rw [h])
  simp [this]
theorem EqT_eq {t u:Table} {k:Nat} (hl:t.List_.length≤1000) (hk:1000<k):r0_EqTable.f k t u=some (decide (t=u)):=by
 obtain ⟨a,b,l⟩:=t
 obtain ⟨c,d,m⟩:=u
 unfold r0_EqTable.f
 by_cases h1:a=c
 ·by_cases h2:b=d
  ·rw [if_pos h1,if_pos h2,EqE_eq hl hk]
   simp [h1,h2]
  ·rw [if_pos h1,if_neg h2];simp [h2]
 ·rw [if_neg h1];simp [h1]
def endOf:List Entry→Int
 |[]=>0
 |[x]=>x.From+x.Len
 |_::y::r=>endOf (y::r)
theorem endOf_snoc {l:List Entry} {x:Entry}:endOf (l++[x])=x.From+x.Len:=by
 induction l with
 |nil=>rfl
 |cons a r ih=>
  cases r with
  |nil=>rfl
  |cons b q=>exact ih
theorem rd_last {l:List Entry} {x:Entry}:rd (l++[x]) ((l.length:Nat):Int)=x:=by rw [rd_nat (by simp)];simp
theorem last_len {l:List Entry} {x:Entry} (hl:(l++[x]).length≤1000):w64 (((l++[x]).length:Int)-1)=((l.length:Nat):Int):=by
 rw [List.length_append] at hl ⊢
 simp only [List.length_cons,List.length_nil] at hl ⊢
 rw [w64_id (by omega) (by omega)];omega
theorem last_lt {l:List Entry} {x:Entry}:((l.length:Nat):Int)<((l++[x]).length:Int):=by rw [List.length_append];simp only [List.length_cons,List.length_nil];omega
theorem End_eq {t:Table} (hl:t.List_.length≤1000) (h:tabOk' t=true):r7_End.f t=some (endOf t.List_):=by
 obtain ⟨d,s,l⟩:=t
 unfold r7_End.f
 simp only at hl ⊢
 have ht:=(tabOk_iff.1 h)
 simp only at ht
 rcases snoc_cases l with rfl|⟨m,x,rfl⟩
 ·rfl
 ·have hx:=tab_elem ht.2 x (by simp)
  unfold EntOk at hx
  rw [last_len hl,if_neg (by simp;omega),if_pos ⟨by omega,last_lt⟩,rd_last,w64_id (by omega) (by omega),endOf_snoc]
theorem tab_end {dev size lo:Int}:∀{l:List Entry},tabFrom dev size lo l=true→∀x∈l,x.From+x.Len≤endOf l∧lo≤x.From
 |[],_,x,h=>by simp at h
 |[a],hok,x,h=>by
  simp only [List.mem_singleton] at h
  subst h
  rw [tabFrom_cons] at hok
  exact ⟨Int.le_refl _,hok.1⟩
 |a::b::r,hok,x,h=>by
  rw [tabFrom_cons] at hok
  have hb:=tab_end hok.2.2 b (by simp)
  have h1:=hok.2.1
  have h2:=tab_elem hok.2.2 b (by simp)
  unfold EntOk at h1 h2
  show x.From+x.Len≤endOf (b::r)∧lo≤x.From
  rcases List.mem_cons.1 h with rfl|h
  ·omega
  ·have:=tab_end hok.2.2 x h
   omega
end Go.Proofs.YtnaajldlloglkaaGreatDoor.W.T
namespace Go.Proofs.YtnaajldlloglkaaGreatDoor.W.T
open Go.H
def keep (x:Entry):Bool:=!(x.Stale==x.Len)
def tidyT (t:Table):Table:=⟨t.Dev,t.Size,t.List_.filter keep⟩
theorem keep_f {x:Entry} (h:(x.Stale==x.Len)=true):keep x=false:=by unfold keep;rw [h];rfl
theorem keep_t {x:Entry} (h:¬(x.Stale==x.Len)=true):keep x=true:=by unfold keep;rw [bool_f h];rfl
theorem Tidy_l1 {t:Table} (hl:t.List_.length≤1000):∀(n a j:Nat) (lt:List Entry),lt.length=t.List_.length→a≤j→j≤lt.length→lt.length-j<n→lt.take a=(t.List_.take j).filter keep→lt.drop j=t.List_.drop j→table_Tidy.l1 t n lt a j=some (tidyT t,0)
 |0,a,j,lt,_,_,_,h,_,_=>by omega
 |n+1,a,j,lt,hlen,haj,hj,hn,h1,h2=>by
  unfold table_Tidy.l1
  by_cases c:j<lt.length
  ·have c2:j<t.List_.length:=by omega
   have ex:lt[j]=t.List_[j]:=by
    rw [List.drop_eq_getElem_cons c,List.drop_eq_getElem_cons c2] at h2
    exact (List.cons.inj h2).1
   have et:lt.drop (j+1)=t.List_.drop (j+1):=by
    rw [List.drop_eq_getElem_cons c,List.drop_eq_getElem_cons c2] at h2
    exact (List.cons.inj h2).2
   rw [if_pos (by omega),if_pos ⟨by omega,by omega⟩,rd_nat c,ex]
   unfold table_Tidy_1.f table_Tidy.j2
   simp only [Option.bind_some]
   have ef:(t.List_.take (j+1)).filter keep=(t.List_.take j).filter keep++(if keep t.List_[j]=true then [t.List_[j]] else []):=by
    rw [List.take_succ_eq_append_getElem c2,List.filter_append]
    congr 1
    simp only [List.filter_cons,List.filter_nil]
   by_cases a1:(t.List_[j].Stale==t.List_[j].Len)=true
   ·rw [if_pos a1,w64_succ c (by omega)]
    refine Tidy_l1 hl n a (j+1) lt hlen (by omega) (by omega) (by omega) ?_ et
    rw [ef,keep_f a1,h1]
    simp
   ·rw [if_neg a1,if_pos ⟨by omega,by omega⟩,w64_succ c (by omega),w64_succ (n:=1001) (by omega) (by omega),Int.toNat_natCast]
    refine Tidy_l1 hl n (a+1) (j+1) _ (by rw [List.length_set];exact hlen) (by omega) (by rw [List.length_set];omega) (by rw [List.length_set];omega) ?_ ?_
    ·rw [ef,keep_t a1,if_pos rfl,←h1]
     have ha:a<(lt.set a t.List_[j]).length:=by rw [List.length_set];omega
     rw [List.take_succ_eq_append_getElem ha,List.getElem_set_self,List.take_set_of_le (Nat.le_refl a)]
    ·rw [List.drop_set_of_lt (by omega)]
     exact et
  ·obtain rfl:j=lt.length:=by omega
   rw [if_neg (by omega),if_pos ⟨by omega,by omega⟩,if_pos ⟨by omega,by rw [take_rep_len (by omega)];omega⟩]
   unfold table_Tidy.j0 tidyT
   have e1:(lt.take (a:Int).toNat++List.replicate (lt.length-(a:Int).toNat) (⟨0,0,0,0,0⟩:Entry)).take (a:Int).toNat=t.List_.filter keep:=by
    rw [Int.toNat_natCast,List.take_append_of_le_length (by rw [List.length_take];omega),List.take_take,Nat.min_self,h1,List.take_of_length_le (by omega)]
   rw [e1]
theorem Tidy_l0 {t:Table} {k:Nat} (hl:t.List_.length≤1000) (hk:1000<k):∀(n i:Nat),i≤t.List_.length→t.List_.length-i<n→(t.List_.take i).filter keep=t.List_.take i→table_Tidy.l0 k t n i=some (tidyT t,0)
 |0,i,_,h,_=>by omega
 |n+1,i,hi,hn,hp=>by
  unfold table_Tidy.l0
  by_cases c:i<t.List_.length
  ·rw [if_pos (by omega),if_pos ⟨by omega,by omega⟩,rd_nat c]
   unfold table_Tidy_1.f
   simp only [Option.bind_some]
   by_cases a1:(t.List_[i].Stale==t.List_[i].Len)=true
   ·rw [if_pos a1]
    unfold table_Tidy.j1
    rw [if_neg (by omega),w64_succ c (by omega)]
    refine Tidy_l1 hl k i (i+1) _ rfl (by omega) (by omega) (by omega) ?_ rfl
    rw [List.take_succ_eq_append_getElem c,List.filter_append,hp]
    simp [keep_f a1]
   ·rw [if_neg a1,w64_succ c (by omega)]
    refine Tidy_l0 hl hk n (i+1) (by omega) (by omega) ?_
    rw [List.take_succ_eq_append_getElem c,List.filter_append,hp]
    simp [keep_t a1]
  ·rw [if_neg (by omega)]
   unfold table_Tidy.j1 table_Tidy.j0 tidyT
   rw [List.take_of_length_le (by omega)] at hp
   rw [if_pos rfl,hp]
theorem refTidy_l0 {t:Table} (hl:t.List_.length≤1000) (ho:∀x∈t.List_,EntOk t.Dev t.Size x):∀(n i:Nat) (acc:List Entry),i≤t.List_.length→t.List_.length-i<n→acc=(t.List_.take i).filter keep→r7_Tidy.l0 t n i acc=some (tidyT t)
 |0,i,acc,_,h,_=>by omega
 |n+1,i,acc,hi,hn,hp=>by
  unfold r7_Tidy.l0
  by_cases c:i<t.List_.length
  ·have hx:=ho _ (List.getElem_mem c)
   unfold EntOk at hx
   have g:(0:Int)≤(i:Int)∧(i:Int)<(t.List_.length:Int):=⟨by omega,by omega⟩
   rw [if_pos (by omega)]
   simp only [if_pos g]
   rw [rd_nat c]
   unfold r7_Tidy.j0
   rw [w64_succ c (by omega)]
   have hal:acc.length≤i:=by rw [hp];refine Nat.le_trans (List.length_filter_le _ _) ?_;rw [List.length_take];omega
   by_cases a1:t.List_[i].Stale<t.List_[i].Len
   ·rw [if_pos a1,if_pos (by omega)]
    refine refTidy_l0 hl ho n (i+1) _ (by omega) (by omega) ?_
    rw [List.take_succ_eq_append_getElem c,List.filter_append,←hp]
    have:keep t.List_[i]=true:=keep_t (fun e=>by have:=beq_iff_eq.1 e;omega)
    simp [this]
   ·rw [if_neg a1]
    refine refTidy_l0 hl ho n (i+1) _ (by omega) (by omega) ?_
    rw [List.take_succ_eq_append_getElem c,List.filter_append,←hp]
    have:keep t.List_[i]=false:=keep_f (beq_iff_eq.2 (by omega))
    simp [this]
  ·rw [if_neg (by omega),hp,List.take_of_length_le (by omega)]
   rfl
theorem refTidy_eq {t:Table} {k:Nat} (hl:t.List_.length≤1000) (hk:1000<k) (h:tabOk' t=true):r7_Tidy.f k t=some (tidyT t):=
 refTidy_l0 hl (tab_elem (tabOk_iff.1 h).2) k 0 [] (by omega) (by omega) (by simp)
end Go.Proofs.YtnaajldlloglkaaGreatDoor.W.T
