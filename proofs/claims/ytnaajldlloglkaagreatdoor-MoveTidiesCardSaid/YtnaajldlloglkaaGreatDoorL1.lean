/- Walking by explicit rules, part A: the slots as a list, the operations that look at no memory. Plain theorems over any program. -/
import Derived.WalkKit
import Derived.OrdersHeld
import Derived.Deep.LoopGhost
import Derived.Maps.AppendAt
import Derived.WalkSpells
import Derived.Laws.StructEq
set_option linter.unusedVariables false
set_option linter.unusedSimpArgs false
namespace Go.H
open Go.RowKit
abbrev Env:=List (Nat×Value)
def Env.get:Env→Nat→Option Value
 |[],_=>none
 |(t,v)::r,i=>match Nat.beq t i with
  |true=>some v
  |false=>Env.get r i
structure Sat (N:Nat) (E:Env) (a:Act):Prop where
 defers:a.defers=[]
 size:a.tmps.size=N
 get:∀t v,Env.get E t=some v→a.tmps[t]?=some v
def Env.put (E:Env):Option Nat→Value→Env
 |some d,v=>(d,v)::E
 |none,_=>E
theorem Env.get_cons (t:Nat) (v:Value) (r:Env) (i:Nat):Env.get ((t,v)::r) i=if t=i then some v else Env.get r i:=by
 show (match Nat.beq t i with|true=>some v|false=>Env.get r i)=_
 by_cases h:t=i
 ·subst h;rw [if_pos rfl,show Nat.beq t t=true from Nat.beq_refl t]
 ·rw [if_neg h,show Nat.beq t i=false from by cases h2:Nat.beq t i with|false=>rfl|true=>exact absurd (Nat.eq_of_beq_eq_true h2) h]
def fits (N:Nat):Option Nat→Bool
 |some d=>Nat.blt d N
 |none=>true
theorem Sat.put {N:Nat} {E:Env} {a:Act} (h:Sat N E a) {d:Option Nat} (hd:fits N d=true) (v:Value):Sat N (E.put d v) (a.put d v):=by
 cases d with
 |none=>exact h
 |some d=>
  have hdN:d<N:=by simpa [fits,Nat.blt_eq] using hd
  refine ⟨h.defers,by simp [Act.put,h.size],fun t u hu=>?_⟩
  simp only [Env.put] at hu
  rw [Env.get_cons] at hu
  by_cases e:d=t
  ·subst e
   rw [if_pos rfl] at hu
   simp only [Option.some.injEq] at hu
   subst hu
   simp [Act.put,h.size,hdN]
  ·rw [if_neg e] at hu
   simp only [Act.put]
   rw [Array.getElem?_setIfInBounds_ne e]
   exact h.get t u hu
def Sub:Env→Env→Prop
 |[],_=>True
 |(t,v)::r,E=>Env.get E t=some v∧Sub r E
theorem Sub.get {E' E:Env} (h:Sub E' E):∀t v,Env.get E' t=some v→Env.get E t=some v:=by
 induction E' with
 |nil=>intro t v hv;simp [Env.get] at hv
 |cons p r ih=>
  obtain ⟨t0,v0⟩:=p
  intro t v hv
  rw [Env.get_cons] at hv
  by_cases e:t0=t
  ·subst e
   rw [if_pos rfl] at hv
   simp only [Option.some.injEq] at hv
   subst hv
   exact h.1
  ·rw [if_neg e] at hv
   exact ih h.2 t v hv
theorem Sat.sub {N:Nat} {E E':Env} {a:Act} (h:Sat N E a) (hs:Sub E' E):Sat N E' a:=⟨h.defers,h.size,fun t v hv=>h.get t v (hs.get t v hv)⟩
def ev (E:Env):Operand→Option Value
 |.tmp t=>E.get t
 |.const v=>some v
 |.global g=>some (.pointer (some ⟨g,0,none⟩))
 |.func f=>some (.func (.func f) #[] #[])
theorem ev_eval {N:Nat} {E:Env} {a:Act} (h:Sat N E a) {x:Operand} {v:Value} (e:ev E x=some v):a.eval x=v:=by
 cases x with
 |tmp t=>simp only [ev] at e;simp [Act.eval,h.get t v e]
 |const u=>simpa [ev,Act.eval] using e
 |global g=>simpa [ev,Act.eval] using e
 |func f=>simpa [ev,Act.eval] using e
def Knows (E:Env) (ρ:Operand→Value):Prop:=∀x v,ev E x=some v→ρ x=v
theorem Sat.knows {N:Nat} {E:Env} {a:Act} (h:Sat N E a):Knows E a.eval:=fun _ _ e=>ev_eval h e
def evs (E:Env):List Operand→Option (List Value)
 |[]=>some []
 |x::r=>match ev E x,evs E r with
  |some v,some vs=>some (v::vs)
  |_,_=>none
theorem Knows.map {E:Env} {ρ:Operand→Value} (h:Knows E ρ):∀{l:List Operand} {vs:List Value},evs E l=some vs→l.map ρ=vs
 |[],vs,e=>by simp [evs] at e;simp [e]
 |x::r,vs,e=>by
  unfold evs at e
  cases h1:ev E x with
  |none=>rw [h1] at e;cases e
  |some v=>
   cases h2:evs E r with
   |none=>rw [h1,h2] at e;cases e
   |some us=>
    rw [h1,h2] at e
    simp only [Option.some.injEq] at e
    subst e
    rw [List.map_cons,h x v h1,h.map h2]
inductive TI where
 |int (k:IntKind)
 |bool
 |word
 |slice (e:TypeId)
 |struct (fs:List (Nat×Nat))
 |arr (n:Nat) (e:TypeId)
structure Ti where
 ti:TI
 size:Nat
 bytes:Nat
 zero:List Value
def ofCells:TI→List Value→Value
 |.struct _,cs=>.agg cs.toArray
 |.arr _ _,cs=>.agg cs.toArray
 |_,cs=>match cs with
  |[v]=>v
  |_=>.tuple #[]
def TI.agg:TI→Bool
 |.struct _=>true
 |.arr _ _=>true
 |_=>false
def descOk (P:Program):TI→TypeDesc→Prop
 |.int k,d=>d=.int k
 |.bool,d=>d=.bool
 |.slice e,d=>d=.slice e
 |.arr n e,d=>d=.array n e
 |.word,d=>(match d with|.struct _=>False|.array _ _=>False|_=>True)
 |.struct fs,d=>∃fields:Array Field,d=.struct fields∧fields.toList.map (fun f=>(f.offset,((P.info? f.type).map (·.size)).getD 0))=fs∧fs.all (fun p=>!(p.2==0))=true
structure TiOk (P:Program) (T:TypeId) (t:Ti):Prop where
 info:∃i,P.info? T=some i∧i.size=t.size∧i.bytes=t.bytes∧i.zero=some (ofCells t.ti t.zero)
 desc:∃d,P.underlying T=some d∧descOk P t.ti d
 len:t.zero.length=t.size
 scal:t.ti.agg=false→t.size=1
 pos:0<t.size
 one:t.zero.all Value.oneCell'=true
theorem TiOk.mk' {P:Program} {T:TypeId} (ti:TI) (size bytes:Nat) (zero:List Value) {d:TypeDesc} (h1:(P.info? T).map (fun i=>(i.zero,i.size,i.bytes))=some (some (ofCells ti zero),size,bytes)) (h2:P.underlying T=some d) (h3:descOk P ti d)
 (h4:zero.length=size) (h5:ti.agg=false→size=1) (h6:0<size) (h7:zero.all Value.oneCell'=true):TiOk P T ⟨ti,size,bytes,zero⟩:=by
 obtain ⟨i,hi,he⟩:=Option.map_eq_some_iff.1 h1
 simp only [Prod.mk.injEq] at he
 exact ⟨⟨i,hi,he.2.1,he.2.2,he.1⟩,⟨d,h2,h3⟩,h4,h5,h6,h7⟩
abbrev Tab:=List (Nat×Ti)
def Tab.get:Tab→Nat→Option Ti
 |[],_=>none
 |(t,v)::r,i=>match Nat.beq t i with
  |true=>some v
  |false=>Tab.get r i
def TabOk (P:Program):Tab→Prop
 |[]=>True
 |(t,v)::r=>TiOk P t v∧TabOk P r
theorem TabOk.get {P:Program} {tab:Tab} (h:TabOk P tab):∀{T:Nat} {t:Ti},tab.get T=some t→TiOk P T t:=by
 induction tab with
 |nil=>intro T t e;simp [Tab.get] at e
 |cons p r ih=>
  obtain ⟨t0,v0⟩:=p
  intro T t e
  unfold Tab.get at e
  cases hb:Nat.beq t0 T with
  |true=>
   rw [hb] at e
   simp only [Option.some.injEq] at e
   subst e
   have:=Nat.eq_of_beq_eq_true hb
   subst this
   exact h.1
  |false=>rw [hb] at e;exact ih h.2 e
def isAggD:TypeDesc→Bool
 |.struct _=>true
 |.array _ _=>true
 |_=>false
section
variable {P:Program} {T:TypeId} {t:Ti}
theorem TiOk.run_sizeOf (h:TiOk P T t) (w:World):(sizeOf T).run P w=.ok t.size w:=by
 obtain ⟨i,hi,hs,_⟩:=h.info
 simp [sizeOf,typeInfo,hi,hs]
theorem TiOk.run_info (h:TiOk P T t) (w:World):∃i,(typeInfo T).run P w=.ok i w∧i.size=t.size∧i.bytes=t.bytes∧i.zero=some (ofCells t.ti t.zero):=by
 obtain ⟨i,hi,hs⟩:=h.info
 exact ⟨i,by simp [typeInfo,hi],hs⟩
theorem TiOk.run_zero (h:TiOk P T t) (w:World):(zeroValue T).run P w=.ok (ofCells t.ti t.zero) w:=by
 obtain ⟨i,hi,hs,hb,hz⟩:=h.info
 simp [zeroValue,typeInfo,hi,hz]
theorem TiOk.run_underlying (h:TiOk P T t) (w:World):∃d,(underlying T).run P w=.ok d w∧descOk P t.ti d:=by
 obtain ⟨d,hd,ho⟩:=h.desc
 exact ⟨d,by simp [underlying,hd],ho⟩
theorem TiOk.run_isAgg (h:TiOk P T t) (w:World):(isAgg T).run P w=.ok t.ti.agg w:=by
 obtain ⟨d,hd,ho⟩:=h.run_underlying w
 have h1:(isAgg T).run P w=.ok (isAggD d) w:=by
  unfold isAgg
  rw [Sem.run_bind,hd]
  simp only [Result.andThen_ok]
  cases d <;>rfl
 rw [h1]
 cases hti:t.ti with
 |int k=>rw [hti] at ho;cases ho;rfl
 |bool=>rw [hti] at ho;cases ho;rfl
 |slice e=>rw [hti] at ho;cases ho;rfl
 |arr n e=>rw [hti] at ho;cases ho;rfl
 |struct fs=>rw [hti] at ho;obtain ⟨f,rfl,_⟩:=ho;rfl
 |word=>
  rw [hti] at ho
  cases d <;>first|rfl|exact ho.elim
end
def intB (op:BinOp) (k:IntKind) (a b:Int):Option Value:=
 match op with
 |.add=>some (.int k (k.wrap (a+b)))
 |.sub=>some (.int k (k.wrap (a-b)))
 |.mul=>some (.int k (k.wrap (a*b)))
 |.and=>some (.int k (k.wrap (BitVec.ofInt k.bits a&&&BitVec.ofInt k.bits b).toNat))
 |.or=>some (.int k (k.wrap (BitVec.ofInt k.bits a|||BitVec.ofInt k.bits b).toNat))
 |.andNot=>some (.int k (k.wrap (BitVec.ofInt k.bits a&&&~~~BitVec.ofInt k.bits b).toNat))
 |.eql=>some (.bool (a==b))
 |.neq=>some (.bool (a !=b))
 |.lss=>some (.bool (decide (a<b)))
 |.leq=>some (.bool (decide (a≤b)))
 |.gtr=>some (.bool (decide (b<a)))
 |.geq=>some (.bool (decide (b≤a)))
 |_=>none
def binB (tab:Tab) (op:BinOp) (T:TypeId):Value→Value→Option Value
 |.int k a,.int k' b=>match decide (k=k') with
  |true=>intB op k a b
  |false=>none
 |.bool a,.bool b=>match (tab.get T).map (·.ti),op with
  |some TI.bool,.eql=>some (.bool (a==b))
  |some TI.bool,.neq=>some (.bool (!(a==b)))
  |_,_=>none
 |_,_=>none
def addA:Addr→Nat→Addr
 |⟨b,o,none⟩,n=>⟨b,o+n,none⟩
 |a,n=>a.add n
theorem addA_eq (a:Addr) (n:Nat):addA a n=a.add n:=by
 obtain ⟨b,o,s⟩:=a
 cases s with
 |none=>unfold addA Addr.add;split <;>simp_all
 |some s=>rfl
def fldOff (tab:Tab) (T f:Nat):Option Nat:=
 match tab.get T with
 |some ⟨.struct fs,_,_,_⟩=>(fs[f]?).map (·.1)
 |_=>none
def pairsEv (E:Env):List (Nat×Operand)→Option (List (Nat×Value))
 |[]=>some []
 |(i,x)::r=>match ev E x,pairsEv E r with
  |some v,some vs=>some ((i,v)::vs)
  |_,_=>none
theorem Knows.pairs {E:Env} {ρ:Operand→Value} (h:Knows E ρ):∀{l:List (Nat×Operand)} {vs:List (Nat×Value)},pairsEv E l=some vs→(l.map fun (i,x)=>(i,ρ x))=vs
 |[],vs,e=>by simp [pairsEv] at e;simp [e]
 |(i,x)::r,vs,e=>by
  unfold pairsEv at e
  cases h1:ev E x with
  |none=>rw [h1] at e;cases e
  |some v=>
   cases h2:pairsEv E r with
   |none=>rw [h1,h2] at e;cases e
   |some us=>
    rw [h1,h2] at e
    simp only [Option.some.injEq] at e
    subst e
    rw [List.map_cons,h.pairs h2]
    show (i,ρ x)::us=_
    rw [h x v h1]
def layCells (fs:List (Nat×Nat)):List Value→List (Nat×Value)→Option (List Value)
 |cs,[]=>some cs
 |cs,(i,v)::rest=>match fs[i]? with
  |none=>none
  |some (off,size)=>match v with
   |.agg us=>match Nat.beq us.toList.length size&&Nat.ble (off+size) cs.length with
    |true=>layCells fs (cs.take off++us.toList++cs.drop (off+size)) rest
    |false=>none
   |v=>match Nat.beq size 1&&Nat.ble (off+1) cs.length with
    |true=>layCells fs (cs.take off++v::cs.drop (off+1)) rest
    |false=>none
def pureOp (tab:Tab) (E:Env):Op→Option Value
 |.move x=>ev E x
 |.assign x=>ev E x
 |.pick c a b=>match ev E c with
  |some (.bool true)=>ev E a
  |some (.bool false)=>ev E b
  |_=>none
 |.extract x i=>match ev E x with
  |some (.tuple vs)=>vs.toList[i]?
  |_=>none
 |.binOp op T x y _=>match ev E x,ev E y with
  |some a,some b=>binB tab op T a b
  |_,_=>none
 |.unOp .not _ x=>match ev E x with
  |some (.bool b)=>some (.bool !b)
  |_=>none
 |.fieldAddr T x f=>match ev E x,fldOff tab T f with
  |some (.pointer (some a)),some off=>some (.pointer (some (addA a off)))
  |_,_=>none
 |.nilCheck x=>match ev E x with
  |some (.pointer (some a))=>some (.pointer (some a))
  |some (.func (.func f) a b)=>some (.func (.func f) a b)
  |_=>none
 |.makeFunc fn first captured=>match evs E first.toList,evs E captured.toList with
  |some fs,some cs=>some (.func fn fs.toArray cs.toArray)
  |_,_=>none
 |.convert src dst x=>match ev E x,tab.get src,(tab.get dst).map (·.ti) with
  |some (.int _ n),some _,some (TI.int k)=>some (.int k (k.wrap n))
  |_,_,_=>none
 |.build T parts=>match pairsEv E parts.toList,tab.get T with
  |some ps,some ⟨.struct fs,_,_,zero⟩=>(layCells fs zero ps).map fun cs=>.agg cs.toArray
  |_,_=>none
 |.call ⟨.builtin .len,args,argTypes⟩=>match evs E args.toList,argTypes.toList with
  |some [.slice _ n _],[T]=>match (tab.get T).map (·.ti) with
   |some (TI.slice _)=>some (.int .i64 (n:Int))
   |_=>none
  |_,_=>none
 |_=>none
theorem run_binB {P:Program} {tab:Tab} (hT:TabOk P tab) {op:BinOp} {T:TypeId} {x y:Value} {v:Value} (h:binB tab op T x y=some v) (a b:Operand) (w:World):
 (do eqGuard op T a b x y;binOp op T x y:Sem Value).run P w=.ok v w:=by
 cases x <;>cases y <;>try (cases h;done)
 case bool.bool p q=>
  simp only [binB] at h
  cases hg:tab.get T with
  |none=>rw [hg] at h;simp at h
  |some t=>
   rw [hg] at h
   simp only [Option.map_some] at h
   cases ht:t.ti <;>rw [ht] at h <;>(try simp only at h) <;>try (cases h;done)
   have hu:P.underlying T=some .bool:=by
    obtain ⟨d,hd,ho⟩:=(hT.get hg).desc
    rw [ht] at ho
    cases ho
    exact hd
   cases op <;>simp only at h <;>try (cases h;done)
   ·cases h
    simp [eqGuard,run_eql_bool w T p q hu]
   ·cases h
    simp [eqGuard,run_neq_bool w T p q hu]
 case int.int k p k' q=>
  simp only [binB] at h
  by_cases hk:k=k'
  ·subst hk
   rw [show decide (k=k)=true by simp] at h
   cases op <;>simp only [intB] at h <;>try (cases h;done)
   all_goals (cases h;simp [eqGuard,binOp,Op.intArith,Op.intBits,Op.intCmp])
  ·rw [show decide (k=k')=false by simp [hk]] at h
   cases h
theorem fill_layCells (fs:List (Nat×Nat)) (place:Nat→Option (Nat×Nat)) (hpl:∀i p,fs[i]?=some p→place i=some p):∀(ps:List (Nat×Value)) (cs us:List Value),layCells fs cs ps=some us→Instr.fill place cs.toArray ps=some us.toArray
 |[],cs,us,h=>by simp only [layCells,Option.some.injEq] at h;subst h;rfl
 |(i,v)::rest,cs,us,h=>by
  unfold layCells at h
  unfold Instr.fill
  cases hf:fs[i]? with
  |none=>rw [hf] at h;cases h
  |some p=>
   obtain ⟨off,size⟩:=p
   rw [hf] at h
   rw [hpl i _ hf]
   simp only at h ⊢
   have key:∀(l:List Value) (c0:List Value),off+l.length≤c0.length→(l.toArray.zipIdx.foldl (fun cs (c,j)=>cs.setIfInBounds (off+j) c) c0.toArray)=(c0.take off++l++c0.drop (off+l.length)).toArray:=by
    intro l
    have gen:∀(l:List Value) (m:Nat) (c0:List Value),off+m+l.length≤c0.length→((l.zipIdx m).foldl (fun (cs:Array Value) (p:Value×Nat)=>cs.setIfInBounds (off+p.2) p.1) c0.toArray)=(c0.take (off+m)++l++c0.drop (off+m+l.length)).toArray:=by
     intro l
     induction l with
     |nil=>intro m c0 h;simp
     |cons x r ih=>
      intro m c0 hm
      simp only [List.length_cons] at hm
      rw [List.zipIdx_cons,List.foldl_cons]
      simp only [List.setIfInBounds_toArray]
      rw [ih (m+1) _ (by rw [List.length_set];omega)]
      congr 1
      apply List.ext_getElem?
      intro j
      simp only [List.append_assoc,List.getElem?_append,List.length_take,List.length_set,List.getElem?_take,List.getElem?_set,List.getElem?_drop,List.length_cons,List.getElem?_cons]
      grind
    intro c0 hc
    have:=gen l 0 c0 (by omega)
    simp only [Nat.add_zero] at this
    rw [←this,←Array.foldl_toList]
    simp
   have hc1:∀(l:List Value),v.cells=l.toArray→(Nat.beq l.length size&&Nat.ble (off+size) cs.length)=true→layCells fs (cs.take off++l++cs.drop (off+size)) rest=some us→
    (if v.cells.size≠size||off+v.cells.size>cs.toArray.size then none else Instr.fill place (v.cells.zipIdx.foldl (fun cs (c,j)=>cs.setIfInBounds (off+j) c) cs.toArray) rest)=some us.toArray:=by
    intro l hl hb hh
    simp only [Bool.and_eq_true] at hb
    have hb1:=Nat.eq_of_beq_eq_true hb.1
    have hb2:=Nat.le_of_ble_eq_true hb.2
    subst hb1
    rw [hl,if_neg (by simp;omega),key l cs (by omega)]
    exact fill_layCells fs place hpl rest _ us hh
   cases v with
   |agg ws=>
    simp only at h
    cases hb:(Nat.beq ws.toList.length size&&Nat.ble (off+size) cs.length) with
    |false=>rw [hb] at h;cases h
    |true=>rw [hb] at h;exact hc1 ws.toList (by simp [Value.cells]) hb h
   |_=>
    simp only at h
    revert h
    generalize hb:(Nat.beq size 1&&Nat.ble (off+1) cs.length)=bb
    intro h
    cases bb with
    |false=>cases h
    |true=>
     simp only [Bool.and_eq_true] at hb
     have hb1:=Nat.eq_of_beq_eq_true hb.1
     subst hb1
     refine hc1 [_] rfl ?_ (by simpa using h)
     simp [hb.2]
theorem mapM_places {P:Program}:∀(l:List Field) (fs:List (Nat×Nat)),l.map (fun f=>(f.offset,((P.info? f.type).map (·.size)).getD 0))=fs→fs.all (fun p=>!(p.2==0))=true→l.mapM (fun f=>(P.info? f.type).map fun i=>(f.offset,i.size))=some fs
 |[],fs,h,_=>by simp at h;subst h;simp
 |f::r,fs,h,ha=>by
  rw [List.map_cons] at h
  subst h
  simp only [List.all_cons,Bool.and_eq_true] at ha
  have ih:=mapM_places r _ rfl ha.2
  cases hi:P.info? f.type with
  |none=>rw [hi] at ha;simp at ha
  |some i=>simp [List.mapM_cons,hi,ih]
theorem pureOp_sound {P:Program} {tab:Tab} (hT:TabOk P tab) {E:Env} {ρ:Operand→Value} (hρ:Knows E ρ) {o:Oper} {v:Value} (h:pureOp tab E o.op=some v) (w:World):
 (execOp ρ o).run P w=.ok (.value v) w:=by
 unfold execOp
 generalize o.op=op at h ⊢
 cases op <;>simp only [pureOp] at h <;>try (cases h;done)
 all_goals dsimp only
 case move x=>rw [hρ x v h];rfl
 case assign x=>rw [hρ x v h];rfl
 case pick c a b=>
  cases hc:ev E c with
  |none=>rw [hc] at h;cases h
  |some u=>
   rw [hc] at h
   cases u <;>try (cases h;done)
   rename_i q
   cases q
   ·simp only at h;simp [hρ c _ hc,asBool,hρ b v h]
   ·simp only at h;simp [hρ c _ hc,asBool,hρ a v h]
 case extract x i=>
  cases hc:ev E x with
  |none=>rw [hc] at h;cases h
  |some u=>
   rw [hc] at h
   cases u <;>try (cases h;done)
   rename_i vs
   simp only [Array.getElem?_toList] at h
   simp [hρ x _ hc,Instr.extract,h]
 case binOp op T x y T2=>
  cases hx:ev E x with
  |none=>rw [hx] at h;cases h
  |some a=>
   cases hy:ev E y with
   |none=>rw [hx,hy] at h;cases h
   |some b=>
    rw [hx,hy] at h
    simp only at h
    have:=run_binB hT h x y w
    rw [hρ x a hx,hρ y b hy]
    simp only [Sem.run_bind] at this ⊢
    rw [this]
    rfl
 case unOp op T x=>
  cases op <;>simp only at h <;>try (cases h;done)
  cases hc:ev E x with
  |none=>rw [hc] at h;cases h
  |some u=>
   rw [hc] at h
   cases u <;>try (cases h;done)
   cases h
   simp [hρ x _ hc,Op.unary]
 case fieldAddr T x f=>
  cases hc:ev E x with
  |none=>rw [hc] at h;cases h
  |some u=>
   rw [hc] at h
   cases u <;>try (cases h;done)
   rename_i oa
   cases oa with
   |none=>cases h
   |some a=>
    cases hf:fldOff tab T f with
    |none=>rw [hf] at h;cases h
    |some off=>
     rw [hf] at h
     cases h
     unfold fldOff at hf
     cases hg:tab.get T with
     |none=>rw [hg] at hf;cases hf
     |some t=>
      rw [hg] at hf
      obtain ⟨ti,sz,by_,z⟩:=t
      cases ti <;>try (cases hf;done)
      rename_i fs
      simp only at hf
      have ho:=(hT.get hg)
      obtain ⟨d,hd,fields,rfl,hfs,hall⟩:=ho.desc
      cases hfi:fs[f]? with
      |none=>rw [hfi] at hf;cases hf
      |some p=>
       rw [hfi] at hf
       cases hf
       rw [←hfs] at hfi
       simp only [List.getElem?_map] at hfi
       cases hff:fields[f]? with
       |none=>rw [←Array.getElem?_toList] at hff;rw [hff] at hfi;cases hfi
       |some fd=>
        have hff':=hff
        rw [←Array.getElem?_toList] at hff
        rw [hff] at hfi
        simp only [Option.map_some,Option.some.injEq] at hfi
        subst hfi
        have hmem:(fd.offset,((P.info? fd.type).map (·.size)).getD 0)∈fs:=by
         rw [←hfs]
         exact List.mem_map.2 ⟨fd,List.mem_of_getElem? hff,rfl⟩
        have h2:=List.all_eq_true.1 hall _ hmem
        simp only [Bool.not_eq_true',beq_eq_false_iff_ne,ne_eq] at h2
        have h3:∃i,P.info? fd.type=some i∧i.size≠0:=by
         cases hi:P.info? fd.type with
         |none=>rw [hi] at h2;simp at h2
         |some i=>rw [hi] at h2;exact ⟨i,rfl,by simpa using h2⟩
        obtain ⟨i,hi,hi0⟩:=h3
        simp [addA_eq,hρ x _ hc,Instr.fieldAt,underlying,hd,hff',Instr.sureAddr,fieldPlace,sizeOf,typeInfo,hi,hi0]
 case nilCheck x=>
  cases hc:ev E x with
  |none=>rw [hc] at h;cases h
  |some u=>
   rw [hc] at h
   cases u <;>try (cases h;done)
   ·rename_i oa
    cases oa with
    |none=>cases h
    |some a=>cases h;simp [hρ x _ hc]
   ·rename_i fn a b
    cases fn <;>try (cases h;done)
    cases h
    simp [hρ x _ hc]
 case makeFunc fn first captured=>
  cases h1:evs E first.toList with
  |none=>rw [h1] at h;cases h
  |some fs=>
   cases h2:evs E captured.toList with
   |none=>rw [h1,h2] at h;cases h
   |some cs=>
    rw [h1,h2] at h
    cases h
    have e1:first.map ρ=fs.toArray:=by rw [←hρ.map h1,←List.map_toArray,Array.toArray_toList]
    have e2:captured.map ρ=cs.toArray:=by rw [←hρ.map h2,←List.map_toArray,Array.toArray_toList]
    simp [e1,e2,Instr.makeFunc]
 case convert T0 T x=>
  cases hc:ev E x with
  |none=>rw [hc] at h;cases h
  |some u=>
   cases hs:tab.get T0 with
   |none=>rw [hc,hs] at h;cases u <;>cases h
   |some t0=>
    cases hg:tab.get T with
    |none=>rw [hc,hs,hg] at h;cases u <;>cases h
    |some t=>
     rw [hc,hs,hg] at h
     cases u <;>try (cases h;done)
     rename_i k0 n
     simp only [Option.map_some] at h
     cases ht:t.ti <;>rw [ht] at h <;>simp only at h <;>try (cases h;done)
     cases h
     obtain ⟨d,hd,ho⟩:=(hT.get hg).desc
     obtain ⟨d0,hd0,_⟩:=(hT.get hs).desc
     rw [ht] at ho
     cases ho
     simp [hρ x _ hc,convert,underlying,hd,hd0,Conv.intToInt]
 case build T parts=>
  cases hp:pairsEv E parts.toList with
  |none=>rw [hp] at h;cases h
  |some ps=>
   cases hg:tab.get T with
   |none=>rw [hp,hg] at h;cases h
   |some t=>
    rw [hp,hg] at h
    obtain ⟨ti,sz,by_,z⟩:=t
    cases ti <;>try (cases h;done)
    rename_i fs
    simp only at h
    cases hl:layCells fs z ps with
    |none=>rw [hl] at h;cases h
    |some cs=>
     rw [hl] at h
     cases h
     have hok:=hT.get hg
     obtain ⟨d,hd,fields,rfl,hfs,hall⟩:=hok.desc
     obtain ⟨it,hit,_,_,hz⟩:=hok.info
     have e1:(parts.map fun (i,x)=>(i,ρ x)).toList=ps:=by rw [←hρ.pairs hp,Array.toList_map]
     have hpl:fields.toList.mapM (fun f=>(P.info? f.type).map fun i=>(f.offset,i.size))=some fs:=mapM_places _ _ hfs hall
     have hb:P.built T (parts.map fun (i,x)=>(i,ρ x)).toList=some cs.toArray:=by
      rw [e1]
      unfold Program.built
      rw [hit,hd]
      simp only [hz,hpl,ofCells,Value.cells]
      have:=fill_layCells fs (fun i=>fs[i]?) (fun _ _ e=>e) ps z cs hl
      simpa using this
     have:=run_build w T _ _ hb
     simp only [Sem.run_bind,this]
     rfl
 case call c=>
  obtain ⟨callee,args,ts⟩:=c
  cases callee <;>try (cases h;done)
  rename_i b
  cases b <;>try (cases h;done)
  simp only at h
  cases ha:evs E args.toList with
  |none=>rw [ha] at h;cases h
  |some vs=>
   rw [ha] at h
   have e1:args.map ρ=vs.toArray:=by rw [←hρ.map ha,←List.map_toArray,Array.toArray_toList]
   obtain ⟨tl⟩:=ts
   match vs,tl,h with
   |[.slice A n c],[T],h=>
    simp only at h
    cases hg:tab.get T with
    |none=>rw [hg] at h;cases h
    |some t=>
     rw [hg] at h
     simp only [Option.map_some] at h
     cases ht:t.ti <;>rw [ht] at h <;>simp only at h <;>try (cases h;done)
     cases h
     obtain ⟨d,hd,ho⟩:=(hT.get hg).desc
     rw [ht] at ho
     cases ho
     simp [resolve,e1,invoke,builtin,Builtin.len_,underlying,hd,goInt]
end Go.H
namespace Go.H
open Go.RowKit
abbrev Heap:=Array Obj
def ty (h:Heap) (b:Nat):Option TypeId:=
 match h[b]? with
 |some (.cells _ t _)=>some t
 |_=>none
abbrev Fp:=Nat→Option TypeId→Prop
structure Upd (S:Fp) (w w':World):Prop where
 os:w'.os=w.os
 tape:w'.tape=w.tape
 output:w'.output=w.output
 size:w.heap.size≤w'.heap.size
 keep:∀b,b<w.heap.size→¬S b (ty w.heap b)→w'.heap[b]?=w.heap[b]?
abbrev none':Fp:=fun _ _=>False
abbrev Ext (w w':World):Prop:=Upd none' w w'
theorem Upd.refl (S:Fp) (w:World):Upd S w w:=⟨rfl,rfl,rfl,Nat.le_refl _,fun _ _ _=>rfl⟩
theorem ty_of_get {h h':Heap} {b:Nat} (e:h'[b]?=h[b]?):ty h' b=ty h b:=by unfold ty;rw [e]
theorem Ext.get {w w':World} (h:Ext w w') {b:Nat} (hb:b<w.heap.size):w'.heap[b]?=w.heap[b]?:=h.keep b hb (fun f=>f)
theorem Ext.ty {w w':World} (h:Ext w w') {b:Nat} (hb:b<w.heap.size):ty w'.heap b=ty w.heap b:=ty_of_get (h.get hb)
theorem Upd.trans {S S':Fp} {a b c:World} (h:Upd S a b) (k:Upd S' b c) (hs:∀i,i<a.heap.size→¬S i (Go.H.ty a.heap i)→S' i (Go.H.ty a.heap i)→False):Upd S a c:=
 ⟨k.os.trans h.os,k.tape.trans h.tape,k.output.trans h.output,Nat.le_trans h.size k.size,fun i hi hn=>by
  have h1:=h.keep i hi hn
  rw [k.keep i (Nat.lt_of_lt_of_le hi h.size) (by rw [ty_of_get h1];exact fun hh=>hs i hi hn hh),h1]⟩
theorem Ext.trans {a b c:World} (h:Ext a b) (k:Ext b c):Ext a c:=Upd.trans h k (fun _ _ _ f=>f)
theorem Ext.upd {S:Fp} {a b:World} (h:Ext a b):Upd S a b:=⟨h.os,h.tape,h.output,h.size,fun i hi _=>h.get hi⟩
theorem Upd.mono {S S':Fp} {a b:World} (h:Upd S a b) (hs:∀i,i<a.heap.size→S i (Go.H.ty a.heap i)→S' i (Go.H.ty a.heap i)):Upd S' a b:=⟨h.os,h.tape,h.output,h.size,fun i hi hn=>h.keep i hi (fun hh=>hn (hs i hi hh))⟩
theorem Ext.of_new {S:Fp} {a b c:World} (h:Ext a b) (k:Upd S b c) (hs:∀i,i<a.heap.size→S i (Go.H.ty a.heap i)→False):Ext a c:=Upd.trans h k (fun i hi _ hh=>hs i hi hh)
theorem Upd.ext_left {S:Fp} {a b c:World} (h:Ext a b) (k:Upd S b c):Upd S a c:=⟨k.os.trans h.os,k.tape.trans h.tape,k.output.trans h.output,Nat.le_trans h.size k.size,fun i hi hn=>by
 rw [k.keep i (Nat.lt_of_lt_of_le hi h.size) (by rw [h.ty hi];exact hn),h.get hi]⟩
theorem Ext.drew (w:World):Ext w w.drew:=⟨rfl,rfl,rfl,Nat.le_refl _,fun _ _ _=>rfl⟩
theorem Ext.alloc (w:World) (o:Obj):Ext w (w.alloc o):=⟨rfl,rfl,rfl,by simp,fun k hk _=>Below.heap_alloc _ _ _ hk⟩
theorem Ext.below {w w':World} (h:Ext w w'):Below w.heap.size w w':=⟨h.os,h.tape,h.output,h.size,fun k hk=>h.get hk⟩
inductive Cls where
 |W|L|X|M
def Cls.isM:Cls→Bool
 |.M=>true
 |_=>false
def PS (Q:Exit→Act→World→Prop):Prop:=∀c a d v w,Q (.panic c) (a.put d v) w→Q (.panic c) a w
theorem put_defers (a:Act) (d:Option Tmp) (v:Value):(a.put d v).defers=a.defers:=by cases d <;>rfl
theorem PS.body {P:Program} {fn:Func} {R:Ending→World→Prop}:PS (bodyPost P fn R):=fun c a d v w h=>by
 simp only [bodyPost] at h ⊢
 rwa [put_defers] at h
theorem PS.then {J:Act→World→Prop} {Q:Exit→Act→World→Prop} (h:PS Q):PS (Exit.then J Q):=fun c a d v w hh=>h c a d v w hh
theorem PS.block {id:Nat} {Q:Exit→Act→World→Prop} (h:PS Q):PS (Exit.inBlock id Q):=fun c a d v w hh=>h c a d v w hh
section
variable {P:Program} {ops:Array Oper} {Q:Exit→Act→World→Prop}
def needs (o:Oper):List Nat:=(o.after.toList.filter (fun e=>Region.binds .any e)).map (·.on)
theorem needs_mem {o:Oper} {n:Nat}:n∈needs o↔∃e∈o.after,Region.binds .any e=true∧e.on=n:=by
 simp only [needs,List.mem_map,List.mem_filter,Array.mem_toList_iff]
 constructor
 ·rintro ⟨e,⟨h1,h2⟩,h3⟩;exact ⟨e,h1,h2,h3⟩
 ·rintro ⟨e,h1,h2,h3⟩;exact ⟨e,⟨h1,h2⟩,h3⟩
def wpX (P:Program) (ops:Array Oper) (Q:Exit→Act→World→Prop) (ds:List Nat):Nat→Array Bool→Act→World→Prop
 |0,listed,a,w=>Region.ready .any ops listed=[]∧Q .normal a w
 |fuel+1,listed,a,w=>
  (Region.ready .any ops listed=[]→Q .normal a w)∧
  ∀i∈Region.ready .any ops listed,wpOp P ops Q i (fun a' w'=>(i∉ds→Ext w w')∧wpX P ops Q ds fuel (listed.setIfInBounds i true) a' w') a w
theorem wpAny_of_X {ds:List Nat}:∀(fuel:Nat) (listed:Array Bool) (a:Act) (w:World),wpX P ops Q ds fuel listed a w→wpAny P .any ops Q fuel listed a w
 |0,_,_,_,h=>h
 |fuel+1,_,_,_,h=>⟨h.1,fun i hi=>wpOp_mono (fun a' w' h'=>wpAny_of_X fuel _ a' w' h'.2) (h.2 i hi)⟩
theorem YieldsIf.mono {S S':World→Prop} {o:Oper} {v:Value} {a:Act} (h:YieldsIf P ops S o v a) (hs:∀w,S' w→S w):YieldsIf P ops S' o v a:=
 h.imp (fun ⟨hw,hv⟩=>⟨hw,fun w hh=>hv w (hs w hh)⟩) id
def LClosed (ops:Array Oper) (listed:Array Bool):Prop:=∀j oj,ops[j]?=some oj→listed.getD j false=true→∀n∈needs oj,listed.getD n false=true
theorem LClosed.set {listed:Array Bool} {i:Nat} (h:LClosed ops listed) (hi:i∈Region.ready .any ops listed):LClosed ops (listed.setIfInBounds i true):=by
 obtain ⟨_,oi,hoi,hall⟩:=mem_ready.1 hi
 intro j oj hj hl n hn
 obtain ⟨e,he,hb,rfl⟩:=needs_mem.1 hn
 by_cases hij:i=j
 ·subst hij
  have:oj=oi:=Option.some.inj (hj.symm.trans hoi)
  subst this
  exact getD_set_true (hall e he hb)
 ·rw [getD_set_ne false hij] at hl
  exact getD_set_true (h j oj hj hl _ hn)
def bitsUp (B:List Nat) (d:Nat):List Nat→Nat
 |[]=>0
 |n::r=>(2^n|||(if n<d then B.getD n 0 else 0))|||bitsUp B d r
def waitsOk (ops:List Oper) (B:List Nat):Bool:=(List.range ops.length).all fun d=>match ops[d]? with
 |some o=>Nat.beq (B.getD d 0|||bitsUp B d (needs o)) (bitsUp B d (needs o))
 |none=>false
theorem bitsUp_bit {B:List Nat} {d i:Nat}:∀{ns:List Nat},(bitsUp B d ns).testBit i=true→∃n∈ns,n=i∨(n<d∧(B.getD n 0).testBit i=true)
 |[],h=>by simp [bitsUp] at h
 |n::r,h=>by
  unfold bitsUp at h
  rw [Nat.testBit_or,Nat.testBit_or,Bool.or_eq_true,Bool.or_eq_true] at h
  rcases h with (h|h)|h
  ·rw [Nat.testBit_two_pow] at h
   exact ⟨n,List.mem_cons_self,.inl (by simpa using h)⟩
  ·by_cases hn:n<d
   ·rw [if_pos hn] at h
    exact ⟨n,List.mem_cons_self,.inr ⟨hn,h⟩⟩
   ·rw [if_neg hn] at h
    simp at h
  ·obtain ⟨m,hm,h2⟩:=bitsUp_bit h
   exact ⟨m,List.mem_cons_of_mem _ hm,h2⟩
theorem waits_listed {listed:Array Bool} {B:List Nat} (hw:waitsOk ops.toList B=true) (hc:LClosed ops listed):∀(k d:Nat),d≤k→listed.getD d false=true→d<ops.size→∀i,(B.getD d 0).testBit i=true→listed.getD i false=true:=by
 intro k
 induction k with
 |zero=>
  intro d hd hl hlt i hb
  obtain rfl:d=0:=by omega
  have h1:=List.all_eq_true.1 hw 0 (List.mem_range.2 (by simpa using hlt))
  have ho:ops.toList[0]?=some ops[0]:=by simp [hlt]
  rw [ho] at h1
  have h2:=Nat.eq_of_beq_eq_true h1
  have h3:(bitsUp B 0 (needs ops[0])).testBit i=true:=by rw [←h2,Nat.testBit_or,hb,Bool.true_or]
  obtain ⟨n,hn,h4⟩:=bitsUp_bit h3
  have h5:=hc 0 ops[0] (by simp [hlt]) hl n hn
  rcases h4 with rfl|⟨h6,_⟩
  ·exact h5
  ·omega
 |succ k ih=>
  intro d hd hl hlt i hb
  have h1:=List.all_eq_true.1 hw d (List.mem_range.2 (by simpa using hlt))
  have ho:ops.toList[d]?=some ops[d]:=by simp [hlt]
  rw [ho] at h1
  have h2:=Nat.eq_of_beq_eq_true h1
  have h3:(bitsUp B d (needs ops[d])).testBit i=true:=by rw [←h2,Nat.testBit_or,hb,Bool.true_or]
  obtain ⟨n,hn,h4⟩:=bitsUp_bit h3
  have h5:=hc d ops[d] (by simp [hlt]) hl n hn
  rcases h4 with rfl|⟨h6,h7⟩
  ·exact h5
  ·exact ih n (by omega) h5 (by omega) i h7
theorem wpX_first {i:Nat} {oi:Oper} {v:Value} {ds:List Nat} {B:List Nat} (hw:waitsOk ops.toList B=true) (hi:ops[i]?=some oi) (hsel:∀(j:Nat) (o:Oper) cs b,ops[j]?=some o→o.op≠.select cs b)
 (hQ:PS Q):
 ∀(fuel:Nat) (listed:Array Bool) (a:Act) (w:World),
  (∀j oj,ops[j]?=some oj→j≠i→listed.getD j true=false→(∀e∈oj.after,Region.binds .any e=true→e.on≠i)→oi.apart ops oj=true)→
  LClosed ops listed→(∀d∈ds,listed.getD d true=false→(B.getD d 0).testBit i=true)→
  i∈Region.ready .any ops listed→YieldsIf P ops (Ext w) oi v a→
  wpX P ops Q ds fuel (listed.setIfInBounds i true) (a.put oi.dst v) w→wpX P ops Q ds (fuel+1) listed a w:=by
 intro fuel
 induction fuel with
 |zero=>
  intro listed a w _ _ _ hr hy H
  refine ⟨fun h=>(by rw [h] at hr;cases hr),fun j hj=>?_⟩
  by_cases hji:j=i
  ·subst hji;exact hy.wpOp hi (Upd.refl _ w) ⟨fun _=>Upd.refl _ w,H⟩
  ·have:=ready_mono hj hji
   rw [H.1] at this
   cases this
 |succ fuel ih=>
  intro listed a w hfree hc hd hr hy H
  refine ⟨fun h=>(by rw [h] at hr;cases hr),fun j hj=>?_⟩
  by_cases hji:j=i
  ·subst hji;exact hy.wpOp hi (Upd.refl _ w) ⟨fun _=>Upd.refl _ w,H⟩
  ·have h1:=H.2 j (ready_mono hj hji)
   obtain ⟨hjun,oj,hoj,hall⟩:=mem_ready.1 hj
   have hiun:=(mem_ready.1 hr).1
   have hilt:i<listed.size:=by
    rcases Nat.lt_or_ge i listed.size with h'|h'
    ·exact h'
    ·simp [Array.getElem?_eq_none h'] at hiun
   have hif:listed.getD i false=false:=by
    simp [hilt] at hiun ⊢
    exact hiun
   have hnot:∀e∈oj.after,Region.binds .any e=true→e.on≠i:=fun e he hb heq=>by
    have h1:=hall e he hb
    rw [heq,hif] at h1
    cases h1
   have hjd:j∉ds:=fun hm=>by
    have hb:=hd j hm hjun
    have hjlt:j<ops.size:=(Array.getElem?_eq_some_iff.1 hoj).1
    have h1:=List.all_eq_true.1 hw j (List.mem_range.2 (by simpa using hjlt))
    have ho:ops.toList[j]?=some oj:=by rw [Array.getElem?_toList];exact hoj
    rw [ho] at h1
    have h2:=Nat.eq_of_beq_eq_true h1
    have h3:(bitsUp B j (needs oj)).testBit i=true:=by rw [←h2,Nat.testBit_or,hb,Bool.true_or]
    obtain ⟨n,hn,h4⟩:=bitsUp_bit h3
    obtain ⟨e,he,hbd,rfl⟩:=needs_mem.1 hn
    have h5:=hall e he hbd
    rcases h4 with h4|⟨h6,h7⟩
    ·exact hnot e he hbd h4
    ·have:=waits_listed hw hc _ _ (Nat.le_refl _) h5 (by omega) i h7
     rw [hif] at this
     cases this
   have h2:=wpOp_putIf hoj (hfree j oj hoj hji hjun hnot) (fun cs b=>hsel i oi cs b hi) (fun cs b=>hsel j oj cs b hoj) (fun c a w=>hQ c a oi.dst v w) hy h1
   have hfree':∀k ok,ops[k]?=some ok→k≠i→(listed.setIfInBounds j true).getD k true=false→
    (∀e∈ok.after,Region.binds .any e=true→e.on≠i)→oi.apart ops ok=true:=fun k ok hk hki hun hno=>by
    refine hfree k ok hk hki ?_ hno
    by_cases hjk:j=k
    ·subst hjk;exact hjun
    ·rw [getD_set_ne true hjk] at hun;exact hun
   have hd':∀d∈ds,(listed.setIfInBounds j true).getD d true=false→(B.getD d 0).testBit i=true:=fun d hm hun=>by
    refine hd d hm ?_
    by_cases hjk:j=d
    ·subst hjk;exact hjun
    ·rw [getD_set_ne true hjk] at hun;exact hun
   refine wpOp_mono (fun a' w' h3=>⟨h3.2.1,?_⟩) h2
   have hx:=h3.2.1 hjd
   refine ih (listed.setIfInBounds j true) a' w' hfree' (hc.set hj) hd' (ready_mono hr (Ne.symm hji)) (YieldsIf.mono h3.1 (fun w2 h=>Ext.trans hx h)) ?_
   rw [Array.setIfInBounds_comm _ _ hji]
   exact h3.2.2
theorem wpX_any {i:Nat} {oi:Oper} {v:Value} {ds:List Nat} (hi:ops[i]?=some oi) (hsel:∀(j:Nat) (o:Oper) cs b,ops[j]?=some o→o.op≠.select cs b)
 (hQ:PS Q):
 ∀(fuel:Nat) (listed:Array Bool) (a:Act) (w:World),
  (∀j oj,ops[j]?=some oj→j≠i→listed.getD j true=false→(∀e∈oj.after,Region.binds .any e=true→e.on≠i)→oi.apart ops oj=true)→
  i∈Region.ready .any ops listed→YieldsIf P ops (fun _=>True) oi v a→
  wpX P ops Q ds fuel (listed.setIfInBounds i true) (a.put oi.dst v) w→wpX P ops Q ds (fuel+1) listed a w:=by
 intro fuel
 induction fuel with
 |zero=>
  intro listed a w _ hr hy H
  refine ⟨fun h=>(by rw [h] at hr;cases hr),fun j hj=>?_⟩
  by_cases hji:j=i
  ·subst hji;exact hy.wpOp hi trivial ⟨fun _=>Upd.refl _ w,H⟩
  ·have:=ready_mono hj hji
   rw [H.1] at this
   cases this
 |succ fuel ih=>
  intro listed a w hfree hr hy H
  refine ⟨fun h=>(by rw [h] at hr;cases hr),fun j hj=>?_⟩
  by_cases hji:j=i
  ·subst hji;exact hy.wpOp hi trivial ⟨fun _=>Upd.refl _ w,H⟩
  ·have h1:=H.2 j (ready_mono hj hji)
   obtain ⟨hjun,oj,hoj,hall⟩:=mem_ready.1 hj
   have hiun:=(mem_ready.1 hr).1
   have hnot:∀e∈oj.after,Region.binds .any e=true→e.on≠i:=fun e he hb heq=>by
    have h1:=hall e he hb
    rw [heq] at h1
    rcases Nat.lt_or_ge i listed.size with h'|h'
    ·simp [h'] at hiun h1;rw [hiun] at h1;cases h1
    ·simp [Array.getElem?_eq_none h'] at h1
   have h2:=wpOp_putIf hoj (hfree j oj hoj hji hjun hnot) (fun cs b=>hsel i oi cs b hi) (fun cs b=>hsel j oj cs b hoj) (fun c a w=>hQ c a oi.dst v w) hy h1
   have hfree':∀k ok,ops[k]?=some ok→k≠i→(listed.setIfInBounds j true).getD k true=false→
    (∀e∈ok.after,Region.binds .any e=true→e.on≠i)→oi.apart ops ok=true:=fun k ok hk hki hun hno=>by
    refine hfree k ok hk hki ?_ hno
    by_cases hjk:j=k
    ·subst hjk;exact hjun
    ·rw [getD_set_ne true hjk] at hun;exact hun
   refine wpOp_mono (fun a' w' h3=>⟨h3.2.1,ih (listed.setIfInBounds j true) a' w' hfree' (ready_mono hr (Ne.symm hji)) h3.1 ?_⟩) h2
   rw [Array.setIfInBounds_comm _ _ hji]
   exact h3.2.2
inductive OT where
 |nil
 |one (i:Nat) (c:Cls) (r:OT)
 |two (i:Nat) (c:Cls) (r:OT) (j:Nat) (d:Cls) (s:OT)
 |three (i:Nat) (c:Cls) (r:OT) (j:Nat) (d:Cls) (s:OT) (k:Nat) (e:Cls) (t:OT)
def ofL:List (Nat×Cls)→OT→OT
 |[],t=>t
 |(i,c)::r,t=>.one i c (ofL r t)
def wpOne (P:Program) (ops:List Oper) (Q:Exit→Act→World→Prop) (i:Nat) (c:Cls) (K:Act→World→Prop) (a:Act) (w:World):Prop:=∃o,ops[i]?=some o∧
 (if Region.wanted o (yielded ops.toArray a.tmps)=true then
  (match c with
  |.W=>∃v,(∀w',(execOp a.eval o).run P w'=.ok (.value v) w')∧K (a.put o.dst v) w
  |.L=>∃v,(∀w',Ext w w'→(execOp a.eval o).run P w'=.ok (.value v) w')∧K (a.put o.dst v) w
  |.X=>o.wp P a w (fun a' w'=>Ext w w'∧K a' w') Q
  |.M=>o.wp P a w (fun a' w'=>K a' w') Q)
 else K (a.put o.dst undef) w)
def wpOrd (P:Program) (ops:List Oper) (Q:Exit→Act→World→Prop):OT→Act→World→Prop
 |.nil,a,w=>Q .normal a w
 |.one i c r,a,w=>wpOne P ops Q i c (wpOrd P ops Q r) a w
 |.two i c r j d s,a,w=>wpOne P ops Q i c (wpOrd P ops Q r) a w∧wpOne P ops Q j d (wpOrd P ops Q s) a w
 |.three i c r j d s k e t,a,w=>wpOne P ops Q i c (wpOrd P ops Q r) a w∧wpOne P ops Q j d (wpOrd P ops Q s) a w∧wpOne P ops Q k e (wpOrd P ops Q t) a w
def clsOk (ds:List Nat) (i:Nat):Cls→Bool
 |.X=>!ds.contains i
 |.M=>ds.contains i
 |.L=>!ds.contains i
 |_=>false
def canon (ops:Array Oper) (ds:List Nat) (B:List Nat):OT→Array Bool→Bool
 |.nil,l=>match Region.ready .any ops l with
  |[]=>true
  |_=>false
 |.one i c r,l=>(match c with
  |.W=>Region.free .any ops l i&&(Region.ready .any ops l).contains i
  |.L=>Region.free .any ops l i&&(Region.ready .any ops l).contains i&&ds.all (fun d=>l.getD d true||(B.getD d 0).testBit i)
  |c=>clsOk ds i c&&(match Region.ready .any ops l with
   |[j]=>Nat.beq i j
   |_=>false))&&canon ops ds B r (l.setIfInBounds i true)
 |.two i c r j d s,l=>clsOk ds i c&&clsOk ds j d&&(match Region.ready .any ops l with
  |[i',j']=>Nat.beq i i'&&Nat.beq j j'
  |_=>false)&&canon ops ds B r (l.setIfInBounds i true)&&canon ops ds B s (l.setIfInBounds j true)
 |.three i c r j d s k e t,l=>clsOk ds i c&&clsOk ds j d&&clsOk ds k e&&(match Region.ready .any ops l with
  |[i',j',k']=>Nat.beq i i'&&Nat.beq j j'&&Nat.beq k k'
  |_=>false)&&canon ops ds B r (l.setIfInBounds i true)&&canon ops ds B s (l.setIfInBounds j true)&&canon ops ds B t (l.setIfInBounds k true)
def OT.len:OT→Nat
 |.nil=>0
 |.one _ _ r=>r.len+1
 |.two _ _ r _ _ s=>max r.len s.len+1
 |.three _ _ r _ _ s _ _ t=>max (max r.len s.len) t.len+1
def OT.ms:OT→List Nat
 |.nil=>[]
 |.one i c r=>if c.isM then i::r.ms else r.ms
 |.two i c r _ _ _=>if c.isM then i::r.ms else r.ms
 |.three i c r _ _ _ _ _ _=>if c.isM then i::r.ms else r.ms
theorem wpOp_one {ops:List Oper} {ds:List Nat} {i:Nat} {c:Cls} {K K':Act→World→Prop} {a:Act} {w:World} (hc:clsOk ds i c=true) (h:wpOne P ops Q i c K a w) (hk:∀a w,K a w→K' a w):wpOp P ops.toArray Q i (fun a' w'=>(i∉ds→Ext w w')∧K' a' w') a w:=by
 obtain ⟨o,ho,h⟩:=h
 have ho':ops.toArray[i]?=some o:=by simpa using ho
 unfold wpOp
 rw [ho']
 simp only
 split at h
 ·rename_i hwt
  rw [if_pos hwt]
  cases c with
  |W=>cases hc
  |L=>
   obtain ⟨v,hv,hh⟩:=h
   refine .inl ?_
   unfold Oper.wp
   rw [hv w (Upd.refl _ w)]
   exact ⟨fun _=>Upd.refl _ w,hk _ _ hh⟩
  |X=>exact .inl (Oper.wp_mono (fun a' w' hh=>⟨fun _=>hh.1,hk _ _ hh.2⟩) h)
  |M=>exact .inl (Oper.wp_mono (fun a' w' hh=>⟨fun hn=>absurd (by simpa [clsOk] using hc) hn,hk _ _ hh⟩) h)
 ·rename_i hwt
  rw [if_neg hwt]
  exact ⟨fun _=>Upd.refl _ w,hk _ _ h⟩
theorem wpX_ord {ops:List Oper} {ds B:List Nat} (hs:Region.noSelect ops.toArray=true) (hw:waitsOk ops B=true) (hQ:PS Q):∀(ord:OT) (l:Array Bool) (a:Act) (w:World),LClosed ops.toArray l→
 canon ops.toArray ds B ord l=true→wpOrd P ops Q ord a w→∀n,ord.len≤n→wpX P ops.toArray Q ds n l a w
 |.nil,l,a,w,hc,hk,h,n,_=>by
  have hr:Region.ready .any ops.toArray l=[]:=by
   unfold canon at hk
   split at hk
   ·assumption
   ·cases hk
  cases n with
  |zero=>exact ⟨hr,h⟩
  |succ n=>exact ⟨fun _=>h,by rw [hr];simp⟩
 |.one i c r,l,a,w,hc,hk,h,n,hn=>by
  obtain ⟨n,rfl⟩:∃m,n=m+1:=⟨n-1,by simp [OT.len] at hn;omega⟩
  simp only [OT.len] at hn
  unfold canon at hk
  rw [Bool.and_eq_true] at hk
  obtain ⟨hk1,hk2⟩:=hk
  have ih:=fun hc' a' w' (hh:wpOrd P ops Q r a' w')=>wpX_ord hs hw hQ r (l.setIfInBounds i true) a' w' hc' hk2 hh n (by omega)
  have eff:clsOk ds i c=true→Region.ready .any ops.toArray l=[i]→wpX P ops.toArray Q ds (n+1) l a w:=fun h1 hr=>
   ⟨fun h0=>(by rw [hr] at h0;cases h0),fun j hj=>by
    rw [hr,List.mem_singleton] at hj
    subst hj
    exact wpOp_one h1 h (fun a' w' hh=>ih (hc.set (by rw [hr];simp)) a' w' hh)⟩
  cases c with
  |W=>
   simp only [Bool.and_eq_true] at hk1
   have hir:i∈Region.ready .any ops.toArray l:=by simpa using hk1.2
   obtain ⟨o,ho,h⟩:=h
   have ho':ops.toArray[i]?=some o:=by simpa using ho
   split at h
   ·rename_i hwt
    obtain ⟨v,hv,hh⟩:=h
    exact wpX_any ho' (Region.noSelect_spec hs) hQ n l a w (Region.free_spec ho' hk1.1) hir (.inl ⟨hwt,fun w' _=>hv w'⟩) (ih (hc.set hir) _ _ hh)
   ·rename_i hwt
    exact wpX_any ho' (Region.noSelect_spec hs) hQ n l a w (Region.free_spec ho' hk1.1) hir (.inr ⟨by simpa using hwt,rfl⟩) (ih (hc.set hir) _ _ h)
  |L=>
   simp only [Bool.and_eq_true] at hk1
   have hir:i∈Region.ready .any ops.toArray l:=by simpa using hk1.1.2
   have hds:∀d∈ds,l.getD d true=false→(B.getD d 0).testBit i=true:=fun d hd hu=>by
    have:=List.all_eq_true.1 hk1.2 d hd
    rw [hu,Bool.false_or] at this
    exact this
   obtain ⟨o,ho,h⟩:=h
   have ho':ops.toArray[i]?=some o:=by simpa using ho
   split at h
   ·rename_i hwt
    obtain ⟨v,hv,hh⟩:=h
    exact wpX_first (ops:=ops.toArray) hw ho' (Region.noSelect_spec hs) hQ n l a w (Region.free_spec ho' hk1.1.1) hc hds hir (.inl ⟨hwt,hv⟩) (ih (hc.set hir) _ _ hh)
   ·rename_i hwt
    exact wpX_any ho' (Region.noSelect_spec hs) hQ n l a w (Region.free_spec ho' hk1.1.1) hir (.inr ⟨by simpa using hwt,rfl⟩) (ih (hc.set hir) _ _ h)
  |X=>
   simp only [Bool.and_eq_true] at hk1
   refine eff hk1.1 ?_
   have h2:=hk1.2
   split at h2
   ·rename_i j hj;rw [hj,Nat.eq_of_beq_eq_true h2]
   ·cases h2
  |M=>
   simp only [Bool.and_eq_true] at hk1
   refine eff hk1.1 ?_
   have h2:=hk1.2
   split at h2
   ·rename_i j hj;rw [hj,Nat.eq_of_beq_eq_true h2]
   ·cases h2
 |.two i c r j d s,l,a,w,hc,hk,h,n,hn=>by
  obtain ⟨n,rfl⟩:∃m,n=m+1:=⟨n-1,by simp [OT.len] at hn;omega⟩
  simp only [OT.len] at hn
  unfold canon at hk
  simp only [Bool.and_eq_true] at hk
  obtain ⟨⟨⟨⟨h1,h2⟩,h3⟩,h4⟩,h5⟩:=hk
  have hr:Region.ready .any ops.toArray l=[i,j]:=by
   split at h3
   ·rename_i i' j' hj
    rw [Bool.and_eq_true] at h3
    rw [hj,Nat.eq_of_beq_eq_true h3.1,Nat.eq_of_beq_eq_true h3.2]
   ·cases h3
  refine ⟨fun h0=>(by rw [hr] at h0;cases h0),fun q hq=>?_⟩
  have hq':=hq
  rw [hr] at hq'
  simp only [List.mem_cons,List.not_mem_nil,or_false] at hq'
  rcases hq' with rfl|rfl
  ·exact wpOp_one h1 h.1 (fun a' w' hh=>wpX_ord hs hw hQ r _ a' w' (hc.set hq) h4 hh n (by omega))
  ·exact wpOp_one h2 h.2 (fun a' w' hh=>wpX_ord hs hw hQ s _ a' w' (hc.set hq) h5 hh n (by omega))
 |.three i c r j d s k e t,l,a,w,hc,hk,h,n,hn=>by
  obtain ⟨n,rfl⟩:∃m,n=m+1:=⟨n-1,by simp [OT.len] at hn;omega⟩
  simp only [OT.len] at hn
  unfold canon at hk
  simp only [Bool.and_eq_true] at hk
  obtain ⟨⟨⟨⟨⟨⟨h1,h2⟩,h2'⟩,h3⟩,h4⟩,h5⟩,h6⟩:=hk
  have hr:Region.ready .any ops.toArray l=[i,j,k]:=by
   split at h3
   ·rename_i i' j' k' hj
    simp only [Bool.and_eq_true] at h3
    rw [hj,Nat.eq_of_beq_eq_true h3.1.1,Nat.eq_of_beq_eq_true h3.1.2,Nat.eq_of_beq_eq_true h3.2]
   ·cases h3
  refine ⟨fun h0=>(by rw [hr] at h0;cases h0),fun q hq=>?_⟩
  have hq':=hq
  rw [hr] at hq'
  simp only [List.mem_cons,List.not_mem_nil,or_false] at hq'
  rcases hq' with rfl|rfl|rfl
  ·exact wpOp_one h1 h.1 (fun a' w' hh=>wpX_ord hs hw hQ r _ a' w' (hc.set hq) h4 hh n (by omega))
  ·exact wpOp_one h2 h.2.1 (fun a' w' hh=>wpX_ord hs hw hQ s _ a' w' (hc.set hq) h5 hh n (by omega))
  ·exact wpOp_one h2' h.2.2 (fun a' w' hh=>wpX_ord hs hw hQ t _ a' w' (hc.set hq) h6 hh n (by omega))
theorem LClosed.none (n:Nat):LClosed ops (Array.replicate n false):=fun j oj hj hl=>by
 rw [Array.getD_eq_getD_getElem?] at hl
 by_cases h:j<n
 ·simp [h] at hl
 ·simp [h] at hl
def canonB (ops:List Oper) (B:List Nat) (ord:OT):Bool:=
 Region.noSelect ops.toArray&&waitsOk ops B&&canon ops.toArray ord.ms B ord (Array.replicate ops.length false)&&Nat.ble ord.len ops.length
theorem wp_region_ord {id:Nat} {ops:List Oper} {a:Act} {w:World} (B:List Nat) (ord:OT) (hm:P.follows .mixedOrders=true) (hk:canonB ops B ord=true) (hQ:PS Q)
 (h:wpOrd P ops Q ord a w.drew):(Code.region id ops.toArray true).wp P Q a w:=by
 unfold canonB at hk
 simp only [Bool.and_eq_true] at hk
 obtain ⟨⟨⟨h1,h2⟩,h3⟩,h4⟩:=hk
 have h4:=Nat.le_of_ble_eq_true h4
 refine wp_region_any hm (wpAny_of_X (ds:=ord.ms) _ _ _ _ ?_)
 exact wpX_ord h1 h2 hQ ord _ a _ (by simpa using LClosed.none (ops:=ops.toArray) ops.length) (by simpa using h3) h _ (by simpa using h4)
def lexOrd (cs:List Cls) (k:Nat):OT:=match cs with
 |[]=>.nil
 |c::r=>.one k c (lexOrd r (k+1))
theorem wpList_ord {ops:List Oper}:∀(cs:List Cls) (l:List Oper) (k:Nat),(∀j,l[j]?=ops[k+j]?)→cs.length=l.length→∀a w,wpOrd P ops Q (lexOrd cs k) a w→wpList P ops.toArray Q l a w
 |[],[],_,_,_,_,_,h=>h
 |c::r,[],_,_,h,_,_,_=>by simp at h
 |[],o::l,_,_,h,_,_,_=>by simp at h
 |c::r,o::l,k,hl,hlen,a,w,h=>by
  obtain ⟨o',ho',h⟩:=h
  have h0:ops[k]?=some o:=by simpa using (hl 0).symm
  have:o'=o:=Option.some.inj (ho'.symm.trans h0)
  subst this
  have ih:=wpList_ord r l (k+1) (fun j=>by have:=hl (j+1);simpa [Nat.add_assoc,Nat.add_comm 1 j] using this) (by simpa using hlen)
  unfold wpList
  split at h
  ·rename_i hwt
   rw [if_pos hwt]
   refine .inl ?_
   cases c with
   |W=>
    obtain ⟨v,hv,hh⟩:=h
    unfold Oper.wp
    rw [hv w]
    exact ih _ _ hh
   |L=>
    obtain ⟨v,hv,hh⟩:=h
    unfold Oper.wp
    rw [hv w (Upd.refl _ w)]
    exact ih _ _ hh
   |X=>exact Oper.wp_mono (fun a' w' hh=>ih _ _ hh.2) h
   |M=>exact Oper.wp_mono (fun a' w' hh=>ih _ _ hh) h
  ·rename_i hwt
   rw [if_neg hwt]
   exact ih _ _ h
theorem wp_region_lex {id:Nat} {ops:List Oper} {a:Act} {w:World} (cs:List Cls) (hlen:Nat.beq cs.length ops.length=true) (h:wpOrd P ops Q (lexOrd cs 0) a w):(Code.region id ops.toArray false).wp P Q a w:=
 wp_region_lit (wpList_ord cs ops 0 (by simp) (Nat.eq_of_beq_eq_true hlen) a w h)
end
end Go.H
namespace Go.H
open Go.RowKit
def cellH (h:Heap) (a:Addr):Option Value:=
 match h[a.block]? with
 |some (.cells c _ _)=>if a.spot.isSome then none else c[a.off]?
 |_=>none
theorem cell_H (w:World) (a:Addr):w.cell? a=cellH w.heap a:=rfl
theorem cellH_of_get {h h':Heap} {a:Addr} (e:h'[a.block]?=h[a.block]?):cellH h' a=cellH h a:=by unfold cellH;rw [e]
theorem cellH_lt {h:Heap} {a:Addr} {v:Value} (e:cellH h a=some v):a.block<h.size:=by
 unfold cellH at e
 rcases Nat.lt_or_ge a.block h.size with hh|hh
 ·exact hh
 ·rw [Array.getElem?_eq_none hh] at e;cases e
theorem add_block (a:Addr) (n:Nat):(a.add n).block=a.block:=by unfold Addr.add;split <;>rfl
theorem add_zero (a:Addr):a.add 0=a:=rfl
theorem add_add (a:Addr) (m n:Nat):(a.add m).add n=a.add (m+n):=by
 unfold Addr.add
 by_cases h1:m=0
 ·subst h1;simp
 ·by_cases h2:n=0
  ·subst h2;simp
  ·rw [if_neg h1,if_neg h2,if_neg (by omega)]
   simp [Nat.add_assoc]
def At (h:Heap) (p:Addr) (cs:List Value):Prop:=∀j u,cs[j]?=some u→cellH h (p.add j)=some u
theorem At.keep {h h':Heap} {p:Addr} {cs:List Value} (k:At h p cs) (e:h'[p.block]?=h[p.block]?):At h' p cs:=fun j u hu=>by
 have e':h'[(p.add j).block]?=h[(p.add j).block]?:=by rw [add_block];exact e
 exact (cellH_of_get e').trans (k j u hu)
theorem At.lt {h:Heap} {p:Addr} {v:Value} {cs:List Value} (k:At h p (v::cs)):p.block<h.size:=by
 have:=cellH_lt (k 0 v rfl)
 rwa [add_block] at this
theorem At.ext {w w':World} {p:Addr} {cs:List Value} (k:At w.heap p cs) (hx:Ext w w'):At w'.heap p cs:=by
 cases cs with
 |nil=>intro j u hu;simp at hu
 |cons v r=>exact k.keep (hx.get k.lt)
theorem At.fld {h:Heap} {p:Addr} {cs:List Value} (k:At h p cs) (n:Nat):At h (addA p n) (cs.drop n):=fun j u hu=>by
 rw [addA_eq,add_add]
 exact k (n+j) u (by rw [←List.getElem?_drop];exact hu)
theorem At.take {h:Heap} {p:Addr} {cs us:List Value} (k:At h p cs) (n:Nat) (e:cs.take n=us):At h p us:=fun j u hu=>by
 subst e
 rw [List.getElem?_take] at hu
 split at hu
 ·exact k j u hu
 ·cases hu
def Box (h:Heap) (b:Nat) (T:TypeId) (cs:List Value):Prop:=h[b]?=some (.cells cs.toArray T (0,0))
theorem Box.at {h:Heap} {b:Nat} {T:TypeId} {cs:List Value} (k:Box h b T cs) (o:Nat):At h ⟨b,o,none⟩ (cs.drop o):=fun j u hu=>by
 rw [List.getElem?_drop] at hu
 unfold cellH
 rw [add_block]
 simp only
 rw [show h[b]?=_ from k]
 have e:((⟨b,o,none⟩:Addr).add j)=⟨b,o+j,none⟩:=by unfold Addr.add;split <;>simp_all
 rw [e]
 simpa using hu
theorem Box.lt {h:Heap} {b:Nat} {T:TypeId} {cs:List Value} (k:Box h b T cs):b<h.size:=(Array.getElem?_eq_some_iff.1 k).1
theorem Box.ext {w w':World} {b:Nat} {T:TypeId} {cs:List Value} (k:Box w.heap b T cs) (hx:Ext w w'):Box w'.heap b T cs:=(hx.get k.lt).trans k
theorem Box.ty {h:Heap} {b:Nat} {T:TypeId} {cs:List Value} (k:Box h b T cs):ty h b=some T:=by unfold Go.H.ty;rw [show h[b]?=_ from k]
theorem Box.upd {w w':World} {S:Fp} {b:Nat} {T:TypeId} {cs:List Value} (k:Box w.heap b T cs) (hx:Upd S w w') (hs:¬S b (some T)):Box w'.heap b T cs:=(hx.keep b k.lt (by rw [k.ty];exact hs)).trans k
section
variable {P:Program} {N:Nat} {Q:Exit→Act→World→Prop} {E:Env} {w:World} {ops:List Oper} {tab:Tab}
def CW (P:Program) (N:Nat) (c:Code) (Q:Exit→Act→World→Prop) (E:Env) (w:World):Prop:=PS Q→∀a,Sat N E a→c.wp P Q a w
def NW (N:Nat) (e:Exit) (Q:Exit→Act→World→Prop) (E:Env) (w:World):Prop:=PS Q→∀a,Sat N E a→Q e a w
def RW (P:Program) (N:Nat) (ops:List Oper) (Q:Exit→Act→World→Prop) (ord:OT) (E:Env) (w:World):Prop:=PS Q→∀a,Sat N E a→wpOrd P ops Q ord a w
theorem CW.sub {c:Code} (E':Env) (hs:Sub E' E) (h:CW P N c Q E' w):CW P N c Q E w:=fun hp a ha=>h hp a (ha.sub hs)
theorem NW.sub {e:Exit} (E':Env) (hs:Sub E' E) (h:NW N e Q E' w):NW N e Q E w:=fun hp a ha=>h hp a (ha.sub hs)
theorem RW.sub {ord:OT} (E':Env) (hs:Sub E' E) (h:RW P N ops Q ord E' w):RW P N ops Q ord E w:=fun hp a ha=>h hp a (ha.sub hs)
theorem CW.go {c:Code} {a:Act} (hp:PS Q) (ha:Sat N E a) (h:CW P N c Q E w):c.wp P Q a w:=h hp a ha
theorem CW.seq {x y:Code} (h:CW P N x (Exit.then (Code.wp P y Q) Q) E w):CW P N (.seq x y) Q E w:=fun hp a ha=>wp_seq (h hp.then a ha)
theorem CW.seqJ {x y:Code} (J:Act→World→Prop) (hx:CW P N x (Exit.then J Q) E w) (hJ:∀a w,J a w→PS Q→y.wp P Q a w):CW P N (.seq x y) Q E w:=
 fun hp a ha=>wp_seq_k fun K hK=>wp_mono (hx hp.then a ha) (fun e a w h=>by cases e <;>first|exact hK _ _ (hJ _ _ h hp)|exact h)
theorem NW.next {y:Code} (h:CW P N y Q E w):NW N .normal (Exit.then (Code.wp P y Q) Q) E w:=fun hp a ha=>h (fun c a d v w hh=>hp c a d v w hh) a ha
theorem NW.J {J:Act→World→Prop} (h:∀a,Sat N E a→J a w):NW N .normal (Exit.then J Q) E w:=fun _ a ha=>h a ha
theorem NW.ret_then {J:Act→World→Prop} (h:NW N .ret Q E w):NW N .ret (Exit.then J Q) E w:=fun hp a ha=>h (fun c a d v w hh=>hp c a d v w hh) a ha
theorem NW.exit_then {J:Act→World→Prop} {i:Nat} (h:NW N (.exit i) Q E w):NW N (.exit i) (Exit.then J Q) E w:=fun hp a ha=>h (fun c a d v w hh=>hp c a d v w hh) a ha
theorem NW.ret_block {i:Nat} (h:NW N .ret Q E w):NW N .ret (Exit.inBlock i Q) E w:=fun hp a ha=>h (fun c a d v w hh=>hp c a d v w hh) a ha
theorem NW.norm_block {i:Nat} (h:NW N .normal Q E w):NW N .normal (Exit.inBlock i Q) E w:=fun hp a ha=>h (fun c a d v w hh=>hp c a d v w hh) a ha
theorem NW.exit_hit {i:Nat} (h:NW N .normal Q E w):NW N (.exit i) (Exit.inBlock i Q) E w:=fun hp a ha=>by
 show (if i=i then Q .normal a w else Q (.exit i) a w)
 rw [if_pos rfl]
 exact h (fun c a d v w hh=>hp c a d v w hh) a ha
theorem CW.block {i:Nat} {c:Code} (h:CW P N c (Exit.inBlock i Q) E w):CW P N (.block i c) Q E w:=fun hp a ha=>wp_block (h hp.block a ha)
theorem CW.skip (h:NW N .normal Q E w):CW P N .skip Q E w:=fun hp a ha=>wp_skip (h hp a ha)
theorem CW.exit {i:Nat} (h:NW N (.exit i) Q E w):CW P N (.exit i) Q E w:=fun hp a ha=>wp_exit (h hp a ha)
theorem CW.ret (h:NW N .ret Q E w):CW P N .ret Q E w:=fun hp a ha=>wp_ret (h hp a ha)
theorem CW.cond_t {c:Operand} {x y:Code} {b:Bool} (hc:ev E c=some (.bool b)) (hb:b=true) (h:CW P N x Q E w):CW P N (.cond c x y) Q E w:=fun hp a ha=>by
 subst hb
 exact wp_cond_true (ev_eval ha hc) (h hp a ha)
theorem CW.cond_f {c:Operand} {x y:Code} {b:Bool} (hc:ev E c=some (.bool b)) (hb:b=false) (h:CW P N y Q E w):CW P N (.cond c x y) Q E w:=fun hp a ha=>by
 subst hb
 exact wp_cond_false (ev_eval ha hc) (h hp a ha)
theorem CW.loop {c:Code} (I:Nat→Act→World→Prop) (n:Nat) (h0:∀a,Sat N E a→I n a w)
 (hr:∀n a w,I n a w→PS Q→c.wp P (Exit.then (fun a' w'=>∃m,m<n∧I m a' w') Q) a w):CW P N (.loop c) Q E w:=fun hp a ha=>wp_loop_ghost I n (h0 a ha) fun n a w h=>hr n a w h hp
theorem CW.lex {id:Nat} (cs:List Cls) (hlen:Nat.beq cs.length ops.length=true) (h:RW P N ops Q (lexOrd cs 0) E w):CW P N (.region id ops.toArray false) Q E w:=fun hp a ha=>wp_region_lex cs hlen (h hp a ha)
theorem CW.ord {id:Nat} (B:List Nat) (ord:OT) (hm:P.follows .mixedOrders=true) (hk:canonB ops B ord=true) (h:∀w1,Ext w w1→RW P N ops Q ord E w1):CW P N (.region id ops.toArray true) Q E w:=
 fun hp a ha=>wp_region_ord B ord hm hk hp (h _ (Ext.drew w) hp a ha)
theorem RW.done (h:NW N .normal Q E w):RW P N ops Q .nil E w:=fun hp a ha=>h hp a ha
theorem RW.two {i j:Nat} {c d:Cls} {r s:OT} (h1:RW P N ops Q (.one i c r) E w) (h2:RW P N ops Q (.one j d s) E w):RW P N ops Q (.two i c r j d s) E w:=fun hp a ha=>⟨h1 hp a ha,h2 hp a ha⟩
theorem RW.three {i j k:Nat} {c d e:Cls} {r s t:OT} (h1:RW P N ops Q (.one i c r) E w) (h2:RW P N ops Q (.one j d s) E w) (h3:RW P N ops Q (.one k e t) E w):RW P N ops Q (.three i c r j d s k e t) E w:=fun hp a ha=>⟨h1 hp a ha,h2 hp a ha,h3 hp a ha⟩
theorem RW.bool {ord:OT} (t:Nat) {b b':Bool} (hb:b=b') (ht:E.get t=some (.bool b)) (h:RW P N ops Q ord ((t,.bool b')::E) w):RW P N ops Q ord E w:=fun hp a ha=>by
 subst hb
 refine h hp a ⟨ha.defers,ha.size,fun t' v hv=>?_⟩
 rw [Env.get_cons] at hv
 split at hv
 ·rename_i e;subst e;cases hv;exact ha.get _ _ ht
 ·exact ha.get _ _ hv
def wantE (ops:List Oper) (E:Env) (o:Oper):Option Bool:=
 match o.guard with
 |none=>some true
 |some (g,b)=>match (ops[g]?).bind (·.dst) with
  |none=>some false
  |some t=>match E.get t with
   |some (.bool c)=>some (c==b)
   |some (.tuple _)=>some false
   |_=>none
theorem wantE_sound {o:Oper} {b:Bool} (h:wantE ops E o=some b) {a:Act} (ha:Sat N E a):Region.wanted o (yielded ops.toArray a.tmps)=b:=by
 unfold wantE at h
 unfold Region.wanted
 cases hg:o.guard with
 |none=>rw [hg] at h;simpa using h
 |some gb=>
  obtain ⟨g,c⟩:=gb
  rw [hg] at h
  simp only at h ⊢
  unfold yielded
  simp only [List.getElem?_toArray]
  cases ht:(ops[g]?).bind (·.dst) with
  |none=>rw [ht] at h;simp at h;simp [←h]
  |some t=>
   rw [ht] at h
   simp only at h
   cases hv:E.get t with
   |none=>rw [hv] at h;cases h
   |some v=>
    rw [hv] at h
    simp only [Option.bind_some,ha.get t v hv]
    cases v <;>simp only at h <;>first|(cases h;done)|(cases h;simp)
def runW (tab:Tab) (N:Nat) (ops:List Oper):Nat→Env→OT→Option (Env×OT)
 |0,E,ord=>some (E,ord)
 |_+1,_,.nil=>none
 |_+1,_,.two ..=>none
 |_+1,_,.three ..=>none
 |n+1,E,.one i c r=>match ops[i]? with
  |none=>none
  |some o=>match o.dst with
   |none=>match wantE ops E o with
    |some false=>runW tab N ops n E r
    |_=>none
   |some d=>match Nat.blt d N,wantE ops E o with
    |true,some false=>runW tab N ops n ((d,undef)::E) r
    |true,some true=>match c with
     |.W=>match pureOp tab E o.op with
      |some v=>runW tab N ops n ((d,v)::E) r
      |none=>none
     |_=>none
    |_,_=>none
theorem RW.pure (hT:TabOk P tab):∀(n:Nat) {E:Env} {ord:OT} {E':Env} {ord':OT},runW tab N ops n E ord=some (E',ord')→RW P N ops Q ord' E' w→RW P N ops Q ord E w
 |0,E,ord,E',ord',hr,h=>by
  simp only [runW,Option.some.injEq,Prod.mk.injEq] at hr
  obtain ⟨rfl,rfl⟩:=hr
  exact h
 |n+1,E,.nil,E',ord',hr,h=>by simp [runW] at hr
 |n+1,E,.two ..,E',ord',hr,h=>by simp [runW] at hr
 |n+1,E,.three ..,E',ord',hr,h=>by simp [runW] at hr
 |n+1,E,.one i c r,E',ord',hr,h=>fun hp a ha=>by
  unfold runW at hr
  cases ho:ops[i]? with
  |none=>rw [ho] at hr;cases hr
  |some o=>
   rw [ho] at hr
   simp only at hr
   refine ⟨o,ho,?_⟩
   cases hd:o.dst with
   |none=>
    rw [hd] at hr
    cases hw:wantE ops E o with
    |none=>rw [hw] at hr;cases hr
    |some b=>
     rw [hw] at hr
     rw [wantE_sound hw ha]
     cases b with
     |true=>cases hr
     |false=>
      simp only at hr
      have:=RW.pure hT n hr h hp _ (ha.put (d:=none) rfl undef)
      simpa using this
   |some d=>
    rw [hd] at hr
    simp only at hr
    cases hf:Nat.blt d N with
    |false=>rw [hf] at hr;cases hr
    |true=>
     rw [hf] at hr
     cases hw:wantE ops E o with
     |none=>rw [hw] at hr;cases hr
     |some b=>
      rw [hw] at hr
      have hwt:=wantE_sound hw ha
      rw [hwt]
      cases b with
      |false=>
       simp only at hr
       simpa using RW.pure hT n hr h hp _ (ha.put (d:=some d) hf undef)
      |true=>
       simp only at hr
       cases c <;>simp only at hr <;>try (cases hr;done)
       cases hv:pureOp tab E o.op with
       |none=>rw [hv] at hr;cases hr
       |some v=>
        rw [hv] at hr
        exact ⟨v,fun w'=>pureOp_sound hT ha.knows hv w',RW.pure hT n hr h hp _ (ha.put (d:=some d) hf v)⟩
structure Nx (ops:List Oper) (N:Nat) (E:Env) (i:Nat) (o:Oper) (d:Nat):Prop where
 op:ops[i]?=some o
 dst:o.dst=some d
 fit:Nat.blt d N=true
 want:wantE ops E o=some true
structure Nx0 (ops:List Oper) (E:Env) (i:Nat) (o:Oper):Prop where
 op:ops[i]?=some o
 dst:o.dst=none
 want:wantE ops E o=some true
theorem RW.stepW {i d:Nat} {o:Oper} {r:OT} {v:Value} (hn:Nx ops N E i o d) (hrun:∀ρ,Knows E ρ→∀w',(execOp ρ o).run P w'=.ok (.value v) w') (h:RW P N ops Q r ((d,v)::E) w):RW P N ops Q (.one i .W r) E w:=fun hp a ha=>by
 refine ⟨o,hn.op,?_⟩
 rw [wantE_sound hn.want ha]
 rw [hn.dst]
 exact ⟨v,hrun _ ha.knows,h hp _ (ha.put (d:=some d) hn.fit v)⟩
theorem RW.stepL {i d:Nat} {o:Oper} {r:OT} {v:Value} (hn:Nx ops N E i o d) (hrun:∀ρ,Knows E ρ→∀w',Ext w w'→(execOp ρ o).run P w'=.ok (.value v) w') (h:RW P N ops Q r ((d,v)::E) w):RW P N ops Q (.one i .L r) E w:=fun hp a ha=>by
 refine ⟨o,hn.op,?_⟩
 rw [wantE_sound hn.want ha]
 rw [hn.dst]
 exact ⟨v,hrun _ ha.knows,h hp _ (ha.put (d:=some d) hn.fit v)⟩
theorem RW.stepX {i d:Nat} {o:Oper} {r:OT} {v:Value} {w1:World} {c:Cls} (hc:c=.X∨c=.M) (hn:Nx ops N E i o d) (hrun:∀ρ,Knows E ρ→(execOp ρ o).run P w=.ok (.value v) w1) (hx:Ext w w1) (h:RW P N ops Q r ((d,v)::E) w1):RW P N ops Q (.one i c r) E w:=fun hp a ha=>by
 refine ⟨o,hn.op,?_⟩
 rw [wantE_sound hn.want ha]
 rcases hc with rfl|rfl
 ·simp only [if_true]
  unfold Oper.wp
  rw [hrun _ ha.knows]
  show Ext w w1∧wpOrd P ops Q r (a.put o.dst v) w1
  rw [hn.dst]
  exact ⟨hx,h hp _ (ha.put (d:=some d) hn.fit v)⟩
 ·simp only [if_true]
  unfold Oper.wp
  rw [hrun _ ha.knows]
  show wpOrd P ops Q r (a.put o.dst v) w1
  rw [hn.dst]
  exact h hp _ (ha.put (d:=some d) hn.fit v)
theorem RW.stepM {i d:Nat} {o:Oper} {r:OT} {v:Value} {w1:World} (hn:Nx ops N E i o d) (hrun:∀ρ,Knows E ρ→(execOp ρ o).run P w=.ok (.value v) w1) (h:RW P N ops Q r ((d,v)::E) w1):RW P N ops Q (.one i .M r) E w:=fun hp a ha=>by
 refine ⟨o,hn.op,?_⟩
 rw [wantE_sound hn.want ha]
 simp only [if_true]
 unfold Oper.wp
 rw [hrun _ ha.knows]
 show wpOrd P ops Q r (a.put o.dst v) w1
 rw [hn.dst]
 exact h hp _ (ha.put (d:=some d) hn.fit v)
theorem RW.stepS {i:Nat} {o:Oper} {r:OT} {w1:World} (hn:Nx0 ops E i o) (hrun:∀ρ,Knows E ρ→(execOp ρ o).run P w=.ok .skip w1) (h:RW P N ops Q r E w1):RW P N ops Q (.one i .M r) E w:=fun hp a ha=>by
 refine ⟨o,hn.op,?_⟩
 rw [wantE_sound hn.want ha]
 simp only [if_true]
 unfold Oper.wp
 rw [hrun _ ha.knows]
 have:a.put o.dst undef=a:=by rw [hn.dst];rfl
 show wpOrd P ops Q r (a.put o.dst undef) w1
 rw [this]
 exact h hp _ ha
def Enters (P:Program) (f:FuncId):Prop:=∀args w,(callFunc f args).run P w=.ok (.enter f args) w
theorem Enters.mk {f:FuncId} {fn:Func} (hf:P.funcs[f]?=some fn) (hname:(fn.name== "runtime.NumGoroutine")=false) (hb:fn.body.isSome=true):Enters P f:=fun args w=>by
 have h1:fn.name≠ "runtime.NumGoroutine" :=by simpa using hname
 obtain ⟨c,hc⟩:=Option.isSome_iff_exists.1 hb
 simp [callFunc,hf,h1,hc]
theorem run_call {o:Oper} {cal:Operand} {as:Array Operand} {ts:Array TypeId} {f:FuncId} {first cap:Array Value} {args:List Value} {ρ:Operand→Value} (he:Enters P f) (hρ:Knows E ρ) (hop:o.op=.call ⟨.value cal,as,ts⟩) (hc:ev E cal=some (.func (.func f) first cap)) (ha:evs E as.toList=some args) (w:World):
 (execOp ρ o).run P w=.ok (.enter f (first++args.toArray++cap)) w:=by
 have e1:as.map ρ=args.toArray:=by rw [←hρ.map ha,←List.map_toArray,Array.toArray_toList]
 unfold execOp
 simp only [hop,resolve,e1,hρ cal _ hc,Deferred.ofValue,Sem.run_bind,Sem.run_pure,Result.andThen_ok,invoke]
 exact he _ w
theorem RW.call {i d:Nat} {o:Oper} {r:OT} {c:Cls} {cal:Operand} {as:Array Operand} {ts:Array TypeId} {f:FuncId} {first cap:Array Value} {args:List Value} {R:Ending→World→Prop} (hc:c=.X∨c=.M) (he:Enters P f) (hn:Nx ops N E i o d) (hop:o.op=.call ⟨.value cal,as,ts⟩)
 (hcal:ev E cal=some (.func (.func f) first cap)) (ha:evs E as.toList=some args) (hR:Calls P f (first++args.toArray++cap) w R)
 (h:∀e w',R e w'→∃v,e=.returned v∧Ext w w'∧RW P N ops Q r ((d,v)::E) w'):RW P N ops Q (.one i c r) E w:=fun hp a hsat=>by
 refine ⟨o,hn.op,?_⟩
 rw [wantE_sound hn.want hsat]
 have hrun:=run_call he hsat.knows hop hcal ha w
 rcases hc with rfl|rfl
 ·simp only [if_true]
  unfold Oper.wp
  rw [hrun,Oper.upon_enter]
  refine hR.mono fun e w' hh=>?_
  obtain ⟨v,rfl,hx,hk⟩:=h e w' hh
  show Ext w w'∧wpOrd P ops Q r (a.put o.dst v) w'
  rw [hn.dst]
  exact ⟨hx,hk hp _ (hsat.put (d:=some d) hn.fit v)⟩
 ·simp only [if_true]
  unfold Oper.wp
  rw [hrun,Oper.upon_enter]
  refine hR.mono fun e w' hh=>?_
  obtain ⟨v,rfl,hx,hk⟩:=h e w' hh
  show wpOrd P ops Q r (a.put o.dst v) w'
  rw [hn.dst]
  exact hk hp _ (hsat.put (d:=some d) hn.fit v)
theorem RW.callM {i d:Nat} {o:Oper} {r:OT} {cal:Operand} {as:Array Operand} {ts:Array TypeId} {f:FuncId} {first cap:Array Value} {args:List Value} {R:Ending→World→Prop} (he:Enters P f) (hn:Nx ops N E i o d) (hop:o.op=.call ⟨.value cal,as,ts⟩)
 (hcal:ev E cal=some (.func (.func f) first cap)) (ha:evs E as.toList=some args) (hR:Calls P f (first++args.toArray++cap) w R)
 (h:∀e w',R e w'→∃v,e=.returned v∧RW P N ops Q r ((d,v)::E) w'):RW P N ops Q (.one i .M r) E w:=fun hp a hsat=>by
 refine ⟨o,hn.op,?_⟩
 rw [wantE_sound hn.want hsat]
 have hrun:=run_call he hsat.knows hop hcal ha w
 simp only [if_true]
 unfold Oper.wp
 rw [hrun,Oper.upon_enter]
 refine hR.mono fun e w' hh=>?_
 obtain ⟨v,rfl,hk⟩:=h e w' hh
 show wpOrd P ops Q r (a.put o.dst v) w'
 rw [hn.dst]
 exact hk hp _ (hsat.put (d:=some d) hn.fit v)
theorem RW.tell {ord:OT} (t:Nat) {v v':Value} (hb:v=v') (ht:E.get t=some v) (h:RW P N ops Q ord ((t,v')::E) w):RW P N ops Q ord E w:=fun hp a ha=>by
 subst hb
 refine h hp a ⟨ha.defers,ha.size,fun t' u hu=>?_⟩
 rw [Env.get_cons] at hu
 split at hu
 ·rename_i e;subst e;cases hu;exact ha.get _ _ ht
 ·exact ha.get _ _ hu
theorem RW.shift {i d:Nat} {o:Oper} {r:OT} {op:BinOp} {T T2:TypeId} {x y:Operand} {k yk:IntKind} {a b:Int} {v:Int} (h0:0≤b) (hn:Nx ops N E i o d) (hop:o.op=.binOp op T x y T2) (hx:ev E x=some (.int k a)) (hy:ev E y=some (.int yk b)) (hv:(match op with|.shl=>some (k.wrap (a*2^min b.toNat k.bits))|.shr=>some (a.fdiv (2^min b.toNat k.bits))|_=>none)=some v)
 (h:RW P N ops Q r ((d,.int k v)::E) w):RW P N ops Q (.one i .W r) E w:=
 RW.stepW hn (fun ρ hρ w'=>by
  have hb:¬b<0:=by omega
  unfold execOp
  cases op <;>simp only at hv <;>try (cases hv;done)
  ·cases hv
   simp [hop,hρ x _ hx,hρ y _ hy,eqGuard,binOp,Op.shift,hb]
  ·cases hv
   simp [hop,hρ x _ hx,hρ y _ hy,eqGuard,binOp,Op.shift,hb]) h
theorem RW.div {i d:Nat} {o:Oper} {r:OT} {op:BinOp} {T T2:TypeId} {x y:Operand} {k:IntKind} {a b:Int} {v:Int} (h0:¬b=0) (hn:Nx ops N E i o d) (hop:o.op=.binOp op T x y T2) (hx:ev E x=some (.int k a)) (hy:ev E y=some (.int k b)) (hv:(match op with|.quo=>some (k.wrap (a.tdiv b))|.rem=>some (a.tmod b)|_=>none)=some v)
 (h:RW P N ops Q r ((d,.int k v)::E) w):RW P N ops Q (.one i .W r) E w:=
 RW.stepW hn (fun ρ hρ w'=>by
  unfold execOp
  cases op <;>simp only at hv <;>try (cases hv;done)
  ·cases hv
   simp [hop,hρ x _ hx,hρ y _ hy,eqGuard,binOp,Op.intDiv,h0]
  ·cases hv
   simp [hop,hρ x _ hx,hρ y _ hy,eqGuard,binOp,Op.intDiv,h0]) h
end
end Go.H
namespace Go.H
open Go.RowKit
section
variable {P:Program} {N:Nat} {Q:Exit→Act→World→Prop} {E:Env} {w:World} {ops:List Oper} {tab:Tab}
theorem run_loadVar {T:TypeId} {t:Ti} (hk:TiOk P T t) {w:World} {p:Addr} {cs:List Value} (hA:At w.heap p cs) (hl:cs.length=t.size):(loadVar T p).run P w=.ok (ofCells t.ti cs) w:=by
 have hc:∀j v,cs[j]?=some v→w.cell? (p.add j)=some v:=fun j v hv=>hA j v hv
 unfold loadVar
 rw [Sem.run_bind,hk.run_isAgg]
 simp only [Result.andThen_ok]
 cases ht:t.ti.agg with
 |true=>
  simp only [if_true,Sem.run_bind,hk.run_sizeOf,Result.andThen_ok]
  rw [←hl,run_loadCells_list w p cs hc]
  cases hti:t.ti <;>rw [hti] at ht <;>simp [TI.agg] at ht <;>rfl
 |false=>
  have h1:=hk.scal ht
  match cs,hl.trans h1 with
  |[v],_=>
   have:=hc 0 v rfl
   rw [add_zero] at this
   simp only [Bool.false_eq_true,if_false,run_load,this]
   cases hti:t.ti <;>rw [hti] at ht <;>simp [TI.agg] at ht <;>rfl
theorem run_loadOp (hT:TabOk P tab) {o:Oper} {T:TypeId} {x:Operand} {t:Ti} {p:Addr} {cs:List Value} (hop:o.op=.load T x) (hg:tab.get T=some t) (hx:ev E x=some (.pointer (some p))) (hl:cs.length=t.size) {ρ:Operand→Value} (hρ:Knows E ρ) {w':World} (hA:At w'.heap p cs):
 (execOp ρ o).run P w'=.ok (.value (ofCells t.ti cs)) w':=by
 unfold execOp
 simp only [hop,hρ x _ hx,Instr.loadAt,Instr.sureAddr,Sem.run_bind,Sem.run_pure,Result.andThen_ok,run_loadVar (hT.get hg) hA hl]
theorem RW.load {i d:Nat} {o:Oper} {r:OT} {T:TypeId} {x:Operand} {t:Ti} {p:Addr} (hT:TabOk P tab) (cs:List Value) (hA:At w.heap p cs) (hn:Nx ops N E i o d) (hop:o.op=.load T x) (hg:tab.get T=some t) (hx:ev E x=some (.pointer (some p))) (hl:cs.length=t.size)
 (h:RW P N ops Q r ((d,(ofCells t.ti cs))::E) w):RW P N ops Q (.one i .L r) E w:=
 RW.stepL hn (fun ρ hρ w' hx'=>run_loadOp hT hop hg hx hl hρ (hA.ext hx')) h
theorem run_indexOp (hT:TabOk P tab) {o:Oper} {T e:TypeId} {x ix:Operand} {t te:Ti} {ad:Addr} {n c:Nat} {k:IntKind} {j:Int} (hop:o.op=.indexAddr T x ix) (hg:tab.get T=some t) (hti:t.ti=.slice e) (hge:tab.get e=some te) (hx:ev E x=some (.slice (some ad) n c)) (hi:ev E ix=some (.int k j)) (h0:0≤j) (h1:j<n) {ρ:Operand→Value} (hρ:Knows E ρ) (w':World):
 (execOp ρ o).run P w'=.ok (.value (.pointer (some (ad.add (j.toNat*te.size))))) w':=by
 obtain ⟨d,hd,ho⟩:=(hT.get hg).desc
 rw [hti] at ho
 cases ho
 unfold execOp
 simp [hop,hρ x _ hx,hρ ix _ hi,Instr.indexAt,asIntOf,underlying,hd,h0,h1,(hT.get hge).run_sizeOf]
theorem RW.index {i d:Nat} {o:Oper} {r:OT} {T e:TypeId} {x ix:Operand} {t te:Ti} {ad:Addr} {n c:Nat} {k:IntKind} {j:Int} {A:Option Addr} (hT:TabOk P tab) (h0:0≤j) (h1:j<n) (hA:A=some ad) (hn:Nx ops N E i o d) (hop:o.op=.indexAddr T x ix) (hg:tab.get T=some t) (hti:t.ti=.slice e) (hge:tab.get e=some te) (hx:ev E x=some (.slice A n c)) (hi:ev E ix=some (.int k j))
 (h:RW P N ops Q r ((d,(.pointer (some (ad.add (j.toNat*te.size)))))::E) w):RW P N ops Q (.one i .W r) E w:=
 RW.stepW hn (fun ρ hρ w'=>run_indexOp hT hop hg hti hge (by rw [hx,hA]) hi h0 h1 hρ w') h
theorem box_new (w:World) (T:TypeId) (cs:List Value):Box (w.alloc (.cells cs.toArray T)).heap w.heap.size T cs:=heap_alloc_new w _
theorem RW.new {i d:Nat} {o:Oper} {r:OT} {T:TypeId} {cs:List Value} {c:Cls} {v:Nat→Value} (hc:c=.X∨c=.M) (hn:Nx ops N E i o d)
 (hrun:∀ρ,Knows E ρ→(execOp ρ o).run P w=.ok (.value (v w.heap.size)) (w.alloc (.cells cs.toArray T)))
 (h:∀b w',Ext w w'→w.heap.size≤b→Box w'.heap b T cs→RW P N ops Q r ((d,(v b))::E) w'):RW P N ops Q (.one i c r) E w:=
 RW.stepX hc hn hrun (Ext.alloc w _) (h _ _ (Ext.alloc w _) (Nat.le_refl _) (box_new w T cs))
theorem RW.box {i d:Nat} {o:Oper} {r:OT} {T:TypeId} {x:Operand} {cs:List Value} {u:Value} {c:Cls} (hc:c=.X∨c=.M) (hn:Nx ops N E i o d) (hop:o.op=.box T x) (hx:ev E x=some u) (hu:u.cells=cs.toArray)
 (h:∀b w',Ext w w'→w.heap.size≤b→Box w'.heap b T cs→RW P N ops Q r ((d,(.pointer (some ⟨b,0,none⟩)))::E) w'):RW P N ops Q (.one i c r) E w:=
 RW.new (v:=fun b=>.pointer (some ⟨b,0,none⟩)) hc hn (fun ρ hρ=>by
  unfold execOp
  simp [hop,hρ x _ hx,Instr.box,newVar,newRow,hu]) h
theorem ofCells_cells {T:TypeId} {t:Ti} (hk:TiOk P T t):(ofCells t.ti t.zero).cells=t.zero.toArray:=by
 have h1:=hk.one
 have h2:=hk.len
 have h3:=hk.scal
 cases hti:t.ti <;>try rfl
 all_goals
  rw [hti] at h3
  have h4:=h3 rfl
  rw [h4] at h2
  match hz:t.zero,h2 with
  |[v],_=>
   rw [hz] at h1
   simp only [List.all_cons,List.all_nil,Bool.and_true] at h1
   cases v <;>first|rfl|simp [Value.oneCell'] at h1
theorem RW.alloc {i d:Nat} {o:Oper} {r:OT} {T:TypeId} {t:Ti} {c:Cls} (hT:TabOk P tab) (hc:c=.X∨c=.M) (hn:Nx ops N E i o d) (hop:o.op=.alloc T) (hg:tab.get T=some t)
 (h:∀b w',Ext w w'→w.heap.size≤b→Box w'.heap b T t.zero→RW P N ops Q r ((d,(.pointer (some ⟨b,0,none⟩)))::E) w'):RW P N ops Q (.one i c r) E w:=
 RW.new (v:=fun b=>.pointer (some ⟨b,0,none⟩)) hc hn (fun ρ hρ=>by
  unfold execOp
  simp [hop,Instr.alloc,(hT.get hg).run_zero,newVar,newRow,ofCells_cells (hT.get hg)]) h
def rowPl (len size:Nat):List (Nat×Nat):=(List.range len).map fun i=>(i*size,size)
def rowZero (zero:List Value):Nat→List Value
 |0=>[]
 |n+1=>zero++rowZero zero n
theorem rowZero_eq (z:List Value):∀len:Nat,(List.range (len*z.length)).map (fun x=>(z.toArray)[x%z.toArray.size]!)=rowZero z len
 |0=>by simp [rowZero]
 |m+1=>by
  rw [show (m+1)*z.length=z.length+m*z.length by rw [Nat.add_mul];omega,List.range_add,List.map_append]
  show _=z++rowZero z m
  congr 1
  ·apply List.ext_getElem
   ·simp
   ·intro j h1 h2
    simp at h1
    have hj:=Nat.mod_eq_of_lt h1
    simp [hj,h1]
  ·rw [←rowZero_eq z m,List.map_map]
   apply List.map_congr_left
   intro j _
   simp [Function.comp,Nat.add_mod_left]
theorem RW.buildSlice {i d:Nat} {o:Oper} {r:OT} {T e:TypeId} {len:Nat} {parts:Array (Nat×Operand)} {t te:Ti} {ps:List (Nat×Value)} {cs:List Value} {c:Cls} (hT:TabOk P tab) (hc:c=.X∨c=.M) (hn:Nx ops N E i o d) (hop:o.op=.buildSlice T len parts) (hg:tab.get T=some t) (hti:t.ti=.slice e) (hge:tab.get e=some te) (hps:pairsEv E parts.toList=some ps) (hsm:Nat.ble (len*te.size) 1000=true) (hcs:layCells (rowPl len te.size) (rowZero te.zero len) ps=some cs)
 (h:∀b w',Ext w w'→w.heap.size≤b→Box w'.heap b e cs→RW P N ops Q r ((d,(.slice (some ⟨b,0,none⟩) len len))::E) w'):RW P N ops Q (.one i c r) E w:=
 RW.new (v:=fun b=>.slice (some ⟨b,0,none⟩) len len) hc hn (fun ρ hρ=>by
  have hke:=hT.get hge
  obtain ⟨d,hd,ho⟩:=(hT.get hg).desc
  rw [hti] at ho
  cases ho
  have hsm':=Nat.le_of_ble_eq_true hsm
  have e1:(parts.map fun (i,x)=>(i,ρ x)).toList=ps:=by rw [←hρ.pairs hps,Array.toList_map]
  have hz0:(Array.range (len*te.size)).map (fun x=>(te.zero.toArray)[x%te.zero.toArray.size]!)=(rowZero te.zero len).toArray:=by
   apply Array.ext'
   simp only [Array.toList_map,Array.toList_range]
   rw [←hke.len]
   exact rowZero_eq te.zero len
  have hfl:=fill_layCells (rowPl len te.size) (fun i=>some (i*te.size,te.size)) (fun i p hp=>by
   simp only [rowPl,List.getElem?_map] at hp
   cases hr:(List.range len)[i]? with
   |none=>rw [hr] at hp;cases hp
   |some q=>
    rw [hr] at hp
    simp only [Option.map_some,Option.some.injEq] at hp
    have:=(List.getElem?_eq_some_iff.1 hr).2
    simp at this
    rw [←hp,this]) ps _ cs hcs
  have hn2:¬(len*te.size>2^24):=by omega
  have hfl2:Instr.fill (fun i=>some (i*te.size,te.size)) ((Array.range (len*te.size)).map (fun x=>(te.zero.toArray)[x%te.zero.toArray.size]!)) ps=some cs.toArray:=by rw [hz0];exact hfl
  unfold execOp
  simp only [hop,Instr.buildSlice,Sem.run_bind,underlying,run_program,Result.andThen_ok,hd,Sem.run_pure,hke.run_sizeOf,if_neg hn2,e1]
  by_cases hz:len*te.size=0
  ·have hemp:(Array.range (len*te.size)).map (fun x=>(#[]:Array Value)[x%(#[]:Array Value).size]!)=(rowZero te.zero len).toArray:=by
    have hl0:len=0:=by
     rcases Nat.mul_eq_zero.1 hz with h|h
     ·exact h
     ·have:=hke.pos;omega
    subst hl0
    simp [rowZero]
   simp only [hz,if_true,Sem.run_pure,Result.andThen_ok] at hemp ⊢
   have hfl3:=hfl
   rw [←hemp] at hfl3
   rw [Sem.run_bind,Sem.run_pure,Result.andThen_ok,hfl3]
   rfl
  ·simp only [hz,if_false,Sem.run_bind,hke.run_zero,Result.andThen_ok,Sem.run_pure,ofCells_cells hke,hfl2]
   rfl) h
def lay (cs:List Value) (o:Nat):List Value→List Value
 |[]=>cs
 |u::r=>lay (cs.set o u) (o+1) r
theorem lay_length (us:List Value):∀(cs:List Value) (o:Nat),(lay cs o us).length=cs.length:=by
 induction us with
 |nil=>intro cs o;rfl
 |cons u r ih=>intro cs o;rw [lay,ih];simp
theorem lay_get (us:List Value):∀(cs:List Value) (o:Nat),o+us.length≤cs.length→∀j,(lay cs o us)[j]?=if o≤j∧j<o+us.length then us[j-o]? else cs[j]?:=by
 induction us with
 |nil=>intro cs o h j;simp only [lay,List.length_nil];rw [if_neg (by omega)]
 |cons u r ih=>
  intro cs o h j
  simp only [List.length_cons] at h
  rw [lay,ih _ _ (by simp;omega)]
  simp only [List.length_cons,List.getElem?_set,List.getElem?_cons]
  grind
theorem lay_eq (us cs:List Value) (o:Nat) (h:o+us.length≤cs.length):cs.take o++us++cs.drop (o+us.length)=lay cs o us:=by
 apply List.ext_getElem?
 intro j
 rw [lay_get us cs o h,List.append_assoc,List.getElem?_append,List.getElem?_append,List.length_take,List.getElem?_take,List.getElem?_drop]
 by_cases h1:j<o
 ·rw [if_pos (by omega),if_pos h1,if_neg (by omega)]
 ·rw [if_neg (by omega)]
  have e:min o cs.length=o:=by omega
  rw [e]
  by_cases h2:j<o+us.length
  ·rw [if_pos (by omega),if_pos ⟨by omega,h2⟩]
  ·rw [if_neg (by omega),if_neg (by omega)]
   congr 1
   omega
theorem setRow_upd {w:World} {b:Nat} {cur cs:Array Value} {T:TypeId} (hb:w.heap[b]?=some (.cells cur T (0,0))):Upd (fun i _=>i=b) w (w.setRow b cs)∧(w.setRow b cs).heap[b]?=some (.cells cs T (0,0)):=
 ⟨⟨rfl,rfl,rfl,by simp,fun i _ hi=>setRow_other w b i cs hi⟩,setRow_heap w b cur cs T _ hb⟩
theorem run_storeBlock {T0:TypeId} {t0:Ti} (hk:TiOk P T0 t0) {w:World} {b o:Nat} {cur:Array Value} {T:TypeId} (hb:w.heap[b]?=some (.cells cur T (0,0))) {v:Value} {us:List Value} (hu:v.cells=us.toArray) (hl:us.length=t0.size) (h1:∀u∈us,u.oneCell'=true) (hfit:o+us.length≤cur.size):
 (storeVar T0 ⟨b,o,none⟩ v).run P w=.ok () (w.setRow b (lay cur.toList o us).toArray):=by
 have h:=run_storeCells_at P b o T us 0 cur w hb (by omega) h1
 simp only [Nat.add_zero] at h
 rw [lay_eq us cur.toList o (by simpa using hfit)] at h
 unfold storeVar
 simp only [hu,List.size_toArray,Sem.run_bind,hk.run_sizeOf,Result.andThen_ok,hl]
 simp [h]
theorem RW.storeBox {i:Nat} {o:Oper} {r:OT} {T0 T:TypeId} {x y:Operand} {t0:Ti} {b off:Nat} {cs:List Value} {v:Value} (hT:TabOk P tab) (hb:Box w.heap b T cs) (us:List Value) (hn:Nx0 ops E i o) (hop:o.op=.store T0 x y) (hg:tab.get T0=some t0) (hx:ev E x=some (.pointer (some ⟨b,off,none⟩))) (hy:ev E y=some v) (hu:v.cells=us.toArray) (hl:us.length=t0.size) (h1:us.all Value.oneCell'=true) (hfit:Nat.ble (off+us.length) cs.length=true)
 (h:∀w',Upd (fun j _=>j=b) w w'→Box w'.heap b T (lay cs off us)→RW P N ops Q r E w'):RW P N ops Q (.one i .M r) E w:=by
 have hs:=setRow_upd (w:=w) (b:=b) (cs:=(lay cs off us).toArray) hb
 refine RW.stepS hn (fun ρ hρ=>?_) (h _ hs.1 hs.2)
 have:=run_storeBlock (hT.get hg) (o:=off) hb hu hl (fun u hh=>List.all_eq_true.1 h1 u hh) (by simpa using Nat.le_of_ble_eq_true hfit)
 unfold execOp
 simp only [hop,hρ x _ hx,hρ y _ hy,Instr.storeAt,Instr.sureAddr,Sem.run_bind,Sem.run_pure,Result.andThen_ok]
 rw [show (lay cs off us).toArray=(lay cs.toArray.toList off us).toArray by simp,this]
 rfl
theorem calls_enter {f:FuncId} {fn:Func} {c:Code} {R:Ending→World→Prop} (hf:P.funcs[f]?=some fn) (hb:fn.body=some c) (n:Nat) (hn:fn.ntmps=n) (args:List Value) (hle:Nat.ble args.length n=true) (E:Env) (hE:∀t v,Env.get E t=some v→args[t]?=some v)
 (h:CW P n c (bodyPost P fn R) E w):Calls P f args.toArray w R:=by
 subst hn
 have hle':=Nat.le_of_ble_eq_true hle
 refine calls_of_wp hf hb (h PS.body _ ⟨rfl,by simp;omega,fun t v hv=>?_⟩)
 have:=hE t v hv
 have hlt:=(List.getElem?_eq_some_iff.1 this).1
 simp only
 rw [Array.getElem?_append_left (by simpa using hlt)]
 simpa using this
def argEnv:List Value→Nat→Env
 |[],_=>[]
 |v::r,k=>(k,v)::argEnv r (k+1)
theorem argEnv_get:∀(args:List Value) (k t:Nat) (v:Value),Env.get (argEnv args k) t=some v→∃j,t=k+j∧args[j]?=some v
 |[],k,t,v,h=>by simp [argEnv,Env.get] at h
 |u::r,k,t,v,h=>by
  unfold argEnv at h
  rw [Env.get_cons] at h
  split at h
  ·rename_i e;exact ⟨0,e.symm,h⟩
  ·obtain ⟨j,hj,hv⟩:=argEnv_get r (k+1) t v h
   exact ⟨j+1,by omega,hv⟩
theorem calls_start {f:FuncId} {fn:Func} {c:Code} {R:Ending→World→Prop} (hf:P.funcs[f]?=some fn) (hb:fn.body=some c) (n:Nat) (hn:fn.ntmps=n) (args:List Value) (hle:Nat.ble args.length n=true)
 (h:CW P n c (bodyPost P fn R) (argEnv args 0) w):Calls P f args.toArray w R:=
 calls_enter hf hb n hn args hle (argEnv args 0) (fun t v hv=>by obtain ⟨j,hj,hh⟩:=argEnv_get args 0 t v hv;rw [Nat.zero_add] at hj;subst hj;exact hh) h
def resOne (P:Program) (E:Env) (h:Heap):ResultVar→Value→Prop
 |.tmp t,v=>E.get t=some v
 |.cell a T,v=>∃p t cs,E.get a=some (.pointer (some p))∧TiOk P T t∧At h p cs∧cs.length=t.size∧v=ofCells t.ti cs
theorem resOne_cell {T a:Nat} {t:Ti} {p:Addr} {cs:List Value} {h:Heap} (hT:TabOk P tab) (hA:At h p cs) (hp:E.get a=some (.pointer (some p))) (hg:tab.get T=some t) (hl:cs.length=t.size):resOne P E h (.cell a T) (ofCells t.ti cs):=⟨p,t,cs,hp,hT.get hg,hA,hl,rfl⟩
def resSem (tmps:Array Value):ResultVar→Sem Value
 |.tmp t=>pure (tmps.getD t undef)
 |.cell a T=>do loadVar T (←asAddr (tmps.getD a undef))
theorem results_eq (fn:Func) (tmps:Array Value):results fn tmps=(do let vs←fn.results.mapM (resSem tmps);pure (if h:vs.size=1 then vs[0] else .tuple vs)):=by
 unfold results
 congr 1
theorem run_resOne {rv:ResultVar} {v:Value} (h:resOne P E w.heap rv v) {a:Act} (ha:Sat N E a):(resSem a.tmps rv).run P w=.ok v w:=by
 cases rv with
 |tmp t=>
  have:=ha.get t v h
  simp [resSem,this]
 |cell b T=>
  obtain ⟨p,t,cs,hb,hk,hA,hl,rfl⟩:=h
  have:=ha.get b _ hb
  simp [resSem,this,asAddr,run_loadVar hk hA hl]
theorem NW.ret0 {fn:Func} {R:Ending→World→Prop} (hr:fn.results=#[]) (h:R (.returned (.tuple #[])) w):NW N .ret (bodyPost P fn R) E w:=fun _ a ha=>⟨ha.defers,_,by simp [results,hr],h⟩
theorem NW.ret1 {fn:Func} {R:Ending→World→Prop} {r1:ResultVar} {v1:Value} (hr:fn.results=#[r1]) (h1:resOne P E w.heap r1 v1) (h:R (.returned v1) w):NW N .ret (bodyPost P fn R) E w:=fun _ a ha=>by
 refine ⟨ha.defers,v1,?_,h⟩
 have e1:=run_resOne h1 ha
 rw [results_eq]
 simp only [hr,List.mapM_toArray,List.mapM_cons,List.mapM_nil,Sem.run_bind,Sem.run_map]
 rw [e1]
 simp
theorem NW.ret2 {fn:Func} {R:Ending→World→Prop} {r1 r2:ResultVar} {v1 v2:Value} (hr:fn.results=#[r1,r2]) (h1:resOne P E w.heap r1 v1) (h2:resOne P E w.heap r2 v2) (h:R (.returned (.tuple #[v1,v2])) w):NW N .ret (bodyPost P fn R) E w:=fun _ a ha=>by
 refine ⟨ha.defers,_,?_,h⟩
 have e1:=run_resOne h1 ha
 have e2:=run_resOne h2 ha
 rw [results_eq]
 simp only [hr,List.mapM_toArray,List.mapM_cons,List.mapM_nil,Sem.run_bind,Sem.run_map]
 rw [e1]
 simp only [Result.andThen_ok]
 rw [e2]
 simp
theorem NW.ret3 {fn:Func} {R:Ending→World→Prop} {r1 r2 r3:ResultVar} {v1 v2 v3:Value} (hr:fn.results=#[r1,r2,r3]) (h1:resOne P E w.heap r1 v1) (h2:resOne P E w.heap r2 v2) (h3:resOne P E w.heap r3 v3) (h:R (.returned (.tuple #[v1,v2,v3])) w):NW N .ret (bodyPost P fn R) E w:=fun _ a ha=>by
 refine ⟨ha.defers,_,?_,h⟩
 have e1:=run_resOne h1 ha
 have e2:=run_resOne h2 ha
 have e3:=run_resOne h3 ha
 rw [results_eq]
 simp only [hr,List.mapM_toArray,List.mapM_cons,List.mapM_nil,Sem.run_bind,Sem.run_map]
 rw [e1]
 simp only [Result.andThen_ok]
 rw [e2]
 simp only [Result.andThen_ok]
 rw [e3]
 simp
end
end Go.H
namespace Go.H
open Go.RowKit
structure Kd (α:Type) where
 sz:Nat
 pos:0<sz
 rep:Heap→Fp→List Value→α→Prop
 len:∀{h ok cs x},rep h ok cs x→cs.length=sz
 one:∀{h ok cs x},rep h ok cs x→∀c∈cs,c.oneCell'=true
 upd:∀{h h':Heap} {ok cs x},rep h ok cs x→(∀b,b<h.size→ok b (ty h b)→h'[b]?=h[b]?)→rep h' ok cs x
 mono:∀{h:Heap} {ok ok':Fp} {cs x},rep h ok cs x→(∀b,b<h.size→ok b (ty h b)→ok' b (ty h b))→rep h ok' cs x
def Sl {α:Type} (d:Kd α) (h:Heap) (ok:Fp) (A:Option Addr) (xs:List α):Prop:=
 ∀i x,xs[i]?=some x→∃ad cs,A=some ad∧ad.block<h.size∧ok ad.block (ty h ad.block)∧d.rep h ok cs x∧At h (ad.add (i*d.sz)) cs
def Ch {α:Type} (d:Kd α) (h:Heap) (ok:Fp) (fl:List Value) (xs:List α):Prop:=
 fl.length=xs.length*d.sz∧∀i x,xs[i]?=some x→∃cs,d.rep h ok cs x∧∀j u,cs[j]?=some u→fl[i*d.sz+j]?=some u
def off1 (ok:Fp) (b:Nat):Fp:=fun b' t=>ok b' t∧b'≠b
def orS (S S':Fp):Fp:=fun b t=>S b t∨S' b t
def Ow {α:Type} (d:Kd α) (T:TypeId) (h:Heap) (ok oi:Fp) (A:Option Addr) (c:Nat) (xs:List α):Prop:=
 (xs=[]∧c=0)∨∃b cur fl,A=some ⟨b,0,none⟩∧xs.length≤c∧c≤maxLen∧ok b (some T)∧h[b]?=some (.cells cur T (0,0))∧cur.size=c*d.sz∧cur.toList.take (xs.length*d.sz)=fl∧Ch d h (off1 oi b) fl xs
section
variable {α:Type} {d:Kd α} {h h':Heap} {ok ok':Fp} {A:Option Addr} {xs:List α}
theorem Sl.upd (k:Sl d h ok A xs) (hu:∀b,b<h.size→ok b (ty h b)→h'[b]?=h[b]?):Sl d h' ok A xs:=fun i x hx=>by
 obtain ⟨ad,cs,rfl,hlt,hok,hr,hA⟩:=k i x hx
 have e:=hu _ hlt hok
 refine ⟨ad,cs,rfl,?_,by rw [ty_of_get e];exact hok,d.upd hr hu,hA.keep (by rw [add_block];exact e)⟩
 rcases Nat.lt_or_ge ad.block h'.size with hh|hh
 ·exact hh
 ·rw [Array.getElem?_eq_none hh,Array.getElem?_eq_getElem hlt] at e;cases e
theorem Sl.mono (k:Sl d h ok A xs) (hm:∀b,b<h.size→ok b (ty h b)→ok' b (ty h b)):Sl d h ok' A xs:=fun i x hx=>by
 obtain ⟨ad,cs,rfl,hlt,hok,hr,hA⟩:=k i x hx
 exact ⟨ad,cs,rfl,hlt,hm _ hlt hok,d.mono hr hm,hA⟩
theorem Sl.ext {w w':World} (k:Sl d w.heap ok A xs) (hx:Ext w w'):Sl d w'.heap ok A xs:=k.upd fun b hb _=>hx.get hb
theorem Sl.turn {w w':World} {S:Fp} (k:Sl d w.heap ok A xs) (hx:Upd S w w') (hd:∀b t,ok b t→S b t→False):Sl d w'.heap ok A xs:=k.upd fun b hb ho=>hx.keep b hb (fun hs=>hd _ _ ho hs)
theorem Sl.nil:Sl d h ok A ([]:List α):=fun i x hx=>by simp at hx
theorem Kd.ext {w w':World} {cs:List Value} {x:α} (k:d.rep w.heap ok cs x) (hx:Ext w w'):d.rep w'.heap ok cs x:=d.upd k fun b hb _=>hx.get hb
theorem Kd.turn {w w':World} {S:Fp} {cs:List Value} {x:α} (k:d.rep w.heap ok cs x) (hx:Upd S w w') (hd:∀b t,ok b t→S b t→False):d.rep w'.heap ok cs x:=d.upd k fun b hb ho=>hx.keep b hb (fun hs=>hd _ _ ho hs)
theorem Sl.at_ (k:Sl d h ok A xs) {i:Int} (h0:0≤i) (h1:i<xs.length) (z:α):∃ad cs,A=some ad∧d.rep h ok cs (xs.getD i.toNat z)∧At h (ad.add (i.toNat*d.sz)) cs:=by
 have hlt:i.toNat<xs.length:=by omega
 obtain ⟨ad,cs,e,_,_,hr,hA⟩:=k i.toNat _ (List.getElem?_eq_getElem hlt)
 refine ⟨ad,cs,e,?_,hA⟩
 rw [List.getD_eq_getElem?_getD,List.getElem?_eq_getElem hlt]
 exact hr
def Kd.scalar (f:α→Value) (h1:∀x,(f x).oneCell'=true):Kd α where
 sz:=1
 pos:=by omega
 rep:=fun _ _ cs x=>cs=[f x]
 len:=fun e=>by subst e;rfl
 one:=fun e c hc=>by subst e;simp at hc;subst hc;exact h1 _
 upd:=fun e _=>e
 mono:=fun e _=>e
def Kd.int (k:IntKind):Kd Int:=.scalar (.int k) fun _=>rfl
def Kd.bool:Kd Bool:=.scalar .bool fun _=>rfl
def Kd.pair {β:Type} (a:Kd α) (b:Kd β):Kd (α×β) where
 sz:=a.sz+b.sz
 pos:=by have:=a.pos;omega
 rep:=fun h ok cs x=>∃u v,cs=u++v∧a.rep h ok u x.1∧b.rep h ok v x.2
 len:=fun ⟨u,v,e,hu,hv⟩=>by subst e;rw [List.length_append,a.len hu,b.len hv]
 one:=fun ⟨u,v,e,hu,hv⟩ c hc=>by
  subst e
  rcases List.mem_append.1 hc with h|h
  ·exact a.one hu c h
  ·exact b.one hv c h
 upd:=fun ⟨u,v,e,hu,hv⟩ hh=>⟨u,v,e,a.upd hu hh,b.upd hv hh⟩
 mono:=fun ⟨u,v,e,hu,hv⟩ hh=>⟨u,v,e,a.mono hu hh,b.mono hv hh⟩
def Kd.iso {β:Type} (a:Kd α) (f:β→α):Kd β where
 sz:=a.sz
 pos:=a.pos
 rep:=fun h ok cs x=>a.rep h ok cs (f x)
 len:=fun e=>a.len e
 one:=fun e=>a.one e
 upd:=fun e hh=>a.upd e hh
 mono:=fun e hh=>a.mono e hh
def Kd.sl (a:Kd α):Kd (List α) where
 sz:=1
 pos:=by omega
 rep:=fun h ok cs xs=>∃A c,cs=[.slice A xs.length c]∧xs.length≤c∧Sl a h ok A xs
 len:=fun ⟨A,c,e,_⟩=>by subst e;rfl
 one:=fun ⟨A,c,e,_⟩ x hc=>by subst e;simp at hc;subst hc;rfl
 upd:=fun ⟨A,c,e,hl,hs⟩ hh=>⟨A,c,e,hl,hs.upd hh⟩
 mono:=fun ⟨A,c,e,hl,hs⟩ hh=>⟨A,c,e,hl,hs.mono hh⟩
theorem Ch.upd {fl:List Value} (k:Ch d h ok fl xs) (hu:∀b,b<h.size→ok b (ty h b)→h'[b]?=h[b]?):Ch d h' ok fl xs:=⟨k.1,fun i x hx=>by
 obtain ⟨cs,hr,hc⟩:=k.2 i x hx
 exact ⟨cs,d.upd hr hu,hc⟩⟩
theorem Ch.mono {fl:List Value} (k:Ch d h ok fl xs) (hm:∀b,b<h.size→ok b (ty h b)→ok' b (ty h b)):Ch d h ok' fl xs:=⟨k.1,fun i x hx=>by
 obtain ⟨cs,hr,hc⟩:=k.2 i x hx
 exact ⟨cs,d.mono hr hm,hc⟩⟩
theorem ty_cells {b:Nat} {cur:Array Value} {T:TypeId} {fr:Nat×Nat} (e:h[b]?=some (.cells cur T fr)):ty h b=some T:=by unfold ty;rw [e]
theorem lt_cells {b:Nat} {o:Obj} (e:h[b]?=some o):b<h.size:=(Array.getElem?_eq_some_iff.1 e).1
variable {T:TypeId} {c:Nat}
theorem Ow.upd {oi:Fp} (k:Ow d T h ok oi A c xs) (hu:∀b,b<h.size→ok b (ty h b)→h'[b]?=h[b]?) (hi:∀b,b<h.size→oi b (ty h b)→h'[b]?=h[b]?):Ow d T h' ok oi A c xs:=by
 rcases k with k|⟨b,cur,fl,rfl,h1,h2,h3,h4,h5,h6,h7⟩
 ·exact .inl k
 ·exact .inr ⟨b,cur,fl,rfl,h1,h2,h3,(hu b (lt_cells h4) (by rw [ty_cells h4];exact h3)).trans h4,h5,h6,h7.upd fun b' hb ho=>hi b' hb ho.1⟩
theorem Ow.mono {oi oi':Fp} (k:Ow d T h ok oi A c xs) (hm:∀b,b<h.size→ok b (ty h b)→ok' b (ty h b)) (hi:∀b,b<h.size→oi b (ty h b)→oi' b (ty h b)):Ow d T h ok' oi' A c xs:=by
 rcases k with k|⟨b,cur,fl,rfl,h1,h2,h3,h4,h5,h6,h7⟩
 ·exact .inl k
 ·exact .inr ⟨b,cur,fl,rfl,h1,h2,by have:=hm b (lt_cells h4) (by rw [ty_cells h4];exact h3);rwa [ty_cells h4] at this,h4,h5,h6,h7.mono fun b' hb ho=>⟨hi b' hb ho.1,ho.2⟩⟩
variable {oi:Fp}
theorem Ow.ext {w w':World} (k:Ow d T w.heap ok oi A c xs) (hx:Ext w w'):Ow d T w'.heap ok oi A c xs:=k.upd (fun b hb _=>hx.get hb) fun b hb _=>hx.get hb
theorem Ow.turn {w w':World} {S:Fp} (k:Ow d T w.heap ok oi A c xs) (hx:Upd S w w') (hd:∀b t,ok b t→S b t→False) (hi:∀b t,oi b t→S b t→False):Ow d T w'.heap ok oi A c xs:=k.upd (fun b hb ho=>hx.keep b hb (fun hs=>hd _ _ ho hs)) fun b hb ho=>hx.keep b hb (fun hs=>hi _ _ ho hs)
theorem Ow.len (k:Ow d T h ok oi A c xs):xs.length≤c:=by
 rcases k with ⟨rfl,rfl⟩|⟨b,cur,fl,rfl,h1,_⟩
 ·simp
 ·exact h1
theorem Ow.nil:Ow d T h ok oi A 0 ([]:List α):=.inl ⟨rfl,rfl⟩
theorem cellH_block {b o:Nat} {cur:Array Value} {T:TypeId} {fr:Nat×Nat} (e:h[b]?=some (.cells cur T fr)):cellH h ⟨b,o,none⟩=cur[o]?:=by unfold cellH;rw [e];rfl
theorem add_lit0 (b j:Nat):(⟨b,0,none⟩:Addr).add j=⟨b,j,none⟩:=by unfold Addr.add;split <;>simp_all
theorem Ow.sl (k:Ow d T h ok oi A c xs):Sl d h (orS ok oi) A xs:=by
 rcases k with ⟨rfl,rfl⟩|⟨b,cur,fl,rfl,h1,h2,h3,h4,h5,h6,h7⟩
 ·exact Sl.nil
 ·intro i x hx
  obtain ⟨cs,hr,hc⟩:=h7.2 i x hx
  refine ⟨_,cs,rfl,lt_cells h4,by rw [ty_cells h4];exact .inl h3,d.mono hr fun b' _ ho=>.inr ho.1,fun j u hu=>?_⟩
  rw [add_lit0]
  have e:((⟨b,i*d.sz,none⟩:Addr).add j)=⟨b,i*d.sz+j,none⟩:=by unfold Addr.add;split <;>simp_all
  rw [e,cellH_block h4]
  have:=hc j u hu
  rw [←h6,List.getElem?_take] at this
  split at this
  ·simpa using this
  ·cases this
def Kd.ow (a:Kd α) (T:TypeId):Kd (List α) where
 sz:=1
 pos:=by omega
 rep:=fun h ok cs xs=>∃A c,cs=[.slice A xs.length c]∧Ow a T h ok ok A c xs
 len:=fun ⟨A,c,e,_⟩=>by subst e;rfl
 one:=fun ⟨A,c,e,_⟩ x hc=>by subst e;simp at hc;subst hc;rfl
 upd:=fun ⟨A,c,e,hs⟩ hh=>⟨A,c,e,hs.upd hh hh⟩
 mono:=fun ⟨A,c,e,hs⟩ hh=>⟨A,c,e,hs.mono hh hh⟩
theorem Ow.of_box {b:Nat} {cs:List Value} (hb:Box h b T cs) (hok:ok b (some T)) (hlen:xs.length≤maxLen) (hch:Ch d h (off1 oi b) cs xs):Ow d T h ok oi (some ⟨b,0,none⟩) xs.length xs:=
 .inr ⟨b,cs.toArray,cs,rfl,Nat.le_refl _,hlen,hok,hb,by simp [hch.1],by simp [←hch.1],hch⟩
theorem Ch.nil:Ch d h ok [] ([]:List α):=⟨by simp,fun i x hx=>by simp at hx⟩
theorem Ch.cons {x:α} {cs fl:List Value} (hr:d.rep h ok cs x) (k:Ch d h ok fl xs):Ch d h ok (cs++fl) (x::xs):=by
 have hl:=d.len hr
 refine ⟨by rw [List.length_append,List.length_cons,k.1,hl,Nat.add_mul];omega,fun i y hy=>?_⟩
 cases i with
 |zero=>
  simp only [List.getElem?_cons_zero,Option.some.injEq] at hy
  subst hy
  refine ⟨cs,hr,fun j u hu=>?_⟩
  have:=(List.getElem?_eq_some_iff.1 hu).1
  rw [Nat.zero_mul,Nat.zero_add,List.getElem?_append_left this]
  exact hu
 |succ i=>
  obtain ⟨cs',hr',hc'⟩:=k.2 i y (by simpa using hy)
  refine ⟨cs',hr',fun j u hu=>?_⟩
  rw [List.getElem?_append_right (by rw [Nat.add_mul];omega)]
  have e:(i+1)*d.sz+j-cs.length=i*d.sz+j:=by rw [hl,Nat.add_mul];omega
  rw [e]
  exact hc' j u hu
theorem Ch.append {ys:List α} {fl gl:List Value} (k:Ch d h ok fl xs) (k2:Ch d h ok gl ys):Ch d h ok (fl++gl) (xs++ys):=by
 refine ⟨by rw [List.length_append,List.length_append,k.1,k2.1,Nat.add_mul],fun i x hx=>?_⟩
 rcases Nat.lt_or_ge i xs.length with hi|hi
 ·rw [List.getElem?_append_left hi] at hx
  obtain ⟨cs,hr,hc⟩:=k.2 i x hx
  refine ⟨cs,hr,fun j u hu=>?_⟩
  have hj:=(List.getElem?_eq_some_iff.1 (hc j u hu)).1
  rw [List.getElem?_append_left hj]
  exact hc j u hu
 ·rw [List.getElem?_append_right hi] at hx
  obtain ⟨cs,hr,hc⟩:=k2.2 _ x hx
  refine ⟨cs,hr,fun j u hu=>?_⟩
  have e:i*d.sz=xs.length*d.sz+(i-xs.length)*d.sz:=by rw [←Nat.add_mul];congr 1;omega
  rw [List.getElem?_append_right (by rw [k.1,e];omega)]
  have e2:i*d.sz+j-fl.length=(i-xs.length)*d.sz+j:=by rw [k.1,e];omega
  rw [e2]
  exact hc j u hu
theorem Ch.set {fl cs:List Value} {i:Nat} {y:α} (k:Ch d h ok fl xs) (hi:i<xs.length) (hr:d.rep h ok cs y):Ch d h ok (lay fl (i*d.sz) cs) (xs.set i y):=by
 have hl:=d.len hr
 have hfit:i*d.sz+cs.length≤fl.length:=by
  rw [k.1,hl,←Nat.succ_mul]
  exact Nat.mul_le_mul_right _ hi
 refine ⟨by rw [lay_length,List.length_set];exact k.1,fun m x hx=>?_⟩
 by_cases e:i=m
 ·subst e
  rw [List.getElem?_set_self hi] at hx
  cases hx
  refine ⟨cs,hr,fun j u hu=>?_⟩
  have hj:=(List.getElem?_eq_some_iff.1 hu).1
  rw [lay_get _ _ _ hfit,if_pos ⟨by omega,by omega⟩]
  rw [show i*d.sz+j-i*d.sz=j by omega]
  exact hu
 ·rw [List.getElem?_set_ne e] at hx
  obtain ⟨cs',hr',hc'⟩:=k.2 m x hx
  refine ⟨cs',hr',fun j u hu=>?_⟩
  have hj:=(List.getElem?_eq_some_iff.1 hu).1
  rw [d.len hr'] at hj
  rw [lay_get _ _ _ hfit,if_neg]
  ·exact hc' j u hu
  ·rintro ⟨h1,h2⟩
   rw [hl] at h2
   rcases Nat.lt_or_gt_of_ne e with h3|h3
   ·have:=Nat.mul_le_mul_right d.sz h3
    rw [Nat.succ_mul] at this
    omega
   ·have:=Nat.mul_le_mul_right d.sz h3
    rw [Nat.succ_mul] at this
    omega
end
end Go.H
namespace Go.H
open Go.RowKit
def ownS (A:Option Addr) (c:Nat):Fp:=fun b _=>0<c∧∃ad,A=some ad∧ad.block=b
def newS (n:Nat) (T:TypeId):Fp:=fun b t=>n≤b∧t=some T
section
variable {P:Program} {tab:Tab}
theorem run_append_none (w:World) (t ty e:TypeId) (i:TypeInfo) (ht:P.underlying t=some (.slice e)) (hi:P.info? e=some i) (A B:Option Addr) (n c cB:Nat) (hn:n≤c):
 (Builtin.append_ #[t,t] ty #[.slice A n c,.slice B 0 cB]).run P w=.ok (.slice A n c) w:=by
 cases A <;>cases B <;>simp [Builtin.append_,run_underlying ht,sizeOf,typeInfo,hi,Builtin.lenOf,Builtin.firstCells,loadCells,loadCellsFrom,storeCells,hn]
theorem Ch.one {α:Type} {d:Kd α} {h:Heap} {ok:Fp} {ycs:List Value} {ys:List α} (hys:Ch d h ok ycs ys):∀u∈ycs,u.oneCell'=true:=by
 intro u hu
 obtain ⟨j,hj⟩:=List.getElem?_of_mem hu
 have hjl:=(List.getElem?_eq_some_iff.1 hj).1
 rw [hys.1] at hjl
 have hp:=d.pos
 have hdm:=Nat.div_add_mod j d.sz
 have hq:j/d.sz<ys.length:=Nat.div_lt_of_lt_mul (by rw [Nat.mul_comm];exact hjl)
 obtain ⟨cs,hr,hc⟩:=hys.2 (j/d.sz) _ (List.getElem?_eq_getElem hq)
 have hm:=Nat.mod_lt j hp
 have hcl:j%d.sz<cs.length:=by rw [d.len hr];exact hm
 have:=hc (j%d.sz) _ (List.getElem?_eq_getElem hcl)
 rw [Nat.mul_comm,hdm,hj] at this
 cases this
 exact d.one hr _ (List.getElem_mem hcl)
theorem run_append_ow {α:Type} {d:Kd α} (hT:TabOk P tab) {T e ty:TypeId} {t te:Ti} (hg:tab.get T=some t) (hti:t.ti=.slice e) (hge:tab.get e=some te) (hd:d.sz=te.size)
 {w:World} {ok oi oky:Fp} {A:Option Addr} {c:Nat} {xs ys:List α} (hO:Ow d e w.heap ok oi A c xs) {B:Option Addr} {cB:Nat} {ycs:List Value} (hB:0<ys.length→∃ad,B=some ad∧At w.heap ad ycs) (hys:Ch d w.heap oky ycs ys)
 (hap:∀b,b<w.heap.size→oky b (Go.H.ty w.heap b)→ownS A c b none→False) (h63:xs.length+ys.length≤maxLen) (hby:(xs.length+ys.length)*te.bytes≤140737488355328):
 ∃A' c' w',(Builtin.append_ #[T,T] ty #[.slice A xs.length c,.slice B ys.length cB]).run P w=.ok (.slice A' (xs.length+ys.length) c') w'∧
  Upd (ownS A c) w w'∧Ow d e w'.heap (orS ok (newS w.heap.size e)) (orS oi oky) A' c' (xs++ys):=by
 have hke:=hT.get hge
 obtain ⟨dT,hdT,hoT⟩:=(hT.get hg).desc
 rw [hti] at hoT
 cases hoT
 obtain ⟨i,hi,hs,hb,hz⟩:=hke.info
 have hzs:(ofCells te.ti te.zero).cells.size=te.size:=by rw [ofCells_cells hke];simp [hke.len]
 have hone:=hys.one
 have hyl:ycs.length=ys.length*i.size:=by rw [hs,←hd];exact hys.1
 have h63':((xs.length+ys.length:Nat):Int)≤9223372036854775807:=by simp only [maxLen] at h63;omega
 rcases Nat.eq_zero_or_pos ys.length with hy0|hypos
 ·obtain rfl:ys=[]:=List.eq_nil_of_length_eq_zero hy0
  refine ⟨A,c,w,run_append_none w T ty e i hdT hi A B _ c cB hO.len,Upd.refl _ w,?_⟩
  rw [List.append_nil]
  exact hO.mono (fun b _ ho=>.inl ho) fun b _ ho=>.inl ho
 ·obtain ⟨ad,rfl,hAd⟩:=hB hypos
  have hnews:∀j u,ycs[j]?=some u→w.cell? (ad.add j)=some u:=fun j u hu=>hAd j u hu
  -- the row is made anew
  have made:∀(c0:Nat) (fl:List Value),Ch d w.heap oi fl xs→
   Ow d e (w.drew.alloc (.cells (fl.toArray++ycs.toArray++Builtin.zeroCells (ofCells te.ti te.zero).cells (grownCap w (xs.length+ys.length) c0 e-(xs.length+ys.length))) e)).heap (orS ok (newS w.heap.size e)) (orS oi oky) (some ⟨w.heap.size,0,none⟩) (grownCap w (xs.length+ys.length) c0 e) (xs++ys):=by
   intro c0 fl hfl
   have hfll:fl.length=xs.length*i.size:=by rw [hs,←hd];exact hfl.1
   have hge':=grownCap_ge w (xs.length+ys.length) c0 e
   have hcm:grownCap w (xs.length+ys.length) c0 e≤maxLen:=grownCap_le_maxLen w _ c0 e h63
   refine .inr ⟨w.heap.size,_,_,rfl,by rw [List.length_append];exact hge',hcm,.inr ⟨Nat.le_refl _,rfl⟩,heap_alloc_new w.drew _,?_,rfl,?_⟩
   ·simp only [Array.size_append,List.size_toArray,size_zeroCells,hzs,hfll,hyl,hs,hd,←Nat.add_mul]
    congr 1
    omega
   ·have hx1:=hfl.mono (ok':=off1 (orS oi oky) w.heap.size) fun b hb ho=>⟨.inl ho,by omega⟩
    have hy1:=hys.mono (ok':=off1 (orS oi oky) w.heap.size) fun b hb ho=>⟨.inr ho,by omega⟩
    have hall:=hx1.append hy1
    have hlen:(fl++ycs).length=(xs++ys).length*d.sz:=hall.1
    have htake:((fl.toArray++ycs.toArray++Builtin.zeroCells (ofCells te.ti te.zero).cells (grownCap w (xs.length+ys.length) c0 e-(xs.length+ys.length))).toList.take ((xs++ys).length*d.sz))=fl++ycs:=by
     simp only [Array.toList_append,List.append_assoc]
     rw [←List.append_assoc,←hlen]
     exact List.take_left
    rw [htake]
    exact hall.upd fun b hb _=>(Ext.trans (Ext.drew w) (Ext.alloc w.drew _)).get hb
  have grow:∀(base:Addr) (c0:Nat) (fl:List Value),Ch d w.heap oi fl xs→(∀j u,fl[j]?=some u→w.cell? (base.add j)=some u)→c0<xs.length+ys.length→
   ∃c' w',(Builtin.append_ #[T,T] ty #[.slice (some base) xs.length c0,.slice (some ad) ys.length cB]).run P w=.ok (.slice (some ⟨w.heap.size,0,none⟩) (xs.length+ys.length) c') w'∧
    Ext w w'∧Ow d e w'.heap (orS ok (newS w.heap.size e)) (orS oi oky) (some ⟨w.heap.size,0,none⟩) c' (xs++ys):=by
   intro base c0 fl hfl hold hlt
   have hfll:fl.length=xs.length*i.size:=by rw [hs,←hd];exact hfl.1
   have hr:=run_append_grow (P:=P) w T ty e i (ofCells te.ti te.zero) hdT hi hz base xs.length c0 fl hfll hold ad ys.length cB ycs hyl hnews hlt h63' (growslice_fits hlt (by rw [hb];exact hby))
   exact ⟨_,_,hr,Ext.trans (Ext.drew w) (Ext.alloc w.drew _),made c0 fl hfl⟩
  rcases hO with ⟨rfl,rfl⟩|⟨b,cur,fl,rfl,h1,h2,h3,h4,h5,h6,h7⟩
  ·cases A with
   |none=>
    have hr:=run_append_nil (P:=P) w T ty e i (ofCells te.ti te.zero) hdT hi hz ad ys.length cB ycs hyl hnews hypos (by simpa using h63') (by rw [hb];simpa using (show ys.length*te.bytes≤281474976710656 by have:=hby;simp only [List.length_nil,Nat.zero_add] at this;omega))
    have hm:=made 0 [] Ch.nil
    simp only [List.length_nil,Nat.zero_add,List.nil_append,Array.empty_append] at hm ⊢
    exact ⟨_,_,_,hr,Ext.upd (Ext.trans (Ext.drew w) (Ext.alloc w.drew _)),hm⟩
   |some base=>
    obtain ⟨c',w',hr,hx,ho⟩:=grow base 0 [] Ch.nil (fun j u hu=>by simp at hu) (by simpa using hypos)
    exact ⟨_,c',w',hr,hx.upd,ho⟩
  ·have hold:∀j u,fl[j]?=some u→w.cell? ((⟨b,0,none⟩:Addr).add j)=some u:=fun j u hu=>by
    rw [add_lit0,cell_H,cellH_block h4]
    rw [←h6,List.getElem?_take] at hu
    split at hu
    ·simpa using hu
    ·cases hu
   have hbl:=lt_cells h4
   by_cases hroom:xs.length+ys.length≤c
   ·have hfll:fl.length=xs.length*d.sz:=h7.1
    have hfit:xs.length*i.size+ycs.length≤cur.size:=by
     rw [hyl,hs,h5,←hd,←Nat.add_mul]
     exact Nat.mul_le_mul_right _ hroom
    have hr:=run_append_room (P:=P) w T ty e i hdT hi b xs.length c cur h4 ad ys.length cB ycs hyl hnews hone hroom hfit
    have hcpos:0<c:=by omega
    refine ⟨_,_,_,hr,⟨rfl,rfl,rfl,by simp,fun k _ hk=>setRow_other w b k _ (fun e=>hk ⟨hcpos,_,rfl,e.symm⟩)⟩,.inr ⟨b,_,fl++ycs,rfl,by rw [List.length_append];exact hroom,h2,.inl h3,setRow_heap w b cur _ e _ h4,?_,?_,?_⟩⟩
    ·simp only [List.size_toArray,List.length_append,List.length_take,List.length_drop,Array.length_toList]
     omega
    ·rw [hs,←hd,h6]
     simp only [List.length_append,Nat.add_mul]
     rw [show xs.length*d.sz+ys.length*d.sz=(fl++ycs).length by rw [List.length_append,hfll,hys.1]]
     exact List.take_left
    ·have hx1:=h7.mono (ok':=off1 (orS oi oky) b) fun b' _ ho=>⟨.inl ho.1,ho.2⟩
     have hy1:=hys.mono (ok':=off1 (orS oi oky) b) fun b' hb' ho=>⟨.inr ho,fun eb=>hap b' hb' ho ⟨hcpos,_,rfl,eb.symm⟩⟩
     exact (hx1.append hy1).upd fun b' _ ho=>setRow_other w b b' _ ho.2
   ·obtain ⟨c',w',hr,hx,ho⟩:=grow ⟨b,0,none⟩ c fl (h7.mono fun b' _ ho=>ho.1) hold (by omega)
    exact ⟨_,c',w',hr,hx.upd,ho⟩
variable {N:Nat} {Q:Exit→Act→World→Prop} {E:Env} {w:World} {ops:List Oper} {α:Type} {d:Kd α}
theorem run_builtin2 {o:Oper} {b:Builtin} {x y:Operand} {T1 T2:TypeId} {u v:Value} {ρ:Operand→Value} (hρ:Knows E ρ) (hop:o.op=.call ⟨.builtin b,#[x,y],#[T1,T2]⟩) (hx:ev E x=some u) (hy:ev E y=some v):∃cs,execOp ρ o=builtin b #[T1,T2] o.type cs #[u,v]:=by
 refine ⟨#[x,y].map (fun|.const _=>true|_=>false),?_⟩
 unfold execOp
 simp only [hop,resolve,List.map_toArray,List.map_cons,List.map_nil,hρ x _ hx,hρ y _ hy]
 rfl
theorem RW.append {i dd:Nat} {o:Oper} {r:OT} {T e:TypeId} {t te:Ti} {x y:Operand} {ok oi oky:Fp} {A B:Option Addr} {c cB n:Nat} {xs ys:List α} {ycs:List Value} (hT:TabOk P tab) (hO:Ow d e w.heap ok oi A c xs) (hys:Ch d w.heap oky ycs ys) (hB:0<ys.length→∃ad,B=some ad∧At w.heap ad ycs)
 (hap:∀b,b<w.heap.size→oky b (Go.H.ty w.heap b)→ownS A c b none→False) (h63:xs.length+ys.length≤maxLen) (hby:(xs.length+ys.length)*te.bytes≤140737488355328)
 (hn:Nx ops N E i o dd) (hop:o.op=.call ⟨.builtin .append,#[x,y],#[T,T]⟩) (hg:tab.get T=some t) (hti:t.ti=.slice e) (hge:tab.get e=some te) (hd:d.sz=te.size) (hx:ev E x=some (.slice A xs.length c)) (hy:ev E y=some (.slice B n cB)) (hlen:n=ys.length)
 (h:∀A' c' w',Upd (ownS A c) w w'→Ow d e w'.heap (orS ok (newS w.heap.size e)) (orS oi oky) A' c' (xs++ys)→RW P N ops Q r ((dd,(.slice A' (xs++ys).length c'))::E) w'):RW P N ops Q (.one i .M r) E w:=by
 subst hlen
 obtain ⟨A',c',w',hr,hu,ho⟩:=run_append_ow (ty:=o.type) hT hg hti hge hd hO (B:=B) (cB:=cB) hB hys hap h63 hby
 refine RW.stepM hn (fun ρ hρ=>?_) (h A' c' w' hu ho)
 obtain ⟨cs,hcs⟩:=run_builtin2 (b:=.append) hρ hop hx hy
 rw [hcs]
 unfold builtin
 simp only [Sem.run_bind,hr,Result.andThen_ok,List.length_append]
 rfl
theorem Ow.storeAt {e:TypeId} {h:Heap} {ok oi:Fp} {A:Option Addr} {c:Nat} {xs:List α} (hO:Ow d e h ok oi A c xs) {j:Nat} (hj:j<xs.length):∃b cur fl,A=some ⟨b,0,none⟩∧0<c∧c≤maxLen∧xs.length≤c∧ok b (some e)∧h[b]?=some (.cells cur e (0,0))∧cur.size=c*d.sz∧cur.toList.take (xs.length*d.sz)=fl∧Ch d h (off1 oi b) fl xs:=by
 rcases hO with ⟨rfl,rfl⟩|⟨b,cur,fl,rfl,h1,h2,h3,h4,h5,h6,h7⟩
 ·simp at hj
 ·exact ⟨b,cur,fl,rfl,by omega,h2,h1,h3,h4,h5,h6,h7⟩
theorem lay_take:∀(us cs:List Value) (o n:Nat),o+us.length≤n→(lay cs o us).take n=lay (cs.take n) o us
 |[],cs,o,n,_=>rfl
 |u::r,cs,o,n,h=>by
  simp only [List.length_cons] at h
  rw [lay,lay,lay_take r _ _ _ (by omega),List.take_set]
theorem lay_lay:∀(us cs vs:List Value) (o k:Nat),k+vs.length≤us.length→o+us.length≤cs.length→lay (lay cs o us) (o+k) vs=lay cs o (lay us k vs):=by
 intro us cs vs o k h1 h2
 apply List.ext_getElem?
 intro j
 rw [lay_get vs _ _ (by rw [lay_length];omega),lay_get us cs o h2,lay_get (lay us k vs) cs o (by rw [lay_length];exact h2),lay_length]
 by_cases h3:o≤j∧j<o+us.length
 ·rw [if_pos h3,if_pos h3,lay_get vs us k h1]
  by_cases h4:o+k≤j∧j<o+k+vs.length
  ·rw [if_pos h4,if_pos (by omega)]
   congr 1
   omega
  ·rw [if_neg h4,if_neg (by omega)]
 ·rw [if_neg (by omega),if_neg h3,if_neg h3]
theorem RW.storeEl {i:Nat} {o:Oper} {r:OT} {T0 e:TypeId} {t0:Ti} {x z:Operand} {ok oi okv:Fp} {A:Option Addr} {ad:Addr} {c:Nat} {xs:List α} {j k:Nat} {v:Value} {y:α} (hT:TabOk P tab) (hO:Ow d e w.heap ok oi A c xs) (hj:j<xs.length) (z0:α) (us:List Value)
 (hy:∀cs ok',d.rep w.heap ok' cs (xs.getD j z0)→k+us.length≤cs.length∧d.rep w.heap (orS ok' okv) (lay cs k us) y) (hap:∀b,b<w.heap.size→okv b (Go.H.ty w.heap b)→ownS A c b none→False)
 (hn:Nx0 ops E i o) (hop:o.op=.store T0 x z) (hg:tab.get T0=some t0) (hA:A=some ad) (hx:ev E x=some (.pointer (some (addA (ad.add (j*d.sz)) k)))) (hz:ev E z=some v) (hu:v.cells=us.toArray) (hl:us.length=t0.size) (h1:us.all Value.oneCell'=true)
 (h:∀w',Upd (ownS A c) w w'→Ow d e w'.heap ok (orS oi okv) A c (xs.set j y)→RW P N ops Q r E w'):RW P N ops Q (.one i .M r) E w:=by
 obtain ⟨b,cur,fl,hA',hc,hcm,hxc,hok,hb,hcs,hfl,hch⟩:=hO.storeAt hj
 have hA2:=hA
 rw [hA'] at hA2
 cases hA2
 subst hA'
 obtain ⟨cs,hr,hcc⟩:=hch.2 j _ (List.getElem?_eq_getElem hj)
 have hgd:xs.getD j z0=xs[j]:=by rw [List.getD_eq_getElem?_getD,List.getElem?_eq_getElem hj];rfl
 obtain ⟨hk,hry⟩:=hy cs _ (by rw [hgd];exact hr)
 have hcl:=d.len hr
 have hfll:fl.length=xs.length*d.sz:=hch.1
 have hin:j*d.sz+d.sz≤xs.length*d.sz:=by rw [←Nat.succ_mul];exact Nat.mul_le_mul_right _ hj
 have hin2:xs.length*d.sz≤c*d.sz:=Nat.mul_le_mul_right _ hxc
 have hp:addA ((⟨b,0,none⟩:Addr).add (j*d.sz)) k=⟨b,j*d.sz+k,none⟩:=by rw [addA_eq,add_add,add_lit0]
 have hfit:j*d.sz+k+us.length≤cur.size:=by rw [hcs];omega
 have hs:=setRow_upd (w:=w) (b:=b) (cs:=(lay cur.toList (j*d.sz+k) us).toArray) hb
 have hupd:Upd (ownS (some ⟨b,0,none⟩) c) w (w.setRow b (lay cur.toList (j*d.sz+k) us).toArray):=hs.1.mono fun i' _ e'=>⟨hc,_,rfl,by simpa using e'.symm⟩
 refine RW.stepS hn (fun ρ hρ=>?_) (h _ hupd (.inr ⟨b,_,lay fl (j*d.sz+k) us,rfl,by rw [List.length_set];exact hxc,hcm,hok,hs.2,by simp [lay_length,hcs],?_,?_⟩))
 ·have:=run_storeBlock (hT.get hg) (o:=j*d.sz+k) hb hu hl (fun u hh=>List.all_eq_true.1 h1 u hh) hfit
  unfold execOp
  simp only [hop,hρ x _ hx,hρ z _ hz,Instr.storeAt,Instr.sureAddr,Sem.run_bind,Sem.run_pure,Result.andThen_ok,hp,this]
 ·rw [List.length_set,←hfl]
  simp only [List.toList_toArray]
  exact lay_take us _ _ _ (by omega)
 ·have hel:lay fl (j*d.sz+k) us=lay fl (j*d.sz) (lay cs k us):=by
   rw [←lay_lay cs fl us (j*d.sz) k hk (by omega)]
   congr 1
   apply List.ext_getElem?
   intro m
   rw [lay_get cs fl _ (by omega)]
   split
   ·rename_i hm
    have hm2:m-j*d.sz<cs.length:=by omega
    have:=hcc (m-j*d.sz) _ (List.getElem?_eq_getElem hm2)
    rw [show j*d.sz+(m-j*d.sz)=m by omega] at this
    rw [this,List.getElem?_eq_getElem hm2]
   ·rfl
  rw [hel]
  have hx1:=hch.mono (ok':=off1 (orS oi okv) b) fun b' _ ho=>⟨.inl ho.1,ho.2⟩
  have hr1:d.rep w.heap (off1 (orS oi okv) b) (lay cs k us) y:=by
   exact d.mono hry fun b' hb' ho=>by
    rcases ho with ho|ho
    ·exact ⟨.inl ho.1,ho.2⟩
    ·exact ⟨.inr ho,fun eb=>hap _ hb' ho ⟨hc,_,rfl,eb.symm⟩⟩
  exact (hx1.set hj hr1).upd fun b' _ ho=>setRow_other w b b' _ ho.2
end
end Go.H
namespace Go.H
open Go.RowKit
theorem bind_some {α β:Type} {o:Option α} {f:α→Option β} {r:β} (h:o.bind f=some r):∃x,o=some x∧f x=some r:=by
 cases o with
 |none=>cases h
 |some x=>exact ⟨x,rfl,h⟩
theorem guard_some {α:Type} {p:Prop} [Decidable p] {x:Option α} {r:α} (h:(if p then x else none)=some r):p∧x=some r:=by
 by_cases c:p
 ·rw [if_pos c] at h;exact ⟨c,h⟩
 ·rw [if_neg c] at h;cases h
theorem beq_t {a b:Int} (h:a=b):(a==b)=true:=beq_iff_eq.2 h
theorem beq_f {a b:Int} (h:¬a=b):(a==b)=false:=beq_eq_false_iff_ne.2 h
theorem bne_f {a b:Int} (h:a=b):(a !=b)=false:=by simp [h]
theorem bne_t {a b:Int} (h:¬a=b):(a !=b)=true:=by simp [h]
theorem bool_f {b:Bool} (h:¬b=true):b=false:=by simpa using h
abbrev Seg3:=Nat×Option Nat×Option TypeId
def inS (p:Seg3) (b:Nat) (t:Option TypeId):Prop:=p.1≤b∧(match p.2.1 with|some h=>b<h|none=>True)∧(match p.2.2 with|some T=>t=some T|none=>True)
def okL:List Seg3→Fp
 |[]=>fun _ _=>False
 |p::r=>fun b t=>inS p b t∨okL r b t
def okAll:Fp:=fun _ _=>True
def oldS (n:Nat):Seg3:=(0,some n,none)
def newF (lo:Nat) (T:TypeId):Seg3:=(lo,none,some T)
section
variable {α:Type} {d:Kd α} {h:Heap} {A:Option Addr} {c:Nat} {xs:List α} {T:TypeId} {ok ok' oi:Fp}
theorem Sl.old (k:Sl d h ok A xs) (n:Nat) (hn:n=h.size):Sl d h (okL [oldS n]) A xs:=k.mono fun b hb _=>.inl ⟨Nat.zero_le _,by subst hn;exact hb,trivial⟩
theorem Sl.all (k:Sl d h ok A xs):Sl d h okAll A xs:=k.mono fun _ _ _=>trivial
theorem Ow.all (k:Ow d T h ok oi A c xs):Sl d h okAll A xs:=k.sl.all
def rowS (ok:Fp) (T:TypeId):Fp:=fun b t=>ok b t∧t=some T
theorem Ow.upd_sub {w w':World} (k:Ow d T w.heap ok oi A c xs) (hu:Upd (ownS A c) w w'):Upd (rowS ok T) w w':=hu.mono fun b hb hs=>by
 rcases k with ⟨rfl,rfl⟩|⟨b',cur,fl,rfl,h1,h2,h3,h4,_⟩
 ·exact absurd hs.1 (by omega)
 ·obtain ⟨_,ad,e,rfl⟩:=hs
  cases e
  rw [ty_cells h4]
  exact ⟨h3,rfl⟩
theorem Ow.own_ok {w:World} (k:Ow d T w.heap ok oi A c xs) {b:Nat} (hs:ownS A c b none):ok b (some T)∧ty w.heap b=some T:=by
 rcases k with ⟨rfl,rfl⟩|⟨b',cur,fl,rfl,h1,h2,h3,h4,_⟩
 ·exact absurd hs.1 (by omega)
 ·obtain ⟨_,ad,e,rfl⟩:=hs
  cases e
  exact ⟨h3,ty_cells h4⟩
end
def cov (q p:Seg3):Prop:=q.1≤p.1∧(match q.2.1,p.2.1 with|none,_=>True|some h',some h=>h≤h'|some _,none=>False)∧(match q.2.2,p.2.2 with|none,_=>True|some a,some b=>b=a|some _,none=>False)
def cov1 (p:Seg3):List Seg3→Prop
 |[]=>False
 |q::r=>cov q p∨cov1 p r
def subL:List Seg3→List Seg3→Prop
 |[],_=>True
 |p::r,l=>cov1 p l∧subL r l
theorem inS_cov {q p:Seg3} (h:cov q p) {b:Nat} {t:Option TypeId} (k:inS p b t):inS q b t:=by
 obtain ⟨q1,q2,q3⟩:=q
 obtain ⟨p1,p2,p3⟩:=p
 obtain ⟨h1,h2,h3⟩:=h
 obtain ⟨k1,k2,k3⟩:=k
 simp only at h1 h2 h3 k1 k2 k3
 refine ⟨Nat.le_trans h1 k1,?_,?_⟩
 ·cases q2 <;>cases p2 <;>simp_all
  omega
 ·cases q3 <;>cases p3 <;>simp_all
theorem okL_cov1 {p:Seg3} {b:Nat} {t:Option TypeId} (k:inS p b t):∀{l:List Seg3},cov1 p l→okL l b t
 |[],h=>h.elim
 |q::r,h=>by
  rcases h with h|h
  ·exact .inl (inS_cov h k)
  ·exact .inr (okL_cov1 k h)
theorem okL_sub {b:Nat} {t:Option TypeId}:∀{l l':List Seg3},subL l l'→okL l b t→okL l' b t
 |[],_,_,k=>k.elim
 |p::r,l',h,k=>by
  rcases k with k|k
  ·exact okL_cov1 k h.1
  ·exact okL_sub h.2 k
theorem okL_append {l l':List Seg3} {b:Nat} {t:Option TypeId}:okL (l++l') b t↔okL l b t∨okL l' b t:=by
 induction l with
 |nil=>simp [okL]
 |cons p r ih=>simp only [List.cons_append,okL,ih,or_assoc]
def disj (T:TypeId) (p q:Seg3):Prop:=(match p.2.2 with|some T'=>T'≠T|none=>False)∨(match p.2.1 with|some h=>h≤q.1|none=>False)∨(match q.2.1 with|some h=>h≤p.1|none=>False)
def oneD (T:TypeId) (p:Seg3):List Seg3→Prop
 |[]=>True
 |q::r=>disj T p q∧oneD T p r
def allD (T:TypeId):List Seg3→List Seg3→Prop
 |[],_=>True
 |p::r,l=>oneD T p l∧allD T r l
theorem disj_no {T:TypeId} {p q:Seg3} {b:Nat} (h:disj T p q) (k:inS p b (some T)) (k2:inS q b (some T)):False:=by
 obtain ⟨q1,q2,q3⟩:=q
 obtain ⟨p1,p2,p3⟩:=p
 obtain ⟨h1,h2,h3⟩:=k
 obtain ⟨k1,k2,k3⟩:=k2
 simp only at h1 h2 h3 k1 k2 k3
 rcases h with h|h|h <;>simp only at h
 ·cases p3 with
  |none=>exact h
  |some T'=>simp only [Option.some.injEq] at h3;exact h h3.symm
 ·cases p2 with
  |none=>exact h
  |some x=>simp only at h h2;omega
 ·cases q2 with
  |none=>exact h
  |some x=>simp only at h k2;omega
theorem oneD_no {T:TypeId} {p:Seg3} {b:Nat} (k:inS p b (some T)):∀{l:List Seg3},oneD T p l→okL l b (some T)→False
 |[],_,h=>h
 |q::r,hd,h=>by
  rcases h with h|h
  ·exact disj_no hd.1 k h
  ·exact oneD_no k hd.2 h
theorem dis_of {T:TypeId}:∀{l l':List Seg3},allD T l l'→∀b t,okL l b t→rowS (okL l') T b t→False
 |[],_,_,_,_,h,_=>h
 |p::r,l',hd,b,t,h,k=>by
  obtain ⟨k,rfl⟩:=k
  rcases h with h|h
  ·exact oneD_no h hd.1 k
  ·exact dis_of hd.2 b _ h ⟨k,rfl⟩
def newL (n:Nat):List Seg3→Prop
 |[]=>True
 |p::r=>n≤p.1∧newL n r
theorem newL_le {n:Nat} {b:Nat} {t:Option TypeId}:∀{l:List Seg3},newL n l→okL l b t→n≤b
 |[],_,h=>h.elim
 |p::r,hn,h=>by
  rcases h with h|h
  ·exact Nat.le_trans hn.1 h.1
  ·exact newL_le hn.2 h
theorem Ext.turn {T:TypeId} {l:List Seg3} {a b c:World} (h:Ext a b) (k:Upd (rowS (okL l) T) b c) (hn:newL a.heap.size l):Ext a c:=Ext.of_new h k fun i hi hs=>by have:=newL_le hn hs.1;omega
theorem Ext.turnB {n:Nat} {a b c:World} (h:Ext a b) (k:Upd (fun j _=>j=n) b c) (hn:a.heap.size≤n):Ext a c:=Ext.of_new h k fun i hi hs=>by omega
def notIn (n:Nat) (T:TypeId):List Seg3→Prop
 |[]=>True
 |p::r=>((match p.2.2 with|some T'=>T'≠T|none=>False)∨n<p.1∨(match p.2.1 with|some h=>h≤n|none=>False))∧notIn n T r
theorem notIn_no {n:Nat} {T:TypeId}:∀{l:List Seg3},notIn n T l→okL l n (some T)→False
 |[],_,h=>h
 |p::r,hn,h=>by
  rcases h with h|h
  ·obtain ⟨p1,p2,p3⟩:=p
   obtain ⟨h1,h2,h3⟩:=h
   simp only at h1 h2 h3
   rcases hn.1 with hh|hh|hh <;>simp only at hh
   ·cases p3 with
    |none=>exact hh
    |some T'=>simp only [Option.some.injEq] at h3;exact hh h3.symm
   ·omega
   ·cases p2 with
    |none=>exact hh
    |some x=>simp only at hh h2;omega
  ·exact notIn_no hn.2 h
section
variable {α:Type} {d:Kd α} {A:Option Addr} {c:Nat} {xs:List α} {T:TypeId} {l l' li li':List Seg3} {w w':World}
theorem Sl.turnL (k:Sl d w.heap (okL l) A xs) (hx:Upd (rowS (okL l') T) w w') (hd:allD T l l'):Sl d w'.heap (okL l) A xs:=k.turn hx (dis_of hd)
theorem Ow.turnL {T2:TypeId} (k:Ow d T2 w.heap (okL l) (okL li) A c xs) (hx:Upd (rowS (okL l') T) w w') (hd:allD T l l') (hi:allD T li l'):Ow d T2 w'.heap (okL l) (okL li) A c xs:=k.turn hx (dis_of hd) (dis_of hi)
theorem Sl.turnB {n:Nat} {cs:List Value} (k:Sl d w.heap (okL l) A xs) (hx:Upd (fun j _=>j=n) w w') (hb:Box w.heap n T cs) (hn:notIn n T l):Sl d w'.heap (okL l) A xs:=k.upd fun b hb' ho=>hx.keep b hb' (fun e=>by subst e;rw [hb.ty] at ho;exact notIn_no hn ho)
theorem Ow.turnB {T2:TypeId} {n:Nat} {cs:List Value} (k:Ow d T2 w.heap (okL l) (okL li) A c xs) (hx:Upd (fun j _=>j=n) w w') (hb:Box w.heap n T cs) (hn:notIn n T l) (hi:notIn n T li):Ow d T2 w'.heap (okL l) (okL li) A c xs:=
 k.upd (fun b hb' ho=>hx.keep b hb' (fun e=>by subst e;rw [hb.ty] at ho;exact notIn_no hn ho)) fun b hb' ho=>hx.keep b hb' (fun e=>by subst e;rw [hb.ty] at ho;exact notIn_no hi ho)
theorem Box.turnB {n m:Nat} {T2:TypeId} {cs:List Value} (k:Box w.heap m T2 cs) (hx:Upd (fun j _=>j=n) w w') (hne:m≠n):Box w'.heap m T2 cs:=k.upd hx hne
theorem Box.turnL {m:Nat} {T2:TypeId} {cs:List Value} (k:Box w.heap m T2 cs) (hx:Upd (rowS (okL l') T) w w') (hd:T2≠T∨allD T [(m,some (m+1),some T2)] l'):Box w'.heap m T2 cs:=k.upd hx (by
 rintro ⟨ho,e⟩
 rcases hd with hd|hd
 ·cases e;exact hd rfl
 ·exact dis_of hd m (some T2) (.inl ⟨Nat.le_refl _,Nat.lt_succ_self _,rfl⟩) ⟨ho,e⟩)
theorem Sl.sub (k:Sl d w.heap (okL l) A xs) (h:subL l l'):Sl d w.heap (okL l') A xs:=k.mono fun _ _ ho=>okL_sub h ho
theorem Ow.sub (k:Ow d T w.heap (okL l) (okL li) A c xs) (h:subL l l') (hi:subL li li'):Ow d T w.heap (okL l') (okL li') A c xs:=k.mono (fun _ _ ho=>okL_sub h ho) fun _ _ ho=>okL_sub hi ho
def closeS (n:Nat):List Seg3→List Seg3
 |[]=>[]
 |(lo,hi,T)::r=>(lo,(match hi with|some h=>some h|none=>some n),T)::closeS n r
theorem closeS_ok {n b:Nat} {t:Option TypeId} (hb:b<n):∀{l:List Seg3},okL l b t→okL (closeS n l) b t
 |[],h=>h
 |(lo,hi,T)::r,h=>by
  rcases h with h|h
  ·refine .inl ⟨h.1,?_,h.2.2⟩
   cases hi with
   |none=>exact hb
   |some x=>exact h.2.1
  ·exact .inr (closeS_ok hb h)
theorem Sl.close (k:Sl d w.heap (okL l) A xs):Sl d w.heap (okL (closeS w.heap.size l)) A xs:=k.mono fun _ hb ho=>closeS_ok hb ho
theorem Ow.close (k:Ow d T w.heap (okL l) (okL li) A c xs):Ow d T w.heap (okL (closeS w.heap.size l)) (okL (closeS w.heap.size li)) A c xs:=k.mono (fun _ hb ho=>closeS_ok hb ho) fun _ hb ho=>closeS_ok hb ho
theorem Ow.slL (k:Ow d T w.heap (okL l) (okL li) A c xs):Sl d w.heap (okL (l++li)) A xs:=k.sl.mono fun _ _ ho=>okL_append.2 ho
variable {P:Program} {tab:Tab} {N:Nat} {Q:Exit→Act→World→Prop} {E:Env} {ops:List Oper}
theorem RW.appendL {i dd:Nat} {o:Oper} {r:OT} {T e:TypeId} {t te:Ti} {x y:Operand} {l li ly:List Seg3} {A B:Option Addr} {c cB n:Nat} {xs ys:List α} {ycs:List Value} (hT:TabOk P tab) (hO:Ow d e w.heap (okL l) (okL li) A c xs) (hys:Ch d w.heap (okL ly) ycs ys) (hB:0<ys.length→∃ad,B=some ad∧At w.heap ad ycs)
 (hap:allD e ly l) (h63:xs.length+ys.length≤maxLen) (hby:(xs.length+ys.length)*te.bytes≤140737488355328)
 (hn:Nx ops N E i o dd) (hop:o.op=.call ⟨.builtin .append,#[x,y],#[T,T]⟩) (hg:tab.get T=some t) (hti:t.ti=.slice e) (hge:tab.get e=some te) (hd:d.sz=te.size) (hx:ev E x=some (.slice A xs.length c)) (hy:ev E y=some (.slice B n cB)) (hlen:n=ys.length)
 (h:∀A' c' w',Upd (rowS (okL l) e) w w'→Ow d e w'.heap (okL (l++[newF w.heap.size e])) (okL (li++ly)) A' c' (xs++ys)→RW P N ops Q r ((dd,.slice A' (xs++ys).length c')::E) w'):RW P N ops Q (.one i .M r) E w:=
 RW.append hT hO hys hB (fun b hb ho hs=>by obtain ⟨h1,h2⟩:=hO.own_ok hs;rw [h2] at ho;exact dis_of hap b _ ho ⟨h1,rfl⟩) h63 hby hn hop hg hti hge hd hx hy hlen fun A' c' w' hu ho=>h A' c' w' (hO.upd_sub hu) (ho.mono (fun b hb hh=>by
  rcases hh with hh|hh
  ·exact okL_append.2 (.inl hh)
  ·exact okL_append.2 (.inr (.inl ⟨hh.1,trivial,hh.2⟩))) fun b hb hh=>okL_append.2 hh)
theorem RW.append1L {i dd:Nat} {o:Oper} {r:OT} {T e:TypeId} {t te:Ti} {x y:Operand} {l li ly:List Seg3} {A:Option Addr} {c b:Nat} {xs:List α} {v:α} {ycs:List Value} (hT:TabOk P tab) (hO:Ow d e w.heap (okL l) (okL li) A c xs) (hb:Box w.heap b e ycs) (hv:d.rep w.heap (okL ly) ycs v)
 (hap:allD e ly l) (h63:xs.length+1≤maxLen) (hby:(xs.length+1)*te.bytes≤140737488355328)
 (hn:Nx ops N E i o dd) (hop:o.op=.call ⟨.builtin .append,#[x,y],#[T,T]⟩) (hg:tab.get T=some t) (hti:t.ti=.slice e) (hge:tab.get e=some te) (hd:d.sz=te.size) (hx:ev E x=some (.slice A xs.length c)) (hy:ev E y=some (.slice (some ⟨b,0,none⟩) 1 1))
 (h:∀A' c' w',Upd (rowS (okL l) e) w w'→Ow d e w'.heap (okL (l++[newF w.heap.size e])) (okL (li++ly)) A' c' (xs++[v])→RW P N ops Q r ((dd,.slice A' (xs++[v]).length c')::E) w'):RW P N ops Q (.one i .M r) E w:=by
 have hc:Ch d w.heap (okL ly) (ycs++[]) [v]:=Ch.cons hv Ch.nil
 rw [List.append_nil] at hc
 exact RW.appendL hT hO hc (fun _=>⟨_,rfl,by have:=hb.at 0;simpa using this⟩) hap h63 hby hn hop hg hti hge hd hx hy rfl h
theorem RW.storeElL {i:Nat} {o:Oper} {r:OT} {T0 e:TypeId} {t0:Ti} {x z:Operand} {l li lv:List Seg3} {A:Option Addr} {ad:Addr} {c:Nat} {xs:List α} {j k:Nat} {v:Value} {y:α} (hT:TabOk P tab) (hO:Ow d e w.heap (okL l) (okL li) A c xs) (hj:j<xs.length) (z0:α) (us:List Value)
 (hy:∀cs ok',d.rep w.heap ok' cs (xs.getD j z0)→k+us.length≤cs.length∧d.rep w.heap (orS ok' (okL lv)) (lay cs k us) y) (hap:allD e lv l)
 (hn:Nx0 ops E i o) (hop:o.op=.store T0 x z) (hg:tab.get T0=some t0) (hA:A=some ad) (hx:ev E x=some (.pointer (some (addA (ad.add (j*d.sz)) k)))) (hz:ev E z=some v) (hu:v.cells=us.toArray) (hl:us.length=t0.size) (h1:us.all Value.oneCell'=true)
 (h:∀w',Upd (rowS (okL l) e) w w'→Ow d e w'.heap (okL l) (okL (li++lv)) A c (xs.set j y)→RW P N ops Q r E w'):RW P N ops Q (.one i .M r) E w:=
 RW.storeEl hT hO hj z0 us hy (fun b hb ho hs=>by obtain ⟨h1,h2⟩:=hO.own_ok hs;rw [h2] at ho;exact dis_of hap b _ ho ⟨h1,rfl⟩) hn hop hg hA hx hz hu hl h1 fun w' hu' ho=>h w' (hO.upd_sub hu') (ho.mono (fun b hb hh=>hh) fun b hb hh=>okL_append.2 hh)
end
def rd {α:Type} [Inhabited α] (xs:List α) (i:Int):α:=xs.getD i.toNat default
end Go.H
namespace Go.H
open Go.RowKit
abbrev w64 (x:Int):Int:=IntKind.i64.wrap x
abbrev wu64 (x:Int):Int:=IntKind.u64.wrap x
def uand (a b:Int):Int:=IntKind.u64.wrap (BitVec.ofInt IntKind.u64.bits a&&&BitVec.ofInt IntKind.u64.bits b).toNat
def uor (a b:Int):Int:=IntKind.u64.wrap (BitVec.ofInt IntKind.u64.bits a|||BitVec.ofInt IntKind.u64.bits b).toNat
def uandn (a b:Int):Int:=IntKind.u64.wrap (BitVec.ofInt IntKind.u64.bits a&&&~~~BitVec.ofInt IntKind.u64.bits b).toNat
def iand (a b:Int):Int:=IntKind.i64.wrap (BitVec.ofInt IntKind.i64.bits a&&&BitVec.ofInt IntKind.i64.bits b).toNat
section
variable {P:Program} {N:Nat} {Q:Exit→Act→World→Prop} {E:Env} {w:World} {ops:List Oper} {tab:Tab}
theorem RW.callF {i d:Nat} {o:Oper} {r:OT} {c:Cls} {as:Array Operand} {ts:Array TypeId} {f:FuncId} {args:List Value} {R:Ending→World→Prop} (hc:c=.X∨c=.M) (he:Enters P f) (hn:Nx ops N E i o d) (hop:o.op=.call ⟨.value (.func f),as,ts⟩)
 (ha:evs E as.toList=some args) (hR:Calls P f args.toArray w R)
 (h:∀e w',R e w'→∃v,e=.returned v∧Ext w w'∧RW P N ops Q r ((d,v)::E) w'):RW P N ops Q (.one i c r) E w:=
 RW.call (first:=#[]) (cap:=#[]) hc he hn hop rfl ha (by simpa using hR) h
end
section
variable {h:Heap} {ok:Fp} {A:Option Addr}
theorem at_int {k:IntKind} {xs:List Int} (s:Sl (Kd.int k) h ok A xs) {i:Int} (h0:0≤i) (h1:i<(xs.length:Int)):∃ad,A=some ad∧At h (ad.add (i.toNat*1)) [.int k (rd xs i)]:=by
 obtain ⟨ad,cs,e,hr,hA⟩:=s.at_ h0 h1 default
 cases hr
 exact ⟨ad,e,hA⟩
theorem at_i64 {xs:List Int} (s:Sl (Kd.int .i64) h ok A xs) {i:Int} (h0:0≤i) (h1:i<(xs.length:Int)):∃ad,A=some ad∧At h (ad.add (i.toNat*1)) [.int .i64 (rd xs i)]:=at_int s h0 h1
theorem at_bool {xs:List Bool} (s:Sl Kd.bool h ok A xs) {i:Int} (h0:0≤i) (h1:i<(xs.length:Int)):∃ad,A=some ad∧At h (ad.add (i.toNat*1)) [.bool (rd xs i)]:=by
 obtain ⟨ad,cs,e,hr,hA⟩:=s.at_ h0 h1 default
 cases hr
 exact ⟨ad,e,hA⟩
end
end Go.H
namespace Go.H
open Go.RowKit
section
variable {α:Type} {d:Kd α} {h:Heap} {ok:Fp} {A:Option Addr} {xs:List α}
theorem Sl.ch_to (k:Sl d h ok A xs):∀n,n≤xs.length→∃ycs:List Value,ycs.length=n*d.sz∧(∀i x,i<n→xs[i]?=some x→∃cs,d.rep h ok cs x∧∀j u,cs[j]?=some u→ycs[i*d.sz+j]?=some u)∧∀ad,A=some ad→At h ad ycs
 |0,_=>⟨[],by simp,fun i x hi=>by omega,fun ad _ j u hu=>by simp at hu⟩
 |n+1,hn=>by
  obtain ⟨ycs,hl,he,hA⟩:=k.ch_to n (by omega)
  obtain ⟨ad,cs,e,_,_,hr,hat⟩:=k n _ (List.getElem?_eq_getElem (show n<xs.length by omega))
  have hcl:=d.len hr
  refine ⟨ycs++cs,by rw [List.length_append,hl,hcl,Nat.add_mul];omega,fun i x hi hx=>?_,fun ad' e' j u hu=>?_⟩
  ·by_cases hin:i<n
   ·obtain ⟨cs',hr',hc'⟩:=he i x hin hx
    refine ⟨cs',hr',fun j u hu=>?_⟩
    have h1:=hc' j u hu
    have h2:=(List.getElem?_eq_some_iff.1 h1).1
    rw [List.getElem?_append_left h2]
    exact h1
   ·obtain rfl:i=n:=by omega
    rw [List.getElem?_eq_getElem (show i<xs.length by omega)] at hx
    cases hx
    refine ⟨cs,hr,fun j u hu=>?_⟩
    rw [List.getElem?_append_right (by omega),hl,show i*d.sz+j-i*d.sz=j by omega]
    exact hu
  ·rw [e] at e'
   cases e'
   rcases Nat.lt_or_ge j ycs.length with hj|hj
   ·rw [List.getElem?_append_left hj] at hu
    exact hA ad e j u hu
   ·rw [List.getElem?_append_right hj] at hu
    have:=hat (j-ycs.length) u hu
    rw [add_add,hl,show n*d.sz+(j-n*d.sz)=j by rw [hl] at hj;omega] at this
    exact this
theorem Sl.ch (k:Sl d h ok A xs):∃ycs,Ch d h ok ycs xs∧(0<xs.length→∃ad,A=some ad∧At h ad ycs):=by
 obtain ⟨ycs,hl,he,hA⟩:=k.ch_to xs.length (Nat.le_refl _)
 refine ⟨ycs,⟨hl,fun i x hx=>he i x (List.getElem?_eq_some_iff.1 hx).1 hx⟩,fun h0=>?_⟩
 obtain ⟨ad,cs,e,_⟩:=k 0 _ (List.getElem?_eq_getElem h0)
 exact ⟨ad,e,hA ad e⟩
end
section
variable {α:Type} {d:Kd α} {h:Heap} {ok oi:Fp} {A:Option Addr} {c:Nat} {T T2:TypeId}
theorem Ow.at_ {xs:List α} (k:Ow d T h ok oi A c xs) {i:Int} (h0:0≤i) (h1:i<xs.length) (z:α):∃ad cs,A=some ad∧d.rep h oi cs (xs.getD i.toNat z)∧At h (ad.add (i.toNat*d.sz)) cs:=by
 have hlt:i.toNat<xs.length:=by omega
 rcases k with ⟨rfl,rfl⟩|⟨b,cur,fl,rfl,h1,h2,h3,h4,h5,h6,h7⟩
 ·simp at hlt
 ·obtain ⟨cs,hr,hc⟩:=h7.2 i.toNat _ (List.getElem?_eq_getElem hlt)
  refine ⟨_,cs,rfl,?_,fun j u hu=>?_⟩
  ·rw [List.getD_eq_getElem?_getD,List.getElem?_eq_getElem hlt]
   exact d.mono hr fun b' _ ho=>ho.1
  ·rw [add_lit0]
   have e:((⟨b,i.toNat*d.sz,none⟩:Addr).add j)=⟨b,i.toNat*d.sz+j,none⟩:=by unfold Addr.add;split <;>simp_all
   rw [e,cellH_block h4]
   have:=hc j u hu
   rw [←h6,List.getElem?_take] at this
   split at this
   ·simpa using this
   ·cases this
theorem Ow.ch {xs:List α} (k:Ow d T h ok oi A c xs):∃ycs,Ch d h oi ycs xs∧(0<xs.length→∃ad,A=some ad∧At h ad ycs):=by
 rcases k with ⟨rfl,rfl⟩|⟨b,cur,fl,rfl,h1,h2,h3,h4,h5,h6,h7⟩
 ·exact ⟨[],Ch.nil,fun h0=>by simp at h0⟩
 ·refine ⟨fl,h7.mono fun _ _ ho=>ho.1,fun _=>⟨_,rfl,fun j u hu=>?_⟩⟩
  rw [add_lit0,cellH_block h4]
  rw [←h6,List.getElem?_take] at hu
  split at hu
  ·simpa using hu
  ·cases hu
theorem Ch.flat {h':Heap} {ok':Fp} {fl:List Value} {xs:List α} (hf:∀{cs x},d.rep h ok cs x→d.rep h' ok' cs x) (k:Ch d h ok fl xs):Ch d h' ok' fl xs:=⟨k.1,fun i x hx=>by
 obtain ⟨cs,hr,hc⟩:=k.2 i x hx
 exact ⟨cs,hf hr,hc⟩⟩
end
section
variable {α:Type} {d d':Kd α} {h:Heap} {ok oi:Fp} {A:Option Addr} {c:Nat} {T:TypeId} {xs:List α}
theorem Sl.to (hf:∀{ok cs x},d.rep h ok cs x→d'.rep h ok cs x) (hsz:d.sz=d'.sz) (k:Sl d h ok A xs):Sl d' h ok A xs:=fun i x hx=>by
 obtain ⟨ad,cs,e,h1,h2,h3,h4⟩:=k i x hx
 exact ⟨ad,cs,e,h1,h2,hf h3,by rw [←hsz];exact h4⟩
end
section
variable {α:Type} {d:Kd α} {w:World} {A:Option Addr} {c n:Nat} {T T2:TypeId} {xs:List α} {l l' li:List Seg3} {cs:List Value}
theorem Sl.off (k:Sl d w.heap (okL l) A xs) (hb:Box w.heap n T cs) (hn:notIn n T l) (hs:subL l l'):Sl d w.heap (off1 (okL l') n) A xs:=k.mono fun b _ ho=>⟨okL_sub hs ho,fun e=>by subst e;rw [hb.ty] at ho;exact notIn_no hn ho⟩
theorem Ow.off (k:Ow d T2 w.heap (okL l) (okL li) A c xs) (hb:Box w.heap n T cs) (hn:notIn n T l) (hn2:notIn n T li) (hs:subL l l') (hs2:subL li l'):Ow d T2 w.heap (off1 (okL l') n) (off1 (okL l') n) A c xs:=
 k.mono (fun b _ ho=>⟨okL_sub hs ho,fun e=>by subst e;rw [hb.ty] at ho;exact notIn_no hn ho⟩) fun b _ ho=>⟨okL_sub hs2 ho,fun e=>by subst e;rw [hb.ty] at ho;exact notIn_no hn2 ho⟩
end
def arrF {β:Type} (g:β→Value) (n:Nat) (f:Nat→β):List Value:=(List.range n).map fun i=>g (f i)
abbrev arrB (n:Nat) (f:Nat→Bool):List Value:=arrF Value.bool n f
abbrev arrI (k:IntKind) (n:Nat) (f:Nat→Int):List Value:=arrF (Value.int k) n f
def updF {β:Type} (f:Nat→β) (i:Nat) (v:β):Nat→β:=fun j=>if j=i then v else f j
section
variable {β:Type} {g:β→Value} {n:Nat} {f f':Nat→β}
theorem arrF_len:(arrF g n f).length=n:=by simp [arrF]
theorem arrF_get {i:Nat} (hi:i<n):(arrF g n f)[i]?=some (g (f i)):=by simp [arrF,hi]
theorem Box.elF {h:Heap} {b:Nat} {T:TypeId} (k:Box h b T (arrF g n f)) {i:Nat} (hi:i<n):At h ⟨b,i,none⟩ [g (f i)]:=by
 refine (k.at i).take 1 ?_
 apply List.ext_getElem?
 intro j
 rw [List.getElem?_take,List.getElem?_drop]
 cases j with
 |zero=>simp [arrF_get hi]
 |succ j=>simp
theorem lay_arrF {i:Nat} {v:β}:lay (arrF g n f) i [g v]=arrF g n (updF f i v):=by
 apply List.ext_getElem?
 intro j
 simp only [lay,List.getElem?_set,arrF_len]
 by_cases hj:j<n
 ·rw [arrF_get hj,arrF_get hj]
  unfold updF
  by_cases e:i=j
  ·subst e;simp [hj]
  ·rw [if_neg e,if_neg (Ne.symm e)]
 ·rw [List.getElem?_eq_none (by rw [arrF_len];omega),List.getElem?_eq_none (by rw [arrF_len];omega)]
  split
  ·rename_i e;rw [if_neg (by omega)]
  ·rfl
theorem lay_full:∀(us cs:List Value),us.length=cs.length→lay cs 0 us=us:=by
 intro us cs h
 apply List.ext_getElem?
 intro j
 rw [lay_get us cs 0 (by omega)]
 split
 ·simp
 ·rw [List.getElem?_eq_none (by omega),List.getElem?_eq_none (by omega)]
theorem lay_arrFull:lay (arrF g n f) 0 (arrF g n f')=arrF g n f':=lay_full _ _ (by rw [arrF_len,arrF_len])
theorem arrF_all (hg:∀x,(g x).oneCell'=true):(arrF g n f).all Value.oneCell'=true:=by
 rw [List.all_eq_true]
 intro v hv
 obtain ⟨i,_,rfl⟩:=List.mem_map.1 hv
 exact hg _
theorem arrF_fit {i:Nat} (hi:i<n):Nat.ble (i+1) (arrF g n f).length=true:=by rw [arrF_len];simp;omega
theorem arrF_fitAll {m:Nat} (hm:m=n):Nat.ble (0+m) (arrF g n f).length=true:=by rw [arrF_len,Nat.zero_add,hm];simp
end
section
variable {P:Program} {N:Nat} {Q:Exit→Act→World→Prop} {E:Env} {w:World} {ops:List Oper} {tab:Tab}
theorem RW.indexBox {i d:Nat} {o:Oper} {r:OT} {T e:TypeId} {x ix:Operand} {t te:Ti} {b m:Nat} {k:IntKind} {j:Int} (hT:TabOk P tab) (h0:0≤j) (h1:j<m) (hn:Nx ops N E i o d) (hop:o.op=.indexAddr T x ix) (hg:tab.get T=some t) (hti:t.ti=.arr m e) (hge:tab.get e=some te) (hsz:te.size=1) (hx:ev E x=some (.pointer (some ⟨b,0,none⟩))) (hi:ev E ix=some (.int k j))
 (h:RW P N ops Q r ((d,(.pointer (some ⟨b,j.toNat,none⟩)))::E) w):RW P N ops Q (.one i .W r) E w:=
 RW.stepW hn (fun ρ hρ w'=>by
  obtain ⟨d,hd,ho⟩:=(hT.get hg).desc
  rw [hti] at ho
  cases ho
  have e1:(⟨b,0,none⟩:Addr).add (j.toNat*te.size)=⟨b,j.toNat,none⟩:=by rw [hsz,Nat.mul_one,add_lit0]
  unfold execOp
  simp [hop,hρ x _ hx,hρ ix _ hi,Instr.indexAt,asIntOf,underlying,hd,h0,h1,(hT.get hge).run_sizeOf,Instr.sureAddr,e1]) h
theorem RW.neg {i d:Nat} {o:Oper} {r:OT} {T:TypeId} {x:Operand} {k:IntKind} {a:Int} (hn:Nx ops N E i o d) (hop:o.op=.unOp .neg T x) (hx:ev E x=some (.int k a))
 (h:RW P N ops Q r ((d,.int k (k.wrap (0-a)))::E) w):RW P N ops Q (.one i .W r) E w:=
 RW.stepW hn (fun ρ hρ w'=>by
  have e1:(Op.unary .neg (.int k a)).run P w'=.ok (.int k (k.wrap (0-a))) w':=rfl
  unfold execOp
  simp [hop,hρ x _ hx,e1]) h
theorem NW.end_ {fn:Func} {R:Ending→World→Prop} (h:NW N .ret (bodyPost P fn R) E w):NW N .normal (bodyPost P fn R) E w:=fun hp a ha=>h hp a ha
theorem RW.callV {i d:Nat} {o:Oper} {r:OT} {c:Cls} {cal:Operand} {as:Array Operand} {ts:Array TypeId} {f:FuncId} {cap:List Value} {args:List Value} {R:Ending→World→Prop} (hc:c=.X∨c=.M) (he:Enters P f) (hn:Nx ops N E i o d) (hop:o.op=.call ⟨.value cal,as,ts⟩)
 (hcal:ev E cal=some (.func (.func f) #[] cap.toArray)) (ha:evs E as.toList=some args) (hR:Calls P f (args++cap).toArray w R)
 (h:∀e w',R e w'→∃v,e=.returned v∧Ext w w'∧RW P N ops Q r ((d,v)::E) w'):RW P N ops Q (.one i c r) E w:=
 RW.call (first:=#[]) (cap:=cap.toArray) hc he hn hop hcal ha (by simpa using hR) h
theorem RW.callFM {i d:Nat} {o:Oper} {r:OT} {cal:Operand} {as:Array Operand} {ts:Array TypeId} {f:FuncId} {cap:List Value} {args:List Value} {R:Ending→World→Prop} (he:Enters P f) (hn:Nx ops N E i o d) (hop:o.op=.call ⟨.value cal,as,ts⟩)
 (hcal:ev E cal=some (.func (.func f) #[] cap.toArray)) (ha:evs E as.toList=some args) (hR:Calls P f (args++cap).toArray w R)
 (h:∀e w',R e w'→∃v,e=.returned v∧RW P N ops Q r ((d,v)::E) w'):RW P N ops Q (.one i .M r) E w:=
 RW.callM (first:=#[]) (cap:=cap.toArray) he hn hop hcal ha (by simpa using hR) h
theorem RW.callK {i d:Nat} {o:Oper} {r:OT} {c:Cls} {cal:Operand} {as:Array Operand} {ts:Array TypeId} {f:FuncId} {cap:List Value} {args:List Value} (hc:c=.X∨c=.M) (he:Enters P f) (hn:Nx ops N E i o d) (hop:o.op=.call ⟨.value cal,as,ts⟩)
 (hcal:ev E cal=some (.func (.func f) #[] cap.toArray)) (ha:evs E as.toList=some args) (hR:Calls P f (args++cap).toArray w (fun e w'=>∃v,e=.returned v∧Ext w w'∧RW P N ops Q r ((d,v)::E) w')):RW P N ops Q (.one i c r) E w:=
 RW.callV hc he hn hop hcal ha hR fun _ _ h=>h
theorem RW.callKM {i d:Nat} {o:Oper} {r:OT} {cal:Operand} {as:Array Operand} {ts:Array TypeId} {f:FuncId} {cap:List Value} {args:List Value} (he:Enters P f) (hn:Nx ops N E i o d) (hop:o.op=.call ⟨.value cal,as,ts⟩)
 (hcal:ev E cal=some (.func (.func f) #[] cap.toArray)) (ha:evs E as.toList=some args) (hR:Calls P f (args++cap).toArray w (fun e w'=>∃v,e=.returned v∧RW P N ops Q r ((d,v)::E) w')):RW P N ops Q (.one i .M r) E w:=
 RW.callFM he hn hop hcal ha hR fun _ _ h=>h
theorem RW.eqNil {i d:Nat} {o:Oper} {r:OT} {T e:TypeId} {x y:Operand} {T2:TypeId} {t:Ti} {A:Option Addr} {n c:Nat} (hT:TabOk P tab) (hn:Nx ops N E i o d) (hop:o.op=.binOp .eql T x y T2) (hg:tab.get T=some t) (hti:t.ti=.slice e) (hx:ev E x=some (.slice A n c)) (hy:ev E y=some (.slice none 0 0))
 (h:RW P N ops Q r ((d,.bool A.isNone)::E) w):RW P N ops Q (.one i .W r) E w:=
 RW.stepW hn (fun ρ hρ w'=>by
  obtain ⟨d,hd,ho⟩:=(hT.get hg).desc
  rw [hti] at ho
  cases ho
  have e1:=Lib.run_eql_slice_nil (P:=P) w' T e A n c 0 0 hd
  unfold execOp
  simp [hop,hρ x _ hx,hρ y _ hy,eqGuard,e1]) h
end
end Go.H
namespace Go.H
open Go.RowKit
def flatEq (tab:Tab) (cs ds:List Value):List Field→Option Bool
 |[]=>some true
 |f::r=>match decide (f.name= "_") with
  |true=>none
  |false=>match (tab.get f.type).map (fun t:Ti=>t.ti),cs[f.offset]?,ds[f.offset]?,flatEq tab cs ds r with
   |some (TI.int k),some (.int k1 a),some (.int k2 b),some q=>match decide (k1=k2) with
    |true=>some ((a==b)&&q)
    |false=>none
   |some TI.bool,some (.bool a),some (.bool b),some q=>some ((a==b)&&q)
   |_,_,_,_=>none
section
variable {P:Program} {N:Nat} {Q:Exit→Act→World→Prop} {E:Env} {ops:List Oper} {tab:Tab}
theorem run_part {T:TypeId} {t:Ti} (hk:TiOk P T t) (ha:t.ti.agg=false) {cs:Array Value} {off:Nat} {v:Value} (hv:cs[off]?=some v) (w:World):(part T cs off).run P w=.ok v w:=by
 unfold part
 rw [Sem.run_bind,hk.run_isAgg,ha]
 simp [hv]
theorem run_flatEq (hT:TabOk P tab) (cs ds:List Value) (w:World) (d:Nat):∀{fs:List Field} {b:Bool},flatEq tab cs ds fs=some b→(Op.eqFields (d+1) cs.toArray ds.toArray fs).run P w=.ok b w
 |[],b,h=>by simp only [flatEq,Option.some.injEq] at h;subst h;rfl
 |f::r,b,h=>by
  unfold flatEq at h
  by_cases hn:f.name= "_"
  ·rw [decide_eq_true hn] at h;cases h
  ·rw [decide_eq_false hn] at h
   simp only at h
   cases hg:tab.get f.type with
   |none=>rw [hg] at h;simp at h
   |some t=>
    rw [hg] at h
    cases hq:flatEq tab cs ds r with
    |none=>rw [hq] at h;simp only [Option.map_some] at h;split at h <;>simp_all
    |some q=>
     have ih:=run_flatEq hT cs ds w d hq
     rw [hq] at h
     have hk:=hT.get hg
     simp only [Option.map_some] at h
     unfold Op.eqFields
     rw [if_pos hn]
     split at h
     ·rename_i k k1 a k2 b' q' h1 h2 h3 h4
      cases h4
      simp only [Option.some.injEq] at h1
      by_cases e:k1=k2
      ·subst e
       rw [decide_eq_true rfl] at h
       simp only [Option.some.injEq] at h
       obtain ⟨dd,hd,ho⟩:=hk.desc
       rw [h1] at ho
       cases ho
       have p1:=run_part hk (by rw [h1];rfl) (cs:=cs.toArray) (off:=f.offset) (by simpa using h2) w
       have p2:=run_part hk (by rw [h1];rfl) (cs:=ds.toArray) (off:=f.offset) (by simpa using h3) w
       simp only [Sem.run_bind,p1,Result.andThen_ok,p2,run_equalIn_int w d f.type k1 k a b' hd]
       cases hab:(a==b')
       ·rw [hab] at h;subst h;simp
       ·rw [hab] at h;subst h;simpa using ih
      ·rw [decide_eq_false e] at h;cases h
     ·rename_i a b' q' h1 h2 h3 h4
      cases h4
      simp only [Option.some.injEq] at h1 h
      obtain ⟨dd,hd,ho⟩:=hk.desc
      rw [h1] at ho
      cases ho
      have p1:=run_part hk (by rw [h1];rfl) (cs:=cs.toArray) (off:=f.offset) (by simpa using h2) w
      have p2:=run_part hk (by rw [h1];rfl) (cs:=ds.toArray) (off:=f.offset) (by simpa using h3) w
      simp only [Sem.run_bind,p1,Result.andThen_ok,p2,run_equalIn_bool' w d f.type a b' hd]
      cases hab:(a==b')
      ·rw [hab] at h;subst h;simp
      ·rw [hab] at h;subst h;simpa using ih
     ·cases h
theorem run_equalFlat (hT:TabOk P tab) {T:TypeId} {fs:Array Field} (hu:P.underlying T=some (.struct fs)) (hs:P.stoodInHeld T=false) (cs ds:List Value) {b:Bool} (hf:flatEq tab cs ds fs.toList=some b) (w:World):(Op.equalIn 10000 T (.agg cs.toArray) (.agg ds.toArray)).run P w=.ok b w:=by
 have e:P.fieldsOf T=fs:=by unfold Program.fieldsOf;rw [hu]
 rw [run_equalIn_struct w 9999 T _ _ (by rw [e];exact hu) hs,e]
 exact run_flatEq hT cs ds w 9998 hf
theorem RW.eqAgg {w:World} {i d:Nat} {o:Oper} {r:OT} {op:BinOp} {T T2:TypeId} {x y:Operand} {cs ds:List Value} {b v:Bool} (hm:P.eqGuardType P.depth T=false) (he:∀w',(Op.equalIn 10000 T (.agg cs.toArray) (.agg ds.toArray)).run P w'=.ok b w') (hn:Nx ops N E i o d) (hop:o.op=.binOp op T x y T2) (hx:ev E x=some (.agg cs.toArray)) (hy:ev E y=some (.agg ds.toArray)) (hv:(match op with|.eql=>some b|.neq=>some (!b)|_=>none)=some v)
 (h:RW P N ops Q r ((d,.bool v)::E) w):RW P N ops Q (.one i .W r) E w:=
 RW.stepW hn (fun ρ hρ w'=>by
  have e1:=run_eqGuard_agg (P:=P) w' op T x y cs.toArray ds.toArray hm
  have e2:=run_eql_struct (P:=P) w' T cs.toArray ds.toArray
  have e3:=run_neq_struct (P:=P) w' T cs.toArray ds.toArray
  rw [he w'] at e2 e3
  unfold execOp
  cases op <;>simp only at hv <;>try (cases hv;done)
  ·cases hv
   simp [hop,hρ x _ hx,hρ y _ hy,e1,e2]
  ·cases hv
   simp [hop,hρ x _ hx,hρ y _ hy,e1,e3]) h
end
end Go.H
namespace Go.H
open Go.RowKit
theorem Sl.take {α:Type} {d:Kd α} {h:Heap} {ok:Fp} {A:Option Addr} {xs:List α} (k:Sl d h ok A xs) (n:Nat):Sl d h ok A (xs.take n):=fun i x hx=>by
 rw [List.getElem?_take] at hx
 split at hx
 ·exact k i x hx
 ·cases hx
theorem addA_zero (a:Addr):addA a 0=a:=by rw [addA_eq,add_zero]
section
variable {P:Program} {N:Nat} {Q:Exit→Act→World→Prop} {E:Env} {w:World} {ops:List Oper} {tab:Tab} {α:Type}
theorem RW.sliceTo {i d:Nat} {o:Oper} {r:OT} {T e:TypeId} {x y:Operand} {t te:Ti} {A:Option Addr} {xs:List α} {c:Nat} {k:IntKind} {j:Int} (hT:TabOk P tab) (h0:0≤j) (h1:j≤xs.length) (hc:xs.length≤c) (hn:Nx ops N E i o d) (hop:o.op=.slice T x none (some y) none) (hg:tab.get T=some t) (hti:t.ti=.slice e) (hge:tab.get e=some te) (hx:ev E x=some (.slice A xs.length c)) (hy:ev E y=some (.int k j))
 (h:RW P N ops Q r ((d,.slice A (xs.take j.toNat).length c)::E) w):RW P N ops Q (.one i .W r) E w:=
 RW.stepW hn (fun ρ hρ w'=>by
  obtain ⟨d,hd,ho⟩:=(hT.get hg).desc
  rw [hti] at ho
  cases ho
  have e1:(xs.take j.toNat).length=j.toNat:=by rw [List.length_take];omega
  have e2:j≤(c:Int):=by omega
  have e3:(if c=0 then A else A.map fun x=>x.add 0)=A:=by cases A <;>simp [add_zero]
  unfold execOp
  simp [hop,hρ x _ hx,hρ y _ hy,Instr.sliceAt,Instr.slice,Instr.sliceBounds,Instr.sliceBound,asIntOf,underlying,hd,h0,e2,(hT.get hge).run_sizeOf,e1,e3]) h
theorem RW.storeElL0 {d:Kd α} {i:Nat} {o:Oper} {r:OT} {T0 e:TypeId} {t0:Ti} {x z:Operand} {l li lv:List Seg3} {A:Option Addr} {ad:Addr} {c:Nat} {xs:List α} {j:Nat} {v:Value} {y:α} (hT:TabOk P tab) (hO:Ow d e w.heap (okL l) (okL li) A c xs) (hj:j<xs.length) (z0:α) (us:List Value)
 (hy:∀cs ok',d.rep w.heap ok' cs (xs.getD j z0)→0+us.length≤cs.length∧d.rep w.heap (orS ok' (okL lv)) (lay cs 0 us) y) (hap:allD e lv l)
 (hn:Nx0 ops E i o) (hop:o.op=.store T0 x z) (hg:tab.get T0=some t0) (hA:A=some ad) (hx:ev E x=some (.pointer (some (ad.add (j*d.sz))))) (hz:ev E z=some v) (hu:v.cells=us.toArray) (hl:us.length=t0.size) (h1:us.all Value.oneCell'=true)
 (h:∀w',Upd (rowS (okL l) e) w w'→Ow d e w'.heap (okL l) (okL (li++lv)) A c (xs.set j y)→RW P N ops Q r E w'):RW P N ops Q (.one i .M r) E w:=
 RW.storeElL hT hO hj z0 us hy hap hn hop hg hA (by rw [addA_zero];exact hx) hz hu hl h1 h
end
end Go.H
