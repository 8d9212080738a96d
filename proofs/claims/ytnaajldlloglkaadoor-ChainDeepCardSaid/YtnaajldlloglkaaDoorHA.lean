/- Walking by explicit rules, part A: the slots as a list, the operations that look at no memory. Plain theorems over any program. -/
import Derived.WalkKit
import Derived.OrdersHeld
import Derived.Deep.LoopGhost
set_option linter.unusedVariables false
set_option linter.unusedSimpArgs false
namespace Go.H
open Go.RowKit

/-! ### 1. Slots -/
abbrev Env := List (Nat × Value)
def Env.get : Env → Nat → Option Value
  | [], _ => none
  | (t, v) :: r, i => match Nat.beq t i with
    | true => some v
    | false => Env.get r i
structure Sat (N : Nat) (E : Env) (a : Act) : Prop where
  defers : a.defers = []
  size : a.tmps.size = N
  get : ∀ t v, Env.get E t = some v → a.tmps[t]? = some v
def Env.put (E : Env) : Option Nat → Value → Env
  | some d, v => (d, v) :: E
  | none, _ => E
theorem Env.get_cons (t : Nat) (v : Value) (r : Env) (i : Nat) : Env.get ((t, v) :: r) i = if t = i then some v else Env.get r i := by
  show (match Nat.beq t i with | true => some v | false => Env.get r i) = _
  by_cases h : t = i
  · subst h; rw [if_pos rfl, show Nat.beq t t = true from Nat.beq_refl t]
  · rw [if_neg h, show Nat.beq t i = false from by cases h2 : Nat.beq t i with | false => rfl | true => exact absurd (Nat.eq_of_beq_eq_true h2) h]
def fits (N : Nat) : Option Nat → Bool
  | some d => Nat.blt d N
  | none => true
theorem Sat.put {N : Nat} {E : Env} {a : Act} (h : Sat N E a) {d : Option Nat} (hd : fits N d = true) (v : Value) : Sat N (E.put d v) (a.put d v) := by
  cases d with
  | none => exact h
  | some d =>
    have hdN : d < N := by simpa [fits, Nat.blt_eq] using hd
    refine ⟨h.defers, by simp [Act.put, h.size], fun t u hu => ?_⟩
    simp only [Env.put] at hu
    rw [Env.get_cons] at hu
    by_cases e : d = t
    · subst e
      rw [if_pos rfl] at hu
      simp only [Option.some.injEq] at hu
      subst hu
      simp [Act.put, h.size, hdN]
    · rw [if_neg e] at hu
      simp only [Act.put]
      rw [Array.getElem?_setIfInBounds_ne e]
      exact h.get t u hu
/-- The slots of E' as E has them. -/
def Sub : Env → Env → Prop
  | [], _ => True
  | (t, v) :: r, E => Env.get E t = some v ∧ Sub r E
theorem Sub.get {E' E : Env} (h : Sub E' E) : ∀ t v, Env.get E' t = some v → Env.get E t = some v := by
  induction E' with
  | nil => intro t v hv; simp [Env.get] at hv
  | cons p r ih =>
    obtain ⟨t0, v0⟩ := p
    intro t v hv
    rw [Env.get_cons] at hv
    by_cases e : t0 = t
    · subst e
      rw [if_pos rfl] at hv
      simp only [Option.some.injEq] at hv
      subst hv
      exact h.1
    · rw [if_neg e] at hv
      exact ih h.2 t v hv
theorem Sat.sub {N : Nat} {E E' : Env} {a : Act} (h : Sat N E a) (hs : Sub E' E) : Sat N E' a := ⟨h.defers, h.size, fun t v hv => h.get t v (hs.get t v hv)⟩

def ev (E : Env) : Operand → Option Value
  | .tmp t => E.get t
  | .const v => some v
  | .global g => some (.pointer (some ⟨g, 0, none⟩))
  | .func f => some (.func (.func f) #[] #[])
theorem ev_eval {N : Nat} {E : Env} {a : Act} (h : Sat N E a) {x : Operand} {v : Value} (e : ev E x = some v) : a.eval x = v := by
  cases x with
  | tmp t => simp only [ev] at e; simp [Act.eval, h.get t v e]
  | const u => simpa [ev, Act.eval] using e
  | global g => simpa [ev, Act.eval] using e
  | func f => simpa [ev, Act.eval] using e
/-- What an operand's function is that knows E. -/
def Knows (E : Env) (ρ : Operand → Value) : Prop := ∀ x v, ev E x = some v → ρ x = v
theorem Sat.knows {N : Nat} {E : Env} {a : Act} (h : Sat N E a) : Knows E a.eval := fun _ _ e => ev_eval h e
def evs (E : Env) : List Operand → Option (List Value)
  | [] => some []
  | x :: r => match ev E x, evs E r with
    | some v, some vs => some (v :: vs)
    | _, _ => none
theorem Knows.map {E : Env} {ρ : Operand → Value} (h : Knows E ρ) : ∀ {l : List Operand} {vs : List Value}, evs E l = some vs → l.map ρ = vs
  | [], vs, e => by simp [evs] at e; simp [e]
  | x :: r, vs, e => by
    unfold evs at e
    cases h1 : ev E x with
    | none => rw [h1] at e; cases e
    | some v =>
      cases h2 : evs E r with
      | none => rw [h1, h2] at e; cases e
      | some us =>
        rw [h1, h2] at e
        simp only [Option.some.injEq] at e
        subst e
        rw [List.map_cons, h x v h1, h.map h2]

/-! ### 2. The program's types, told in a table -/
inductive TI where
  | int (k : IntKind)
  | bool
  | word
  | slice (e : TypeId)
  | struct (fs : List (Nat × Nat))
  | arr (n : Nat) (e : TypeId)
structure Ti where
  ti : TI
  size : Nat
  bytes : Nat
  zero : List Value
/-- The value of a variable of that many cells. -/
def ofCells : TI → List Value → Value
  | .struct _, cs => .agg cs.toArray
  | .arr _ _, cs => .agg cs.toArray
  | _, cs => match cs with
    | [v] => v
    | _ => .tuple #[]
def TI.agg : TI → Bool
  | .struct _ => true
  | .arr _ _ => true
  | _ => false
def descOk (P : Program) : TI → TypeDesc → Prop
  | .int k, d => d = .int k
  | .bool, d => d = .bool
  | .slice e, d => d = .slice e
  | .arr n e, d => d = .array n e
  | .word, d => (match d with | .struct _ => False | .array _ _ => False | _ => True)
  | .struct fs, d => ∃ fields : Array Field, d = .struct fields ∧ fields.toList.map (fun f => (f.offset, ((P.info? f.type).map (·.size)).getD 0)) = fs ∧ fs.all (fun p => !(p.2 == 0)) = true
structure TiOk (P : Program) (T : TypeId) (t : Ti) : Prop where
  info : ∃ i, P.info? T = some i ∧ i.size = t.size ∧ i.bytes = t.bytes ∧ i.zero = some (ofCells t.ti t.zero)
  desc : ∃ d, P.underlying T = some d ∧ descOk P t.ti d
  len : t.zero.length = t.size
  scal : t.ti.agg = false → t.size = 1
  pos : 0 < t.size
  one : t.zero.all Value.oneCell' = true
theorem TiOk.mk' {P : Program} {T : TypeId} (ti : TI) (size bytes : Nat) (zero : List Value) {d : TypeDesc} (h1 : (P.info? T).map (fun i => (i.zero, i.size, i.bytes)) = some (some (ofCells ti zero), size, bytes)) (h2 : P.underlying T = some d) (h3 : descOk P ti d)
    (h4 : zero.length = size) (h5 : ti.agg = false → size = 1) (h6 : 0 < size) (h7 : zero.all Value.oneCell' = true) : TiOk P T ⟨ti, size, bytes, zero⟩ := by
  obtain ⟨i, hi, he⟩ := Option.map_eq_some_iff.1 h1
  simp only [Prod.mk.injEq] at he
  exact ⟨⟨i, hi, he.2.1, he.2.2, he.1⟩, ⟨d, h2, h3⟩, h4, h5, h6, h7⟩
abbrev Tab := List (Nat × Ti)
def Tab.get : Tab → Nat → Option Ti
  | [], _ => none
  | (t, v) :: r, i => match Nat.beq t i with
    | true => some v
    | false => Tab.get r i
def TabOk (P : Program) : Tab → Prop
  | [] => True
  | (t, v) :: r => TiOk P t v ∧ TabOk P r
theorem TabOk.get {P : Program} {tab : Tab} (h : TabOk P tab) : ∀ {T : Nat} {t : Ti}, tab.get T = some t → TiOk P T t := by
  induction tab with
  | nil => intro T t e; simp [Tab.get] at e
  | cons p r ih =>
    obtain ⟨t0, v0⟩ := p
    intro T t e
    unfold Tab.get at e
    cases hb : Nat.beq t0 T with
    | true =>
      rw [hb] at e
      simp only [Option.some.injEq] at e
      subst e
      have := Nat.eq_of_beq_eq_true hb
      subst this
      exact h.1
    | false => rw [hb] at e; exact ih h.2 e

def isAggD : TypeDesc → Bool
  | .struct _ => true
  | .array _ _ => true
  | _ => false
section
variable {P : Program} {T : TypeId} {t : Ti}
theorem TiOk.run_sizeOf (h : TiOk P T t) (w : World) : (sizeOf T).run P w = .ok t.size w := by
  obtain ⟨i, hi, hs, _⟩ := h.info
  simp [sizeOf, typeInfo, hi, hs]
theorem TiOk.run_info (h : TiOk P T t) (w : World) : ∃ i, (typeInfo T).run P w = .ok i w ∧ i.size = t.size ∧ i.bytes = t.bytes ∧ i.zero = some (ofCells t.ti t.zero) := by
  obtain ⟨i, hi, hs⟩ := h.info
  exact ⟨i, by simp [typeInfo, hi], hs⟩
theorem TiOk.run_zero (h : TiOk P T t) (w : World) : (zeroValue T).run P w = .ok (ofCells t.ti t.zero) w := by
  obtain ⟨i, hi, hs, hb, hz⟩ := h.info
  simp [zeroValue, typeInfo, hi, hz]
theorem TiOk.run_underlying (h : TiOk P T t) (w : World) : ∃ d, (underlying T).run P w = .ok d w ∧ descOk P t.ti d := by
  obtain ⟨d, hd, ho⟩ := h.desc
  exact ⟨d, by simp [underlying, hd], ho⟩
theorem TiOk.run_isAgg (h : TiOk P T t) (w : World) : (isAgg T).run P w = .ok t.ti.agg w := by
  obtain ⟨d, hd, ho⟩ := h.run_underlying w
  have h1 : (isAgg T).run P w = .ok (isAggD d) w := by
    unfold isAgg
    rw [Sem.run_bind, hd]
    simp only [Result.andThen_ok]
    cases d <;> rfl
  rw [h1]
  cases hti : t.ti with
  | int k => rw [hti] at ho; cases ho; rfl
  | bool => rw [hti] at ho; cases ho; rfl
  | slice e => rw [hti] at ho; cases ho; rfl
  | arr n e => rw [hti] at ho; cases ho; rfl
  | struct fs => rw [hti] at ho; obtain ⟨f, rfl, _⟩ := ho; rfl
  | word =>
    rw [hti] at ho
    cases d <;> first | rfl | exact ho.elim
end
/-! ### 3. Operations that look at no memory -/
def intB (op : BinOp) (k : IntKind) (a b : Int) : Option Value :=
  match op with
  | .add => some (.int k (k.wrap (a + b)))
  | .sub => some (.int k (k.wrap (a - b)))
  | .mul => some (.int k (k.wrap (a * b)))
  | .and => some (.int k (k.wrap (BitVec.ofInt k.bits a &&& BitVec.ofInt k.bits b).toNat))
  | .or => some (.int k (k.wrap (BitVec.ofInt k.bits a ||| BitVec.ofInt k.bits b).toNat))
  | .andNot => some (.int k (k.wrap (BitVec.ofInt k.bits a &&& ~~~BitVec.ofInt k.bits b).toNat))
  | .eql => some (.bool (a == b))
  | .neq => some (.bool (a != b))
  | .lss => some (.bool (decide (a < b)))
  | .leq => some (.bool (decide (a ≤ b)))
  | .gtr => some (.bool (decide (b < a)))
  | .geq => some (.bool (decide (b ≤ a)))
  | _ => none
def binB (tab : Tab) (op : BinOp) (T : TypeId) : Value → Value → Option Value
  | .int k a, .int k' b => match decide (k = k') with
    | true => intB op k a b
    | false => none
  | .bool a, .bool b => match (tab.get T).map (·.ti), op with
    | some TI.bool, .eql => some (.bool (a == b))
    | some TI.bool, .neq => some (.bool (!(a == b)))
    | _, _ => none
  | _, _ => none
/-- An address further on; told at once where the address is told. -/
def addA : Addr → Nat → Addr
  | ⟨b, o, none⟩, n => ⟨b, o + n, none⟩
  | a, n => a.add n
theorem addA_eq (a : Addr) (n : Nat) : addA a n = a.add n := by
  obtain ⟨b, o, s⟩ := a
  cases s with
  | none => unfold addA Addr.add; split <;> simp_all
  | some s => rfl
def fldOff (tab : Tab) (T f : Nat) : Option Nat :=
  match tab.get T with
  | some ⟨.struct fs, _, _, _⟩ => (fs[f]?).map (·.1)
  | _ => none
def pairsEv (E : Env) : List (Nat × Operand) → Option (List (Nat × Value))
  | [] => some []
  | (i, x) :: r => match ev E x, pairsEv E r with
    | some v, some vs => some ((i, v) :: vs)
    | _, _ => none
theorem Knows.pairs {E : Env} {ρ : Operand → Value} (h : Knows E ρ) : ∀ {l : List (Nat × Operand)} {vs : List (Nat × Value)}, pairsEv E l = some vs → (l.map fun (i, x) => (i, ρ x)) = vs
  | [], vs, e => by simp [pairsEv] at e; simp [e]
  | (i, x) :: r, vs, e => by
    unfold pairsEv at e
    cases h1 : ev E x with
    | none => rw [h1] at e; cases e
    | some v =>
      cases h2 : pairsEv E r with
      | none => rw [h1, h2] at e; cases e
      | some us =>
        rw [h1, h2] at e
        simp only [Option.some.injEq] at e
        subst e
        rw [List.map_cons, h.pairs h2]
        show (i, ρ x) :: us = _
        rw [h x v h1]
/-- The cells of a struct's value, its parts laid over its zero. -/
def layCells (fs : List (Nat × Nat)) : List Value → List (Nat × Value) → Option (List Value)
  | cs, [] => some cs
  | cs, (i, v) :: rest => match fs[i]? with
    | none => none
    | some (off, size) => match v with
      | .agg us => match Nat.beq us.toList.length size && Nat.ble (off + size) cs.length with
        | true => layCells fs (cs.take off ++ us.toList ++ cs.drop (off + size)) rest
        | false => none
      | v => match Nat.beq size 1 && Nat.ble (off + 1) cs.length with
        | true => layCells fs (cs.take off ++ v :: cs.drop (off + 1)) rest
        | false => none
def pureOp (tab : Tab) (E : Env) : Op → Option Value
  | .move x => ev E x
  | .assign x => ev E x
  | .pick c a b => match ev E c with
    | some (.bool true) => ev E a
    | some (.bool false) => ev E b
    | _ => none
  | .extract x i => match ev E x with
    | some (.tuple vs) => vs.toList[i]?
    | _ => none
  | .binOp op T x y _ => match ev E x, ev E y with
    | some a, some b => binB tab op T a b
    | _, _ => none
  | .unOp .not _ x => match ev E x with
    | some (.bool b) => some (.bool !b)
    | _ => none
  | .fieldAddr T x f => match ev E x, fldOff tab T f with
    | some (.pointer (some a)), some off => some (.pointer (some (addA a off)))
    | _, _ => none
  | .nilCheck x => match ev E x with
    | some (.pointer (some a)) => some (.pointer (some a))
    | some (.func (.func f) a b) => some (.func (.func f) a b)
    | _ => none
  | .makeFunc fn first captured => match evs E first.toList, evs E captured.toList with
    | some fs, some cs => some (.func fn fs.toArray cs.toArray)
    | _, _ => none
  | .convert src dst x => match ev E x, tab.get src, (tab.get dst).map (·.ti) with
    | some (.int _ n), some _, some (TI.int k) => some (.int k (k.wrap n))
    | _, _, _ => none
  | .build T parts => match pairsEv E parts.toList, tab.get T with
    | some ps, some ⟨.struct fs, _, _, zero⟩ => (layCells fs zero ps).map fun cs => .agg cs.toArray
    | _, _ => none
  | .call ⟨.builtin .len, args, argTypes⟩ => match evs E args.toList, argTypes.toList with
    | some [.slice _ n _], [T] => match (tab.get T).map (·.ti) with
      | some (TI.slice _) => some (.int .i64 (n : Int))
      | _ => none
    | _, _ => none
  | _ => none

theorem run_binB {P : Program} {tab : Tab} (hT : TabOk P tab) {op : BinOp} {T : TypeId} {x y : Value} {v : Value} (h : binB tab op T x y = some v) (a b : Operand) (w : World) :
    (do eqGuard op T a b x y; binOp op T x y : Sem Value).run P w = .ok v w := by
  cases x <;> cases y <;> try (cases h; done)
  case bool.bool p q =>
    simp only [binB] at h
    cases hg : tab.get T with
    | none => rw [hg] at h; simp at h
    | some t =>
      rw [hg] at h
      simp only [Option.map_some] at h
      cases ht : t.ti <;> rw [ht] at h <;> (try simp only at h) <;> try (cases h; done)
      have hu : P.underlying T = some .bool := by
        obtain ⟨d, hd, ho⟩ := (hT.get hg).desc
        rw [ht] at ho
        cases ho
        exact hd
      cases op <;> simp only at h <;> try (cases h; done)
      · cases h
        simp [eqGuard, run_eql_bool w T p q hu]
      · cases h
        simp [eqGuard, run_neq_bool w T p q hu]
  case int.int k p k' q =>
    simp only [binB] at h
    by_cases hk : k = k'
    · subst hk
      rw [show decide (k = k) = true by simp] at h
      cases op <;> simp only [intB] at h <;> try (cases h; done)
      all_goals (cases h; simp [eqGuard, binOp, Op.intArith, Op.intBits, Op.intCmp])
    · rw [show decide (k = k') = false by simp [hk]] at h
      cases h
theorem fill_layCells (fs : List (Nat × Nat)) (place : Nat → Option (Nat × Nat)) (hpl : ∀ i p, fs[i]? = some p → place i = some p) : ∀ (ps : List (Nat × Value)) (cs us : List Value), layCells fs cs ps = some us → Instr.fill place cs.toArray ps = some us.toArray
  | [], cs, us, h => by simp only [layCells, Option.some.injEq] at h; subst h; rfl
  | (i, v) :: rest, cs, us, h => by
    unfold layCells at h
    unfold Instr.fill
    cases hf : fs[i]? with
    | none => rw [hf] at h; cases h
    | some p =>
      obtain ⟨off, size⟩ := p
      rw [hf] at h
      rw [hpl i _ hf]
      simp only at h ⊢
      have key : ∀ (l : List Value) (c0 : List Value), off + l.length ≤ c0.length → (l.toArray.zipIdx.foldl (fun cs (c, j) => cs.setIfInBounds (off + j) c) c0.toArray) = (c0.take off ++ l ++ c0.drop (off + l.length)).toArray := by
        intro l
        have gen : ∀ (l : List Value) (m : Nat) (c0 : List Value), off + m + l.length ≤ c0.length → ((l.zipIdx m).foldl (fun (cs : Array Value) (p : Value × Nat) => cs.setIfInBounds (off + p.2) p.1) c0.toArray) = (c0.take (off + m) ++ l ++ c0.drop (off + m + l.length)).toArray := by
          intro l
          induction l with
          | nil => intro m c0 h; simp
          | cons x r ih =>
            intro m c0 hm
            simp only [List.length_cons] at hm
            rw [List.zipIdx_cons, List.foldl_cons]
            simp only [List.setIfInBounds_toArray]
            rw [ih (m + 1) _ (by rw [List.length_set]; omega)]
            congr 1
            apply List.ext_getElem?
            intro j
            simp only [List.append_assoc, List.getElem?_append, List.length_take, List.length_set, List.getElem?_take, List.getElem?_set, List.getElem?_drop, List.length_cons, List.getElem?_cons]
            grind
        intro c0 hc
        have := gen l 0 c0 (by omega)
        simp only [Nat.add_zero] at this
        rw [← this, ← Array.foldl_toList]
        simp
      have hc1 : ∀ (l : List Value), v.cells = l.toArray → (Nat.beq l.length size && Nat.ble (off + size) cs.length) = true → layCells fs (cs.take off ++ l ++ cs.drop (off + size)) rest = some us →
          (if v.cells.size ≠ size || off + v.cells.size > cs.toArray.size then none else Instr.fill place (v.cells.zipIdx.foldl (fun cs (c, j) => cs.setIfInBounds (off + j) c) cs.toArray) rest) = some us.toArray := by
        intro l hl hb hh
        simp only [Bool.and_eq_true] at hb
        have hb1 := Nat.eq_of_beq_eq_true hb.1
        have hb2 := Nat.le_of_ble_eq_true hb.2
        subst hb1
        rw [hl, if_neg (by simp; omega), key l cs (by omega)]
        exact fill_layCells fs place hpl rest _ us hh
      cases v with
      | agg ws =>
        simp only at h
        cases hb : (Nat.beq ws.toList.length size && Nat.ble (off + size) cs.length) with
        | false => rw [hb] at h; cases h
        | true => rw [hb] at h; exact hc1 ws.toList (by simp [Value.cells]) hb h
      | _ =>
        simp only at h
        revert h
        generalize hb : (Nat.beq size 1 && Nat.ble (off + 1) cs.length) = bb
        intro h
        cases bb with
        | false => cases h
        | true =>
          simp only [Bool.and_eq_true] at hb
          have hb1 := Nat.eq_of_beq_eq_true hb.1
          subst hb1
          refine hc1 [_] rfl ?_ (by simpa using h)
          simp [hb.2]

theorem mapM_places {P : Program} : ∀ (l : List Field) (fs : List (Nat × Nat)), l.map (fun f => (f.offset, ((P.info? f.type).map (·.size)).getD 0)) = fs → fs.all (fun p => !(p.2 == 0)) = true → l.mapM (fun f => (P.info? f.type).map fun i => (f.offset, i.size)) = some fs
  | [], fs, h, _ => by simp at h; subst h; simp
  | f :: r, fs, h, ha => by
    rw [List.map_cons] at h
    subst h
    simp only [List.all_cons, Bool.and_eq_true] at ha
    have ih := mapM_places r _ rfl ha.2
    cases hi : P.info? f.type with
    | none => rw [hi] at ha; simp at ha
    | some i => simp [List.mapM_cons, hi, ih]
theorem pureOp_sound {P : Program} {tab : Tab} (hT : TabOk P tab) {E : Env} {ρ : Operand → Value} (hρ : Knows E ρ) {o : Oper} {v : Value} (h : pureOp tab E o.op = some v) (w : World) :
    (execOp ρ o).run P w = .ok (.value v) w := by
  unfold execOp
  generalize o.op = op at h ⊢
  cases op <;> simp only [pureOp] at h <;> try (cases h; done)
  all_goals dsimp only
  case move x => rw [hρ x v h]; rfl
  case assign x => rw [hρ x v h]; rfl
  case pick c a b =>
    cases hc : ev E c with
    | none => rw [hc] at h; cases h
    | some u =>
      rw [hc] at h
      cases u <;> try (cases h; done)
      rename_i q
      cases q
      · simp only at h; simp [hρ c _ hc, asBool, hρ b v h]
      · simp only at h; simp [hρ c _ hc, asBool, hρ a v h]
  case extract x i =>
    cases hc : ev E x with
    | none => rw [hc] at h; cases h
    | some u =>
      rw [hc] at h
      cases u <;> try (cases h; done)
      rename_i vs
      simp only [Array.getElem?_toList] at h
      simp [hρ x _ hc, Instr.extract, h]
  case binOp op T x y T2 =>
    cases hx : ev E x with
    | none => rw [hx] at h; cases h
    | some a =>
      cases hy : ev E y with
      | none => rw [hx, hy] at h; cases h
      | some b =>
        rw [hx, hy] at h
        simp only at h
        have := run_binB hT h x y w
        rw [hρ x a hx, hρ y b hy]
        simp only [Sem.run_bind] at this ⊢
        rw [this]
        rfl
  case unOp op T x =>
    cases op <;> simp only at h <;> try (cases h; done)
    cases hc : ev E x with
    | none => rw [hc] at h; cases h
    | some u =>
      rw [hc] at h
      cases u <;> try (cases h; done)
      cases h
      simp [hρ x _ hc, Op.unary]
  case fieldAddr T x f =>
    cases hc : ev E x with
    | none => rw [hc] at h; cases h
    | some u =>
      rw [hc] at h
      cases u <;> try (cases h; done)
      rename_i oa
      cases oa with
      | none => cases h
      | some a =>
        cases hf : fldOff tab T f with
        | none => rw [hf] at h; cases h
        | some off =>
          rw [hf] at h
          cases h
          unfold fldOff at hf
          cases hg : tab.get T with
          | none => rw [hg] at hf; cases hf
          | some t =>
            rw [hg] at hf
            obtain ⟨ti, sz, by_, z⟩ := t
            cases ti <;> try (cases hf; done)
            rename_i fs
            simp only at hf
            have ho := (hT.get hg)
            obtain ⟨d, hd, fields, rfl, hfs, hall⟩ := ho.desc
            cases hfi : fs[f]? with
            | none => rw [hfi] at hf; cases hf
            | some p =>
              rw [hfi] at hf
              cases hf
              rw [← hfs] at hfi
              simp only [List.getElem?_map] at hfi
              cases hff : fields[f]? with
              | none => rw [← Array.getElem?_toList] at hff; rw [hff] at hfi; cases hfi
              | some fd =>
                have hff' := hff
                rw [← Array.getElem?_toList] at hff
                rw [hff] at hfi
                simp only [Option.map_some, Option.some.injEq] at hfi
                subst hfi
                have hmem : (fd.offset, ((P.info? fd.type).map (·.size)).getD 0) ∈ fs := by
                  rw [← hfs]
                  exact List.mem_map.2 ⟨fd, List.mem_of_getElem? hff, rfl⟩
                have h2 := List.all_eq_true.1 hall _ hmem
                simp only [Bool.not_eq_true', beq_eq_false_iff_ne, ne_eq] at h2
                have h3 : ∃ i, P.info? fd.type = some i ∧ i.size ≠ 0 := by
                  cases hi : P.info? fd.type with
                  | none => rw [hi] at h2; simp at h2
                  | some i => rw [hi] at h2; exact ⟨i, rfl, by simpa using h2⟩
                obtain ⟨i, hi, hi0⟩ := h3
                simp [addA_eq, hρ x _ hc, Instr.fieldAt, underlying, hd, hff', Instr.sureAddr, fieldPlace, sizeOf, typeInfo, hi, hi0]
  case nilCheck x =>
    cases hc : ev E x with
    | none => rw [hc] at h; cases h
    | some u =>
      rw [hc] at h
      cases u <;> try (cases h; done)
      · rename_i oa
        cases oa with
        | none => cases h
        | some a => cases h; simp [hρ x _ hc]
      · rename_i fn a b
        cases fn <;> try (cases h; done)
        cases h
        simp [hρ x _ hc]
  case makeFunc fn first captured =>
    cases h1 : evs E first.toList with
    | none => rw [h1] at h; cases h
    | some fs =>
      cases h2 : evs E captured.toList with
      | none => rw [h1, h2] at h; cases h
      | some cs =>
        rw [h1, h2] at h
        cases h
        have e1 : first.map ρ = fs.toArray := by rw [← hρ.map h1, ← List.map_toArray, Array.toArray_toList]
        have e2 : captured.map ρ = cs.toArray := by rw [← hρ.map h2, ← List.map_toArray, Array.toArray_toList]
        simp [e1, e2, Instr.makeFunc]
  case convert T0 T x =>
    cases hc : ev E x with
    | none => rw [hc] at h; cases h
    | some u =>
      cases hs : tab.get T0 with
      | none => rw [hc, hs] at h; cases u <;> cases h
      | some t0 =>
        cases hg : tab.get T with
        | none => rw [hc, hs, hg] at h; cases u <;> cases h
        | some t =>
          rw [hc, hs, hg] at h
          cases u <;> try (cases h; done)
          rename_i k0 n
          simp only [Option.map_some] at h
          cases ht : t.ti <;> rw [ht] at h <;> simp only at h <;> try (cases h; done)
          cases h
          obtain ⟨d, hd, ho⟩ := (hT.get hg).desc
          obtain ⟨d0, hd0, _⟩ := (hT.get hs).desc
          rw [ht] at ho
          cases ho
          simp [hρ x _ hc, convert, underlying, hd, hd0, Conv.intToInt]
  case build T parts =>
    cases hp : pairsEv E parts.toList with
    | none => rw [hp] at h; cases h
    | some ps =>
      cases hg : tab.get T with
      | none => rw [hp, hg] at h; cases h
      | some t =>
        rw [hp, hg] at h
        obtain ⟨ti, sz, by_, z⟩ := t
        cases ti <;> try (cases h; done)
        rename_i fs
        simp only at h
        cases hl : layCells fs z ps with
        | none => rw [hl] at h; cases h
        | some cs =>
          rw [hl] at h
          cases h
          have hok := hT.get hg
          obtain ⟨d, hd, fields, rfl, hfs, hall⟩ := hok.desc
          obtain ⟨it, hit, _, _, hz⟩ := hok.info
          have e1 : (parts.map fun (i, x) => (i, ρ x)).toList = ps := by rw [← hρ.pairs hp, Array.toList_map]
          have hpl : fields.toList.mapM (fun f => (P.info? f.type).map fun i => (f.offset, i.size)) = some fs := mapM_places _ _ hfs hall
          have hb : P.built T (parts.map fun (i, x) => (i, ρ x)).toList = some cs.toArray := by
            rw [e1]
            unfold Program.built
            rw [hit, hd]
            simp only [hz, hpl, ofCells, Value.cells]
            have := fill_layCells fs (fun i => fs[i]?) (fun _ _ e => e) ps z cs hl
            simpa using this
          have := run_build w T _ _ hb
          simp only [Sem.run_bind, this]
          rfl
  case call c =>
    obtain ⟨callee, args, ts⟩ := c
    cases callee <;> try (cases h; done)
    rename_i b
    cases b <;> try (cases h; done)
    simp only at h
    cases ha : evs E args.toList with
    | none => rw [ha] at h; cases h
    | some vs =>
      rw [ha] at h
      have e1 : args.map ρ = vs.toArray := by rw [← hρ.map ha, ← List.map_toArray, Array.toArray_toList]
      obtain ⟨tl⟩ := ts
      match vs, tl, h with
      | [.slice A n c], [T], h =>
        simp only at h
        cases hg : tab.get T with
        | none => rw [hg] at h; cases h
        | some t =>
          rw [hg] at h
          simp only [Option.map_some] at h
          cases ht : t.ti <;> rw [ht] at h <;> simp only at h <;> try (cases h; done)
          cases h
          obtain ⟨d, hd, ho⟩ := (hT.get hg).desc
          rw [ht] at ho
          cases ho
          simp [resolve, e1, invoke, builtin, Builtin.len_, underlying, hd, goInt]
end Go.H
