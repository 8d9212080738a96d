/- Walking by explicit rules, part D: operations that look at memory or make it; a function's entry and its return. Plain theorems over any program. -/
import Derived.Test.YtnaajldlloglkaaDoorHC
set_option linter.unusedVariables false
set_option linter.unusedSimpArgs false
namespace Go.H
open Go.RowKit

section
variable {P : Program} {N : Nat} {Q : Exit → Act → World → Prop} {E : Env} {w : World} {ops : List Oper} {tab : Tab}

/-! ### 10. Load, index -/
theorem run_loadVar {T : TypeId} {t : Ti} (hk : TiOk P T t) {w : World} {p : Addr} {cs : List Value} (hA : At w.heap p cs) (hl : cs.length = t.size) : (loadVar T p).run P w = .ok (ofCells t.ti cs) w := by
  have hc : ∀ j v, cs[j]? = some v → w.cell? (p.add j) = some v := fun j v hv => hA j v hv
  unfold loadVar
  rw [Sem.run_bind, hk.run_isAgg]
  simp only [Result.andThen_ok]
  cases ht : t.ti.agg with
  | true =>
    simp only [if_true, Sem.run_bind, hk.run_sizeOf, Result.andThen_ok]
    rw [← hl, run_loadCells_list w p cs hc]
    cases hti : t.ti <;> rw [hti] at ht <;> simp [TI.agg] at ht <;> rfl
  | false =>
    have h1 := hk.scal ht
    match cs, hl.trans h1 with
    | [v], _ =>
      have := hc 0 v rfl
      rw [add_zero] at this
      simp only [Bool.false_eq_true, if_false, run_load, this]
      cases hti : t.ti <;> rw [hti] at ht <;> simp [TI.agg] at ht <;> rfl
theorem run_loadOp (hT : TabOk P tab) {o : Oper} {T : TypeId} {x : Operand} {t : Ti} {p : Addr} {cs : List Value} (hop : o.op = .load T x) (hg : tab.get T = some t) (hx : ev E x = some (.pointer (some p))) (hl : cs.length = t.size) {ρ : Operand → Value} (hρ : Knows E ρ) {w' : World} (hA : At w'.heap p cs) :
    (execOp ρ o).run P w' = .ok (.value (ofCells t.ti cs)) w' := by
  unfold execOp
  simp only [hop, hρ x _ hx, Instr.loadAt, Instr.sureAddr, Sem.run_bind, Sem.run_pure, Result.andThen_ok, run_loadVar (hT.get hg) hA hl]
/-- 'x' off memory. -/
theorem RW.load {i d : Nat} {o : Oper} {r : OT} {T : TypeId} {x : Operand} {t : Ti} {p : Addr} (hT : TabOk P tab) (cs : List Value) (hA : At w.heap p cs) (hn : Nx ops N E i o d) (hop : o.op = .load T x) (hg : tab.get T = some t) (hx : ev E x = some (.pointer (some p))) (hl : cs.length = t.size)
    (h : RW P N ops Q r ((d, (ofCells t.ti cs)) :: E) w) : RW P N ops Q (.one i .L r) E w :=
  RW.stepL hn (fun ρ hρ w' hx' => run_loadOp hT hop hg hx hl hρ (hA.ext hx')) h
theorem run_indexOp (hT : TabOk P tab) {o : Oper} {T e : TypeId} {x ix : Operand} {t te : Ti} {ad : Addr} {n c : Nat} {k : IntKind} {j : Int} (hop : o.op = .indexAddr T x ix) (hg : tab.get T = some t) (hti : t.ti = .slice e) (hge : tab.get e = some te) (hx : ev E x = some (.slice (some ad) n c)) (hi : ev E ix = some (.int k j)) (h0 : 0 ≤ j) (h1 : j < n) {ρ : Operand → Value} (hρ : Knows E ρ) (w' : World) :
    (execOp ρ o).run P w' = .ok (.value (.pointer (some (ad.add (j.toNat * te.size))))) w' := by
  obtain ⟨d, hd, ho⟩ := (hT.get hg).desc
  rw [hti] at ho
  cases ho
  unfold execOp
  simp [hop, hρ x _ hx, hρ ix _ hi, Instr.indexAt, asIntOf, underlying, hd, h0, h1, (hT.get hge).run_sizeOf]
/-- '&x[i]', i in its bounds. -/
theorem RW.index {i d : Nat} {o : Oper} {r : OT} {T e : TypeId} {x ix : Operand} {t te : Ti} {ad : Addr} {n c : Nat} {k : IntKind} {j : Int} {A : Option Addr} (hT : TabOk P tab) (h0 : 0 ≤ j) (h1 : j < n) (hA : A = some ad) (hn : Nx ops N E i o d) (hop : o.op = .indexAddr T x ix) (hg : tab.get T = some t) (hti : t.ti = .slice e) (hge : tab.get e = some te) (hx : ev E x = some (.slice A n c)) (hi : ev E ix = some (.int k j))
    (h : RW P N ops Q r ((d, (.pointer (some (ad.add (j.toNat * te.size))))) :: E) w) : RW P N ops Q (.one i .W r) E w :=
  RW.stepW hn (fun ρ hρ w' => run_indexOp hT hop hg hti hge (by rw [hx, hA]) hi h0 h1 hρ w') h

/-! ### 11. New memory -/
theorem box_new (w : World) (T : TypeId) (cs : List Value) : Box (w.alloc (.cells cs.toArray T)).heap w.heap.size T cs := heap_alloc_new w _
/-- A new block, its cells told. -/
theorem RW.new {i d : Nat} {o : Oper} {r : OT} {T : TypeId} {cs : List Value} {c : Cls} {v : Nat → Value} (hc : c = .X ∨ c = .M) (hn : Nx ops N E i o d)
    (hrun : ∀ ρ, Knows E ρ → (execOp ρ o).run P w = .ok (.value (v w.heap.size)) (w.alloc (.cells cs.toArray T)))
    (h : ∀ b w', Ext w w' → w.heap.size ≤ b → Box w'.heap b T cs → RW P N ops Q r ((d, (v b)) :: E) w') : RW P N ops Q (.one i c r) E w :=
  RW.stepX hc hn hrun (Ext.alloc w _) (h _ _ (Ext.alloc w _) (Nat.le_refl _) (box_new w T cs))
theorem RW.box {i d : Nat} {o : Oper} {r : OT} {T : TypeId} {x : Operand} {cs : List Value} {u : Value} {c : Cls} (hc : c = .X ∨ c = .M) (hn : Nx ops N E i o d) (hop : o.op = .box T x) (hx : ev E x = some u) (hu : u.cells = cs.toArray)
    (h : ∀ b w', Ext w w' → w.heap.size ≤ b → Box w'.heap b T cs → RW P N ops Q r ((d, (.pointer (some ⟨b, 0, none⟩))) :: E) w') : RW P N ops Q (.one i c r) E w :=
  RW.new (v := fun b => .pointer (some ⟨b, 0, none⟩)) hc hn (fun ρ hρ => by
    unfold execOp
    simp [hop, hρ x _ hx, Instr.box, newVar, newRow, hu]) h
theorem ofCells_cells {T : TypeId} {t : Ti} (hk : TiOk P T t) : (ofCells t.ti t.zero).cells = t.zero.toArray := by
  have h1 := hk.one
  have h2 := hk.len
  have h3 := hk.scal
  cases hti : t.ti <;> try rfl
  all_goals
    rw [hti] at h3
    have h4 := h3 rfl
    rw [h4] at h2
    match hz : t.zero, h2 with
    | [v], _ =>
      rw [hz] at h1
      simp only [List.all_cons, List.all_nil, Bool.and_true] at h1
      cases v <;> first | rfl | simp [Value.oneCell'] at h1
theorem RW.alloc {i d : Nat} {o : Oper} {r : OT} {T : TypeId} {t : Ti} {c : Cls} (hT : TabOk P tab) (hc : c = .X ∨ c = .M) (hn : Nx ops N E i o d) (hop : o.op = .alloc T) (hg : tab.get T = some t)
    (h : ∀ b w', Ext w w' → w.heap.size ≤ b → Box w'.heap b T t.zero → RW P N ops Q r ((d, (.pointer (some ⟨b, 0, none⟩))) :: E) w') : RW P N ops Q (.one i c r) E w :=
  RW.new (v := fun b => .pointer (some ⟨b, 0, none⟩)) hc hn (fun ρ hρ => by
    unfold execOp
    simp [hop, Instr.alloc, (hT.get hg).run_zero, newVar, newRow, ofCells_cells (hT.get hg)]) h
/-- The places of a row's elements. -/
def rowPl (len size : Nat) : List (Nat × Nat) := (List.range len).map fun i => (i * size, size)
def rowZero (zero : List Value) : Nat → List Value
  | 0 => []
  | n + 1 => zero ++ rowZero zero n
theorem rowZero_eq (z : List Value) : ∀ len : Nat, (List.range (len * z.length)).map (fun x => (z.toArray)[x % z.toArray.size]!) = rowZero z len
  | 0 => by simp [rowZero]
  | m + 1 => by
    rw [show (m + 1) * z.length = z.length + m * z.length by rw [Nat.add_mul]; omega, List.range_add, List.map_append]
    show _ = z ++ rowZero z m
    congr 1
    · apply List.ext_getElem
      · simp
      · intro j h1 h2
        simp at h1
        have hj := Nat.mod_eq_of_lt h1
        simp [hj, h1]
    · rw [← rowZero_eq z m, List.map_map]
      apply List.map_congr_left
      intro j _
      simp [Function.comp, Nat.add_mod_left]
theorem RW.buildSlice {i d : Nat} {o : Oper} {r : OT} {T e : TypeId} {len : Nat} {parts : Array (Nat × Operand)} {t te : Ti} {ps : List (Nat × Value)} {cs : List Value} {c : Cls} (hT : TabOk P tab) (hc : c = .X ∨ c = .M) (hn : Nx ops N E i o d) (hop : o.op = .buildSlice T len parts) (hg : tab.get T = some t) (hti : t.ti = .slice e) (hge : tab.get e = some te) (hps : pairsEv E parts.toList = some ps) (hsm : Nat.ble (len * te.size) 1000 = true) (hcs : layCells (rowPl len te.size) (rowZero te.zero len) ps = some cs)
    (h : ∀ b w', Ext w w' → w.heap.size ≤ b → Box w'.heap b e cs → RW P N ops Q r ((d, (.slice (some ⟨b, 0, none⟩) len len)) :: E) w') : RW P N ops Q (.one i c r) E w :=
  RW.new (v := fun b => .slice (some ⟨b, 0, none⟩) len len) hc hn (fun ρ hρ => by
    have hke := hT.get hge
    obtain ⟨d, hd, ho⟩ := (hT.get hg).desc
    rw [hti] at ho
    cases ho
    have hsm' := Nat.le_of_ble_eq_true hsm
    have e1 : (parts.map fun (i, x) => (i, ρ x)).toList = ps := by rw [← hρ.pairs hps, Array.toList_map]
    have hz0 : (Array.range (len * te.size)).map (fun x => (te.zero.toArray)[x % te.zero.toArray.size]!) = (rowZero te.zero len).toArray := by
      apply Array.ext'
      simp only [Array.toList_map, Array.toList_range]
      rw [← hke.len]
      exact rowZero_eq te.zero len
    have hfl := fill_layCells (rowPl len te.size) (fun i => some (i * te.size, te.size)) (fun i p hp => by
      simp only [rowPl, List.getElem?_map] at hp
      cases hr : (List.range len)[i]? with
      | none => rw [hr] at hp; cases hp
      | some q =>
        rw [hr] at hp
        simp only [Option.map_some, Option.some.injEq] at hp
        have := (List.getElem?_eq_some_iff.1 hr).2
        simp at this
        rw [← hp, this]) ps _ cs hcs
    have hn2 : ¬ (len * te.size > 2 ^ 24) := by omega
    have hfl2 : Instr.fill (fun i => some (i * te.size, te.size)) ((Array.range (len * te.size)).map (fun x => (te.zero.toArray)[x % te.zero.toArray.size]!)) ps = some cs.toArray := by rw [hz0]; exact hfl
    unfold execOp
    simp only [hop, Instr.buildSlice, Sem.run_bind, underlying, run_program, Result.andThen_ok, hd, Sem.run_pure, hke.run_sizeOf, if_neg hn2, e1]
    by_cases hz : len * te.size = 0
    · have hemp : (Array.range (len * te.size)).map (fun x => (#[] : Array Value)[x % (#[] : Array Value).size]!) = (rowZero te.zero len).toArray := by
        have hl0 : len = 0 := by
          rcases Nat.mul_eq_zero.1 hz with h | h
          · exact h
          · have := hke.pos; omega
        subst hl0
        simp [rowZero]
      simp only [hz, if_true, Sem.run_pure, Result.andThen_ok] at hemp ⊢
      have hfl3 := hfl
      rw [← hemp] at hfl3
      rw [Sem.run_bind, Sem.run_pure, Result.andThen_ok, hfl3]
      rfl
    · simp only [hz, if_false, Sem.run_bind, hke.run_zero, Result.andThen_ok, Sem.run_pure, ofCells_cells hke, hfl2]
      rfl) h

/-! ### 12. A store into a block whose cells are told -/
def lay (cs : List Value) (o : Nat) : List Value → List Value
  | [] => cs
  | u :: r => lay (cs.set o u) (o + 1) r
theorem lay_length (us : List Value) : ∀ (cs : List Value) (o : Nat), (lay cs o us).length = cs.length := by
  induction us with
  | nil => intro cs o; rfl
  | cons u r ih => intro cs o; rw [lay, ih]; simp
theorem lay_get (us : List Value) : ∀ (cs : List Value) (o : Nat), o + us.length ≤ cs.length → ∀ j, (lay cs o us)[j]? = if o ≤ j ∧ j < o + us.length then us[j - o]? else cs[j]? := by
  induction us with
  | nil => intro cs o h j; simp only [lay, List.length_nil]; rw [if_neg (by omega)]
  | cons u r ih =>
    intro cs o h j
    simp only [List.length_cons] at h
    rw [lay, ih _ _ (by simp; omega)]
    simp only [List.length_cons, List.getElem?_set, List.getElem?_cons]
    grind
theorem lay_eq (us cs : List Value) (o : Nat) (h : o + us.length ≤ cs.length) : cs.take o ++ us ++ cs.drop (o + us.length) = lay cs o us := by
  apply List.ext_getElem?
  intro j
  rw [lay_get us cs o h, List.append_assoc, List.getElem?_append, List.getElem?_append, List.length_take, List.getElem?_take, List.getElem?_drop]
  by_cases h1 : j < o
  · rw [if_pos (by omega), if_pos h1, if_neg (by omega)]
  · rw [if_neg (by omega)]
    have e : min o cs.length = o := by omega
    rw [e]
    by_cases h2 : j < o + us.length
    · rw [if_pos (by omega), if_pos ⟨by omega, h2⟩]
    · rw [if_neg (by omega), if_neg (by omega)]
      congr 1
      omega
/-- What a store of cells into a block leaves. -/
theorem setRow_upd {w : World} {b : Nat} {cur cs : Array Value} {T : TypeId} (hb : w.heap[b]? = some (.cells cur T (0, 0))) : Upd (fun i _ => i = b) w (w.setRow b cs) ∧ (w.setRow b cs).heap[b]? = some (.cells cs T (0, 0)) :=
  ⟨⟨rfl, rfl, rfl, by simp, fun i _ hi => setRow_other w b i cs hi⟩, setRow_heap w b cur cs T _ hb⟩
theorem run_storeBlock {T0 : TypeId} {t0 : Ti} (hk : TiOk P T0 t0) {w : World} {b o : Nat} {cur : Array Value} {T : TypeId} (hb : w.heap[b]? = some (.cells cur T (0, 0))) {v : Value} {us : List Value} (hu : v.cells = us.toArray) (hl : us.length = t0.size) (h1 : ∀ u ∈ us, u.oneCell' = true) (hfit : o + us.length ≤ cur.size) :
    (storeVar T0 ⟨b, o, none⟩ v).run P w = .ok () (w.setRow b (lay cur.toList o us).toArray) := by
  have h := run_storeCells_at P b o T us 0 cur w hb (by omega) h1
  simp only [Nat.add_zero] at h
  rw [lay_eq us cur.toList o (by simpa using hfit)] at h
  unfold storeVar
  simp only [hu, List.size_toArray, Sem.run_bind, hk.run_sizeOf, Result.andThen_ok, hl]
  simp [h]
theorem RW.storeBox {i : Nat} {o : Oper} {r : OT} {T0 T : TypeId} {x y : Operand} {t0 : Ti} {b off : Nat} {cs : List Value} {v : Value} (hT : TabOk P tab) (hb : Box w.heap b T cs) (us : List Value) (hn : Nx0 ops E i o) (hop : o.op = .store T0 x y) (hg : tab.get T0 = some t0) (hx : ev E x = some (.pointer (some ⟨b, off, none⟩))) (hy : ev E y = some v) (hu : v.cells = us.toArray) (hl : us.length = t0.size) (h1 : us.all Value.oneCell' = true) (hfit : Nat.ble (off + us.length) cs.length = true)
    (h : ∀ w', Upd (fun j _ => j = b) w w' → Box w'.heap b T (lay cs off us) → RW P N ops Q r E w') : RW P N ops Q (.one i .M r) E w := by
  have hs := setRow_upd (w := w) (b := b) (cs := (lay cs off us).toArray) hb
  refine RW.stepS hn (fun ρ hρ => ?_) (h _ hs.1 hs.2)
  have := run_storeBlock (hT.get hg) (o := off) hb hu hl (fun u hh => List.all_eq_true.1 h1 u hh) (by simpa using Nat.le_of_ble_eq_true hfit)
  unfold execOp
  simp only [hop, hρ x _ hx, hρ y _ hy, Instr.storeAt, Instr.sureAddr, Sem.run_bind, Sem.run_pure, Result.andThen_ok]
  rw [show (lay cs off us).toArray = (lay cs.toArray.toList off us).toArray by simp, this]
  rfl

/-! ### 13. Entry, return -/
theorem calls_enter {f : FuncId} {fn : Func} {c : Code} {R : Ending → World → Prop} (hf : P.funcs[f]? = some fn) (hb : fn.body = some c) (n : Nat) (hn : fn.ntmps = n) (args : List Value) (hle : Nat.ble args.length n = true) (E : Env) (hE : ∀ t v, Env.get E t = some v → args[t]? = some v)
    (h : CW P n c (bodyPost P fn R) E w) : Calls P f args.toArray w R := by
  subst hn
  have hle' := Nat.le_of_ble_eq_true hle
  refine calls_of_wp hf hb (h PS.body _ ⟨rfl, by simp; omega, fun t v hv => ?_⟩)
  have := hE t v hv
  have hlt := (List.getElem?_eq_some_iff.1 this).1
  simp only
  rw [Array.getElem?_append_left (by simpa using hlt)]
  simpa using this
/-- The slots of the arguments. -/
def argEnv : List Value → Nat → Env
  | [], _ => []
  | v :: r, k => (k, v) :: argEnv r (k + 1)
theorem argEnv_get : ∀ (args : List Value) (k t : Nat) (v : Value), Env.get (argEnv args k) t = some v → ∃ j, t = k + j ∧ args[j]? = some v
  | [], k, t, v, h => by simp [argEnv, Env.get] at h
  | u :: r, k, t, v, h => by
    unfold argEnv at h
    rw [Env.get_cons] at h
    split at h
    · rename_i e; exact ⟨0, e.symm, h⟩
    · obtain ⟨j, hj, hv⟩ := argEnv_get r (k + 1) t v h
      exact ⟨j + 1, by omega, hv⟩
theorem calls_start {f : FuncId} {fn : Func} {c : Code} {R : Ending → World → Prop} (hf : P.funcs[f]? = some fn) (hb : fn.body = some c) (n : Nat) (hn : fn.ntmps = n) (args : List Value) (hle : Nat.ble args.length n = true)
    (h : CW P n c (bodyPost P fn R) (argEnv args 0) w) : Calls P f args.toArray w R :=
  calls_enter hf hb n hn args hle (argEnv args 0) (fun t v hv => by obtain ⟨j, hj, hh⟩ := argEnv_get args 0 t v hv; rw [Nat.zero_add] at hj; subst hj; exact hh) h
/-- What a result's variable holds. -/
def resOne (P : Program) (E : Env) (h : Heap) : ResultVar → Value → Prop
  | .tmp t, v => E.get t = some v
  | .cell a T, v => ∃ p t cs, E.get a = some (.pointer (some p)) ∧ TiOk P T t ∧ At h p cs ∧ cs.length = t.size ∧ v = ofCells t.ti cs
theorem resOne_cell {T a : Nat} {t : Ti} {p : Addr} {cs : List Value} {h : Heap} (hT : TabOk P tab) (hA : At h p cs) (hp : E.get a = some (.pointer (some p))) (hg : tab.get T = some t) (hl : cs.length = t.size) : resOne P E h (.cell a T) (ofCells t.ti cs) := ⟨p, t, cs, hp, hT.get hg, hA, hl, rfl⟩
def resSem (tmps : Array Value) : ResultVar → Sem Value
  | .tmp t => pure (tmps.getD t undef)
  | .cell a T => do loadVar T (← asAddr (tmps.getD a undef))
theorem results_eq (fn : Func) (tmps : Array Value) : results fn tmps = (do let vs ← fn.results.mapM (resSem tmps); pure (if h : vs.size = 1 then vs[0] else .tuple vs)) := by
  unfold results
  congr 1
theorem run_resOne {rv : ResultVar} {v : Value} (h : resOne P E w.heap rv v) {a : Act} (ha : Sat N E a) : (resSem a.tmps rv).run P w = .ok v w := by
  cases rv with
  | tmp t =>
    have := ha.get t v h
    simp [resSem, this]
  | cell b T =>
    obtain ⟨p, t, cs, hb, hk, hA, hl, rfl⟩ := h
    have := ha.get b _ hb
    simp [resSem, this, asAddr, run_loadVar hk hA hl]
theorem NW.ret0 {fn : Func} {R : Ending → World → Prop} (hr : fn.results = #[]) (h : R (.returned (.tuple #[])) w) : NW N .ret (bodyPost P fn R) E w := fun _ a ha => ⟨ha.defers, _, by simp [results, hr], h⟩
theorem NW.ret1 {fn : Func} {R : Ending → World → Prop} {r1 : ResultVar} {v1 : Value} (hr : fn.results = #[r1]) (h1 : resOne P E w.heap r1 v1) (h : R (.returned v1) w) : NW N .ret (bodyPost P fn R) E w := fun _ a ha => by
  refine ⟨ha.defers, v1, ?_, h⟩
  have e1 := run_resOne h1 ha
  rw [results_eq]
  simp only [hr, List.mapM_toArray, List.mapM_cons, List.mapM_nil, Sem.run_bind, Sem.run_map]
  rw [e1]
  simp
theorem NW.ret2 {fn : Func} {R : Ending → World → Prop} {r1 r2 : ResultVar} {v1 v2 : Value} (hr : fn.results = #[r1, r2]) (h1 : resOne P E w.heap r1 v1) (h2 : resOne P E w.heap r2 v2) (h : R (.returned (.tuple #[v1, v2])) w) : NW N .ret (bodyPost P fn R) E w := fun _ a ha => by
  refine ⟨ha.defers, _, ?_, h⟩
  have e1 := run_resOne h1 ha
  have e2 := run_resOne h2 ha
  rw [results_eq]
  simp only [hr, List.mapM_toArray, List.mapM_cons, List.mapM_nil, Sem.run_bind, Sem.run_map]
  rw [e1]
  simp only [Result.andThen_ok]
  rw [e2]
  simp
theorem NW.ret3 {fn : Func} {R : Ending → World → Prop} {r1 r2 r3 : ResultVar} {v1 v2 v3 : Value} (hr : fn.results = #[r1, r2, r3]) (h1 : resOne P E w.heap r1 v1) (h2 : resOne P E w.heap r2 v2) (h3 : resOne P E w.heap r3 v3) (h : R (.returned (.tuple #[v1, v2, v3])) w) : NW N .ret (bodyPost P fn R) E w := fun _ a ha => by
  refine ⟨ha.defers, _, ?_, h⟩
  have e1 := run_resOne h1 ha
  have e2 := run_resOne h2 ha
  have e3 := run_resOne h3 ha
  rw [results_eq]
  simp only [hr, List.mapM_toArray, List.mapM_cons, List.mapM_nil, Sem.run_bind, Sem.run_map]
  rw [e1]
  simp only [Result.andThen_ok]
  rw [e2]
  simp only [Result.andThen_ok]
  rw [e3]
  simp
end
end Go.H
