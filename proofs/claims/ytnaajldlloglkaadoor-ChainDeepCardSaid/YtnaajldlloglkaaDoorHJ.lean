/- Walking by explicit rules, part J: structs compared. Plain theorems over any program. -/
import Derived.Test.YtnaajldlloglkaaDoorHI
import Derived.Laws.StructEq
set_option linter.unusedVariables false
set_option linter.unusedSimpArgs false
namespace Go.H
open Go.RowKit
/-- Are the cells alike, field by field? (fields that are numbers or truths) -/
def flatEq (tab : Tab) (cs ds : List Value) : List Field → Option Bool
  | [] => some true
  | f :: r => match decide (f.name = "_") with
    | true => none
    | false => match (tab.get f.type).map (fun t : Ti => t.ti), cs[f.offset]?, ds[f.offset]?, flatEq tab cs ds r with
      | some (TI.int k), some (.int k1 a), some (.int k2 b), some q => match decide (k1 = k2) with
        | true => some ((a == b) && q)
        | false => none
      | some TI.bool, some (.bool a), some (.bool b), some q => some ((a == b) && q)
      | _, _, _, _ => none
section
variable {P : Program} {N : Nat} {Q : Exit → Act → World → Prop} {E : Env} {ops : List Oper} {tab : Tab}
theorem run_part {T : TypeId} {t : Ti} (hk : TiOk P T t) (ha : t.ti.agg = false) {cs : Array Value} {off : Nat} {v : Value} (hv : cs[off]? = some v) (w : World) : (part T cs off).run P w = .ok v w := by
  unfold part
  rw [Sem.run_bind, hk.run_isAgg, ha]
  simp [hv]
theorem run_flatEq (hT : TabOk P tab) (cs ds : List Value) (w : World) (d : Nat) : ∀ {fs : List Field} {b : Bool}, flatEq tab cs ds fs = some b → (Op.eqFields (d + 1) cs.toArray ds.toArray fs).run P w = .ok b w
  | [], b, h => by simp only [flatEq, Option.some.injEq] at h; subst h; rfl
  | f :: r, b, h => by
    unfold flatEq at h
    by_cases hn : f.name = "_"
    · rw [decide_eq_true hn] at h; cases h
    · rw [decide_eq_false hn] at h
      simp only at h
      cases hg : tab.get f.type with
      | none => rw [hg] at h; simp at h
      | some t =>
        rw [hg] at h
        cases hq : flatEq tab cs ds r with
        | none => rw [hq] at h; simp only [Option.map_some] at h; split at h <;> simp_all
        | some q =>
          have ih := run_flatEq hT cs ds w d hq
          rw [hq] at h
          have hk := hT.get hg
          simp only [Option.map_some] at h
          unfold Op.eqFields
          rw [if_pos hn]
          split at h
          · rename_i k k1 a k2 b' q' h1 h2 h3 h4
            cases h4
            simp only [Option.some.injEq] at h1
            by_cases e : k1 = k2
            · subst e
              rw [decide_eq_true rfl] at h
              simp only [Option.some.injEq] at h
              obtain ⟨dd, hd, ho⟩ := hk.desc
              rw [h1] at ho
              cases ho
              have p1 := run_part hk (by rw [h1]; rfl) (cs := cs.toArray) (off := f.offset) (by simpa using h2) w
              have p2 := run_part hk (by rw [h1]; rfl) (cs := ds.toArray) (off := f.offset) (by simpa using h3) w
              simp only [Sem.run_bind, p1, Result.andThen_ok, p2, run_equalIn_int w d f.type k1 k a b' hd]
              cases hab : (a == b')
              · rw [hab] at h; subst h; simp
              · rw [hab] at h; subst h; simpa using ih
            · rw [decide_eq_false e] at h; cases h
          · rename_i a b' q' h1 h2 h3 h4
            cases h4
            simp only [Option.some.injEq] at h1 h
            obtain ⟨dd, hd, ho⟩ := hk.desc
            rw [h1] at ho
            cases ho
            have p1 := run_part hk (by rw [h1]; rfl) (cs := cs.toArray) (off := f.offset) (by simpa using h2) w
            have p2 := run_part hk (by rw [h1]; rfl) (cs := ds.toArray) (off := f.offset) (by simpa using h3) w
            simp only [Sem.run_bind, p1, Result.andThen_ok, p2, run_equalIn_bool' w d f.type a b' hd]
            cases hab : (a == b')
            · rw [hab] at h; subst h; simp
            · rw [hab] at h; subst h; simpa using ih
          · cases h
theorem run_equalFlat (hT : TabOk P tab) {T : TypeId} {fs : Array Field} (hu : P.underlying T = some (.struct fs)) (hs : P.stoodInHeld T = false) (cs ds : List Value) {b : Bool} (hf : flatEq tab cs ds fs.toList = some b) (w : World) : (Op.equalIn 10000 T (.agg cs.toArray) (.agg ds.toArray)).run P w = .ok b w := by
  have e : P.fieldsOf T = fs := by unfold Program.fieldsOf; rw [hu]
  rw [run_equalIn_struct w 9999 T _ _ (by rw [e]; exact hu) hs, e]
  exact run_flatEq hT cs ds w 9998 hf
/-- Two structs compared. -/
theorem RW.eqAgg {w : World} {i d : Nat} {o : Oper} {r : OT} {op : BinOp} {T T2 : TypeId} {x y : Operand} {cs ds : List Value} {b v : Bool} (hm : P.eqGuardType P.depth T = false) (he : ∀ w', (Op.equalIn 10000 T (.agg cs.toArray) (.agg ds.toArray)).run P w' = .ok b w') (hn : Nx ops N E i o d) (hop : o.op = .binOp op T x y T2) (hx : ev E x = some (.agg cs.toArray)) (hy : ev E y = some (.agg ds.toArray)) (hv : (match op with | .eql => some b | .neq => some (!b) | _ => none) = some v)
    (h : RW P N ops Q r ((d, .bool v) :: E) w) : RW P N ops Q (.one i .W r) E w :=
  RW.stepW hn (fun ρ hρ w' => by
    have e1 := run_eqGuard_agg (P := P) w' op T x y cs.toArray ds.toArray hm
    have e2 := run_eql_struct (P := P) w' T cs.toArray ds.toArray
    have e3 := run_neq_struct (P := P) w' T cs.toArray ds.toArray
    rw [he w'] at e2 e3
    unfold execOp
    cases op <;> simp only at hv <;> try (cases hv; done)
    · cases hv
      simp [hop, hρ x _ hx, hρ y _ hy, e1, e2]
    · cases hv
      simp [hop, hρ x _ hx, hρ y _ hy, e1, e3]) h
end
end Go.H
