/- Plain facts: what is not in a list; how many sectors; which. -/
import Derived.Test.YtnaajldlloglkaaDoorSegP10
set_option linter.unusedVariables false
set_option linter.unusedSimpArgs false
namespace Go.Proofs.YtnaajldlloglkaaDoor.W
open Go.H
theorem IsSet.zero_iff {x : Int} {b : Nat → Bool} (hx : IsSet x b) : x = 0 ↔ ∀ i, i < 64 → b i = false := by
  constructor
  · rintro rfl i hi
    rw [← hx.bit i hi]
    simp
  · intro h
    exact IsSet.eq hx (IsSet.zero.congr fun i hi => (h i hi).symm)
/-- All sectors of l stand below n. -/
def below (l : List Seg) (n : Int) : Bool := (List.range 64).all fun i => !mem l i || decide ((i : Int) < n)
theorem below_iff {l : List Seg} {n : Int} : below l n = true ↔ ∀ i, i < 64 → mem l i = true → (i : Int) < n := by
  unfold below
  rw [List.all_eq_true]
  constructor
  · intro h i hi hm
    have := h i (List.mem_range.2 hi)
    rw [hm] at this
    simpa using this
  · intro h i hi
    have hi' := List.mem_range.1 hi
    cases hm : mem l i with
    | false => rfl
    | true => simpa using h i hi' hm
def notB (l : List Seg) (n : Int) : Bool := ok l && (decide (0 ≤ n) && (decide (n ≤ 64) && below l n))
theorem Not_eq {l : List Seg} {k : Nat} {n : Int} (hk : 1000 < k) (hl : l.length ≤ 500) : seg_Not.f k l n = some (if notB l n = true then (segsOf fun i => decide ((i : Int) < n) && !mem l i, 0) else ([], 1)) := by
  unfold seg_Not.f notB
  rw [May_eq (by omega) (by omega)]
  simp only [Option.bind_some]
  cases h1 : ok l with
  | false => rfl
  | true =>
    rw [if_pos rfl]
    by_cases h2 : n < 0
    · rw [if_pos h2, decide_eq_false (by omega)]; rfl
    rw [if_neg h2, decide_eq_true (show 0 ≤ n by omega)]
    by_cases h3 : 64 < n
    · rw [if_pos h3, decide_eq_false (by omega)]; rfl
    rw [if_neg h3, decide_eq_true (show n ≤ 64 by omega)]
    obtain ⟨x, e1, hx⟩ := Make_set (k := k) (by omega) (by omega) h1
    obtain ⟨y, e2, hy⟩ := To_set (n := n) (by omega) (by omega)
    rw [e1, e2]
    simp only [Option.bind_some, Bool.true_and]
    have hz := hx.andn hy
    unfold seg_Not.j0
    cases h4 : below l n with
    | true =>
      have h5 : uandn x y = 0 := hz.zero_iff.2 fun i hi => by
        cases hm : mem l i with
        | false => rfl
        | true => have := below_iff.1 h4 i hi hm; simp [this]
      rw [h5]
      rw [if_neg (by decide), e1, e2]
      simp only [Option.bind_some]
      rw [Set_Segs_eq (hy.andn hx) (by omega)]
      rfl
    | false =>
      have h5 : ¬ uandn x y = 0 := fun e => by
        have h6 := hz.zero_iff.1 e
        have : below l n = true := below_iff.2 fun i hi hm => by
          have := h6 i hi
          rw [hm] at this
          simpa using this
        rw [h4] at this
        cases this
      rw [bne_t h5]
      rfl
theorem segCount_eq {l : List Seg} {k : Nat} (hk : 1000 < k) (hl : l.length ≤ 500) : seg_Count.f k l = some (if ok l = true then (((secFrom 0 (mem l)).length : Int), 0) else (0, 1)) := by
  unfold seg_Count.f
  rw [May_eq (by omega) (by omega)]
  simp only [Option.bind_some]
  cases h1 : ok l with
  | false => rfl
  | true =>
    rw [if_pos rfl]
    obtain ⟨x, e1, hx⟩ := Make_set (k := k) (by omega) (by omega) h1
    rw [e1]
    simp only [Option.bind_some]
    rw [Count_eq hx]
    rfl
theorem segList_eq {l : List Seg} {k : Nat} (hk : 1000 < k) (hl : l.length ≤ 500) : seg_List.f k l = some (if ok l = true then ((secFrom 0 (mem l)).map fun (i : Nat) => (i : Int), 0) else ([], 1)) := by
  unfold seg_List.f
  rw [May_eq (by omega) (by omega)]
  simp only [Option.bind_some]
  cases h1 : ok l with
  | false => rfl
  | true =>
    rw [if_pos rfl]
    obtain ⟨x, e1, hx⟩ := Make_set (k := k) (by omega) (by omega) h1
    rw [e1]
    simp only [Option.bind_some]
    rw [Sectors_eq hx (by omega)]
    rfl
theorem segsOf_none : segsOf (fun _ => false) = [] := by decide +kernel
theorem sec_below : ∀ n : Fin 65, (secFrom 0 fun i => decide ((i : Int) < (n.val : Int))).length = n.val := by decide +kernel
end Go.Proofs.YtnaajldlloglkaaDoor.W
