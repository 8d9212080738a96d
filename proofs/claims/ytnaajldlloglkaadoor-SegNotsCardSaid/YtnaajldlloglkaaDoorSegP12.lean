/- The plain law of SegNots. -/
import Derived.Test.YtnaajldlloglkaaDoorSegP11
set_option linter.unusedVariables false
set_option linter.unusedSimpArgs false
namespace Go.Proofs.YtnaajldlloglkaaDoor.W
open Go.H
section
variable {p : hermitagelaw1Ask} {k : Nat} {i : Nat}
theorem Nots_l1 (hk : 1000 < k) (hp : p.L.length ≤ 500) (hel : ∀ l ∈ p.L, l.length ≤ 500) (ci : i < p.L.length) (re0 : Int → Option Bool) : ∀ (n j : Nat), j ≤ 65 → 65 - j < n → hermitagelaw1_SegNots.l1 p k i re0 n j = re0 (w64 ((i : Int) + 1))
  | 0, j, _, h => by omega
  | n + 1, j, hj, hn => by
    unfold hermitagelaw1_SegNots.l1
    by_cases c : j < 65
    · have gi : (0 : Int) ≤ (i : Int) ∧ (i : Int) < (p.L.length : Int) := ⟨by omega, by omega⟩
      have hll := hel p.L[i] (List.getElem_mem ci)
      have next : hermitagelaw1_SegNots.j1 (j : Int) (hermitagelaw1_SegNots.l1 p k i re0 n) = re0 (w64 ((i : Int) + 1)) := by
        unfold hermitagelaw1_SegNots.j1
        rw [w64_succ c (by omega)]
        exact Nots_l1 hk hp hel ci re0 n (j + 1) (by omega) (by omega)
      rw [if_pos (by omega)]
      simp only [if_pos gi]
      rw [rd_nat ci]
      generalize p.L[i] = l at *
      rw [Not_eq hk hll]
      simp only [Option.bind_some, hermitagelaw1_num.f]
      cases h1 : notB l (j : Int) with
      | false =>
        simp only [Bool.false_eq_true, if_false]
        rw [if_neg (by decide)]
        exact next
      | true =>
        rw [if_pos rfl, if_pos rfl]
        have hok : ok l = true := by unfold notB at h1; simp only [Bool.and_eq_true] at h1; exact h1.1
        have hb : below l (j : Int) = true := by unfold notB at h1; simp only [Bool.and_eq_true] at h1; exact h1.2.2.2
        have hxl := segsOf_len fun i => decide ((i : Int) < (j : Int)) && !mem l i
        have hxo := segsOf_ok fun i => decide ((i : Int) < (j : Int)) && !mem l i
        have hxm : ∀ t, t < 64 → mem (segsOf fun i => decide ((i : Int) < (j : Int)) && !mem l i) t = (decide ((t : Int) < (j : Int)) && !mem l t) := fun t ht => mem_segsOf ht
        generalize (segsOf fun i => decide ((i : Int) < (j : Int)) && !mem l i) = x at *
        rw [Join_eq (by simp) (by simp; omega) (by omega) (fun l hl => by
          simp only [List.mem_cons, List.not_mem_nil, or_false] at hl
          rcases hl with rfl | rfl <;> omega), if_pos (by simp [okAllL, hxo, hok])]
        simp only [Option.bind_some, if_true]
        rw [Both_eq hk (by omega) hll, if_pos (by simp [hxo, hok])]
        simp only [Option.bind_some, if_true]
        have e1 : (segsOf fun i => mem x i && mem l i) = [] := by
          rw [← segsOf_none]
          refine segsOf_congr fun t ht => ?_
          rw [hxm t ht]
          cases mem l t <;> simp
        rw [e1]
        have hal := segsOf_len (memAll [x, l])
        rw [segCount_eq hk (by omega), if_pos (segsOf_ok _)]
        have e2 : (secFrom 0 (mem (segsOf (memAll [x, l])))).length = j := by
          refine Eq.trans ?_ (sec_below ⟨j, c⟩)
          congr 1
          refine secFrom_congr 64 0 rfl fun t _ ht => ?_
          rw [mem_segsOf ht]
          simp only [memAll, Bool.or_false]
          rw [hxm t ht]
          cases hm : mem l t with
          | false => simp
          | true => have := below_iff.1 hb t ht hm; simp [this]
        rw [e2]
        simp only [Option.bind_some, if_true, List.length_nil]
        rw [if_neg (by decide), bne_f rfl]
        exact next
    · rw [if_neg (by omega)]
theorem Nots_end (hk : 1000 < k) (re0 : Int → Option Bool) (it : Int) : hermitagelaw1_SegNots.j0 p k it re0 false = some true := by
  unfold hermitagelaw1_SegNots.j0
  rw [if_neg (by decide), wakes_eq (by omega)]
  rfl
theorem Nots_l0 (hk : 1000 < k) (hp : p.L.length ≤ 500) (hel : ∀ l ∈ p.L, l.length ≤ 500) : ∀ (n i : Nat), i ≤ p.L.length → p.L.length - i < n → hermitagelaw1_SegNots.l0 p k n i = some true
  | 0, i, _, h => by omega
  | n + 1, i, hi, hn => by
    unfold hermitagelaw1_SegNots.l0
    by_cases c : i < p.L.length
    · rw [if_pos (by omega)]
      by_cases h5 : (i : Int) < 6
      · rw [decide_eq_true h5]
        unfold hermitagelaw1_SegNots.j0
        rw [if_pos rfl]
        refine (Nots_l1 hk hp hel c _ k 0 (by omega) (by omega)).trans ?_
        rw [w64_succ c (by omega)]
        exact Nots_l0 hk hp hel n (i + 1) (by omega) (by omega)
      · rw [decide_eq_false h5]; exact Nots_end hk _ _
    · rw [if_neg (by omega)]; exact Nots_end hk _ _
end
theorem SegNots_true {p : hermitagelaw1Ask} (hs : Sized p) : ∃ k, hermitagelaw1_SegNots.f k p = some true := by
  refine ⟨p.L.length + 1001, ?_⟩
  unfold hermitagelaw1_SegNots.f
  obtain ⟨h, e, hh⟩ := Heavy_eq (k := p.L.length + 1001) hs (by omega)
  rw [e]
  simp only [Option.bind_some]
  cases h with
  | true => rw [if_pos rfl]
  | false =>
    rw [if_neg (by decide)]
    obtain ⟨h1, h2, h3⟩ := hh rfl
    exact Nots_l0 (by omega) h1 h3 _ 0 (by omega) (by omega)
end Go.Proofs.YtnaajldlloglkaaDoor.W
