/- The plain law of SegTwos. -/
import Derived.Test.YtnaajldlloglkaaDoorSegP7
set_option linter.unusedVariables false
set_option linter.unusedSimpArgs false
namespace Go.Proofs.YtnaajldlloglkaaDoor.W
open Go.H
section
variable {p : hermitagelaw1Ask} {k : Nat} {i j : Nat} {re2 : Int → Option Bool} {l m : List Seg} {y4 y5 y6 : List Seg × Int}
theorem Twos_l4 : ∀ (n it : Nat) (lt : List Seg), lt.length ≤ 64 → it ≤ lt.length → lt.length - it < n → hermitagelaw1_SegTwos.l4 p k i j l m re2 n lt it = hermitagelaw1_SegTwos.j7 p k i j l m re2
  | 0, it, lt, _, _, h => by omega
  | n + 1, it, lt, h64, hi, hn => by
    unfold hermitagelaw1_SegTwos.l4
    by_cases c : it < lt.length
    · rw [if_pos (by omega), if_pos ⟨by omega, by omega⟩, w64_succ c (by omega)]
      exact Twos_l4 n (it + 1) _ (by rw [List.length_set]; exact h64) (by rw [List.length_set]; omega) (by rw [List.length_set]; omega)
    · rw [if_neg (by omega)]
theorem Twos_l3 : ∀ (n it : Nat) (lt : List Seg), lt.length ≤ 64 → it ≤ lt.length → lt.length - it < n → hermitagelaw1_SegTwos.l3 p k i j l m y6 re2 n lt it = hermitagelaw1_SegTwos.j6 p k i j l m y6 re2
  | 0, it, lt, _, _, h => by omega
  | n + 1, it, lt, h64, hi, hn => by
    unfold hermitagelaw1_SegTwos.l3
    by_cases c : it < lt.length
    · rw [if_pos (by omega), if_pos ⟨by omega, by omega⟩, w64_succ c (by omega)]
      exact Twos_l3 n (it + 1) _ (by rw [List.length_set]; exact h64) (by rw [List.length_set]; omega) (by rw [List.length_set]; omega)
    · rw [if_neg (by omega)]
theorem Twos_l2 : ∀ (n it : Nat) (lt : List Seg), lt.length ≤ 64 → it ≤ lt.length → lt.length - it < n → hermitagelaw1_SegTwos.l2 p k i j l m y5 y6 re2 n lt it = hermitagelaw1_SegTwos.j5 p k i j l m y5 y6 re2
  | 0, it, lt, _, _, h => by omega
  | n + 1, it, lt, h64, hi, hn => by
    unfold hermitagelaw1_SegTwos.l2
    by_cases c : it < lt.length
    · rw [if_pos (by omega), if_pos ⟨by omega, by omega⟩, w64_succ c (by omega)]
      exact Twos_l2 n (it + 1) _ (by rw [List.length_set]; exact h64) (by rw [List.length_set]; omega) (by rw [List.length_set]; omega)
    · rw [if_neg (by omega)]
theorem Twos_j2 (hk : 1000 < k) (ci : i < p.L.length) (cj : j < p.L.length) (hl : l = p.L[i]) (hm : m = p.L[j]) (hll : l.length ≤ 500) (hml : m.length ≤ 500) {e : Int} {x y z : List Seg} (hx : x.length ≤ 64) (hy : y.length ≤ 64) (hz : z.length ≤ 64) :
    hermitagelaw1_SegTwos.j2 p k i j l m (x, e) (y, e) (z, e) re2 e x y z = re2 (w64 ((j : Int) + 1)) := by
  have gi : (0 : Int) ≤ (i : Int) ∧ (i : Int) < (p.L.length : Int) := ⟨by omega, by omega⟩
  have gj : (0 : Int) ≤ (j : Int) ∧ (j : Int) < (p.L.length : Int) := ⟨by omega, by omega⟩
  have last : hermitagelaw1_SegTwos.j7 p k i j l m re2 = re2 (w64 ((j : Int) + 1)) := by
    unfold hermitagelaw1_SegTwos.j7
    rw [if_pos gi, rd_nat ci, rd_nat cj, ← hl, ← hm, EqSegs_eq (by omega) (by omega), EqSegs_eq (by omega) (by omega)]
    simp only [Option.bind_some, decide_true, if_true, if_pos gj]
    rfl
  unfold hermitagelaw1_SegTwos.j2
  simp only [hermitagelaw1_num.f, Option.bind_some, if_true]
  rw [EqSegs_eq (l := x) (by omega) (by omega), EqSegs_eq (l := y) (by omega) (by omega), EqSegs_eq (l := z) (by omega) (by omega), if_pos gi, rd_nat ci, rd_nat cj, ← hl, ← hm, EqSegs_eq (l := l) (by omega) (by omega), EqSegs_eq (l := m) (by omega) (by omega)]
  simp only [Option.bind_some, decide_true, if_true, if_pos gj, Bool.not_true]
  unfold hermitagelaw1_SegTwos.j4
  rw [if_neg (by decide)]
  refine (Twos_l2 k 0 x hx (by omega) (by omega)).trans ?_
  unfold hermitagelaw1_SegTwos.j5
  refine (Twos_l3 k 0 y hy (by omega) (by omega)).trans ?_
  unfold hermitagelaw1_SegTwos.j6
  exact (Twos_l4 k 0 z hz (by omega) (by omega)).trans last
theorem Twos_j1 (hk : 1000 < k) (hel : ∀ l ∈ p.L, l.length ≤ 500) (ci : i < p.L.length) (cj : j < p.L.length) (re0 : Int → Option Bool) : hermitagelaw1_SegTwos.j1 p k i j re0 re2 true = re2 (w64 ((j : Int) + 1)) := by
  have gi : (0 : Int) ≤ (i : Int) ∧ (i : Int) < (p.L.length : Int) := ⟨by omega, by omega⟩
  have gj : (0 : Int) ≤ (j : Int) ∧ (j : Int) < (p.L.length : Int) := ⟨by omega, by omega⟩
  have hll := hel p.L[i] (List.getElem_mem ci)
  have hml := hel p.L[j] (List.getElem_mem cj)
  unfold hermitagelaw1_SegTwos.j1
  rw [if_pos rfl, if_pos gi, if_pos gj, rd_nat ci, rd_nat cj, Copy_eq hll (by omega), Copy_eq hml (by omega)]
  simp only [Option.bind_some]
  rw [Less_eq hk hll hml, Both_eq hk hll hml, Join_eq (by simp) (by simp; omega) (by omega) (fun l hl => by
    simp only [List.mem_cons, List.not_mem_nil, or_false] at hl
    rcases hl with rfl | rfl <;> omega), Segs_eq (by omega) (by omega)]
  simp only [Option.bind_some, if_pos gi, if_pos gj]
  have ej : okAllL [p.L[i], p.L[j]] = (ok p.L[i] && ok p.L[j]) := by simp [okAllL]
  rw [ej]
  cases h1 : ok p.L[i] with
  | false =>
    simp only [Bool.false_and, Bool.false_eq_true, if_false]
    unfold hermitagelaw1_SegTwos.j3
    rw [if_neg (by decide)]
    exact Twos_j2 hk ci cj rfl rfl hll hml (by simp) (by simp) (by simp)
  | true =>
    simp only [Bool.true_and, if_true]
    rw [Segs_eq (by omega) (by omega)]
    simp only [Option.bind_some]
    cases h2 : ok p.L[j] with
    | false =>
      simp only [Bool.false_eq_true, if_false]
      unfold hermitagelaw1_SegTwos.j3
      rw [if_neg (by decide)]
      exact Twos_j2 hk ci cj rfl rfl hll hml (by simp) (by simp) (by simp)
    | true =>
      simp only [if_true]
      unfold hermitagelaw1_SegTwos.j3
      simp only [if_true, if_pos gi, if_pos gj]
      rw [rd_nat ci, rd_nat cj, Two_eq hk hll hml h1 h2, Two_eq hk hll hml h1 h2, Two_eq hk hll hml h1 h2]
      simp only [Option.bind_some]
      have e0 : (fun t => pick2 0 (mem p.L[i] t) (mem p.L[j] t)) = memAll [p.L[i], p.L[j]] := by funext t; simp [pick2, memAll]
      have e1 : (fun t => pick2 1 (mem p.L[i] t) (mem p.L[j] t)) = fun t => mem p.L[i] t && !mem p.L[j] t := by funext t; simp [pick2]
      have e2 : (fun t => pick2 2 (mem p.L[i] t) (mem p.L[j] t)) = fun t => mem p.L[i] t && mem p.L[j] t := by funext t; simp [pick2]
      rw [e0, e1, e2]
      exact Twos_j2 hk ci cj rfl rfl hll hml (segsOf_len _) (segsOf_len _) (segsOf_len _)
theorem Twos_l1 (hk : 1000 < k) (hp : p.L.length ≤ 500) (hel : ∀ l ∈ p.L, l.length ≤ 500) (ci : i < p.L.length) (re0 : Int → Option Bool) : ∀ (n j : Nat), j ≤ p.L.length → p.L.length - j < n → hermitagelaw1_SegTwos.l1 p k i re0 n j = re0 (w64 ((i : Int) + 1))
  | 0, j, _, h => by omega
  | n + 1, j, hj, hn => by
    unfold hermitagelaw1_SegTwos.l1
    by_cases c : j < p.L.length
    · rw [if_pos (by omega)]
      by_cases h5 : (j : Int) < 5
      · rw [decide_eq_true h5, Twos_j1 hk hel ci c, w64_succ c (by omega)]
        exact Twos_l1 hk hp hel ci re0 n (j + 1) (by omega) (by omega)
      · rw [decide_eq_false h5]; rfl
    · rw [if_neg (by omega)]; rfl
theorem Twos_end (hk : 1000 < k) (re0 : Int → Option Bool) (it : Int) : hermitagelaw1_SegTwos.j0 p k it re0 false = some true := by
  unfold hermitagelaw1_SegTwos.j0
  rw [if_neg (by decide), Join_eq (by simp) (by simp; omega) (by omega) (by simp)]
  have e : segsOf (memAll []) = [] := by decide +kernel
  rw [show okAllL [] = true from rfl, if_pos rfl, e]
  simp only [Option.bind_some, hermitagelaw1_num.f, if_true, List.length_nil]
  rw [if_pos (by rfl)]
  rw [wakes_eq (by omega)]
  rfl
theorem Twos_l0 (hk : 1000 < k) (hp : p.L.length ≤ 500) (hel : ∀ l ∈ p.L, l.length ≤ 500) : ∀ (n i : Nat), i ≤ p.L.length → p.L.length - i < n → hermitagelaw1_SegTwos.l0 p k n i = some true
  | 0, i, _, h => by omega
  | n + 1, i, hi, hn => by
    unfold hermitagelaw1_SegTwos.l0
    by_cases c : i < p.L.length
    · rw [if_pos (by omega)]
      by_cases h5 : (i : Int) < 5
      · rw [decide_eq_true h5]
        unfold hermitagelaw1_SegTwos.j0
        rw [if_pos rfl]
        refine (Twos_l1 hk hp hel c _ k 0 (by omega) (by omega)).trans ?_
        rw [w64_succ c (by omega)]
        exact Twos_l0 hk hp hel n (i + 1) (by omega) (by omega)
      · rw [decide_eq_false h5]; exact Twos_end hk _ _
    · rw [if_neg (by omega)]; exact Twos_end hk _ _
end
theorem SegTwos_true {p : hermitagelaw1Ask} (hs : Sized p) : ∃ k, hermitagelaw1_SegTwos.f k p = some true := by
  refine ⟨p.L.length + 1001, ?_⟩
  unfold hermitagelaw1_SegTwos.f
  obtain ⟨h, e, hh⟩ := Heavy_eq (k := p.L.length + 1001) hs (by omega)
  rw [e]
  simp only [Option.bind_some]
  cases h with
  | true => rw [if_pos rfl]
  | false =>
    rw [if_neg (by decide)]
    obtain ⟨h1, h2, h3⟩ := hh rfl
    exact Twos_l0 (by omega) h1 h3 _ 0 (by omega) (by omega)
end Go.Proofs.YtnaajldlloglkaaDoor.W
