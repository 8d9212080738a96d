/- The plain law of SegTells. -/
import Derived.Test.YtnaajldlloglkaaDoorSegP15
set_option linter.unusedVariables false
set_option linter.unusedSimpArgs false
namespace Go.Proofs.YtnaajldlloglkaaDoor.W
open Go.H
section
variable {p : hermitagelaw1Ask} {k : Nat} {i j : Nat} {l : List Seg} {re0 re5 : Int → Option Bool}
theorem Tells_j8 (hk : 1000 < k) (ci : i < p.L.length) (hl : l = p.L[i]) (hll : l.length ≤ 500) : hermitagelaw1_SegTells.j8 p k i l j re5 = re5 (w64 ((j : Int) + 1)) := by
  unfold hermitagelaw1_SegTells.j8
  rw [if_pos ⟨by omega, by omega⟩, rd_nat ci, ← hl, EqSegs_eq (by omega) (by omega)]
  simp
theorem Tells_l2 (hk : 1000 < k) (ci : i < p.L.length) (hl : l = p.L[i]) (hll : l.length ≤ 500) : ∀ (n it : Nat) (lt : List Seg), lt.length ≤ 64 → it ≤ lt.length → lt.length - it < n → hermitagelaw1_SegTells.l2 p k i l j re5 n lt it = re5 (w64 ((j : Int) + 1))
  | 0, it, lt, _, _, h => by omega
  | n + 1, it, lt, h64, hi, hn => by
    unfold hermitagelaw1_SegTells.l2
    by_cases c : it < lt.length
    · rw [if_pos (by omega), if_pos ⟨by omega, by omega⟩, w64_succ c (by omega)]
      exact Tells_l2 hk ci hl hll n (it + 1) _ (by rw [List.length_set]; exact h64) (by rw [List.length_set]; omega) (by rw [List.length_set]; omega)
    · rw [if_neg (by omega)]
      exact Tells_j8 hk ci hl hll
theorem Tells_j5 (hk : 1000 < k) (ci : i < p.L.length) (cj : j < (([0, 1, 63, 64, 65, (-1)] : List Int) ++ p.N).length) (hl : l = p.L[i]) (hll : l.length ≤ 500) {e g : Int} {x : List Seg} (hx : x.length ≤ 64) {v : Bool} (hv : v = (ok l && (inNum ((([0, 1, 63, 64, 65, (-1)] : List Int) ++ p.N)[j]) && mem l ((([0, 1, 63, 64, 65, (-1)] : List Int) ++ p.N)[j]).toNat))) :
    hermitagelaw1_SegTells.j5 p k i l (ok l) e j (v, e) (x, g) re5 g x = re5 (w64 ((j : Int) + 1)) := by
  have gi : (0 : Int) ≤ (i : Int) ∧ (i : Int) < (p.L.length : Int) := ⟨by omega, by omega⟩
  have last : hermitagelaw1_SegTells.j7 p k i l j (x, g) re5 false = re5 (w64 ((j : Int) + 1)) := by
    unfold hermitagelaw1_SegTells.j7
    rw [if_neg (by decide)]
    exact Tells_l2 hk ci hl hll k 0 x hx (by omega) (by omega)
  unfold hermitagelaw1_SegTells.j5
  simp only [hermitagelaw1_num.f, Option.bind_some, if_true]
  cases h1 : ok l with
  | false =>
    rw [h1] at hv
    subst hv
    rw [if_neg (by decide)]
    simp only [Bool.false_and, BEq.rfl, if_true]
    rw [EqSegs_eq (by omega) (by omega)]
    simp only [Option.bind_some, decide_true, if_true, if_pos gi]
    rw [rd_nat ci, ← hl, EqSegs_eq (by omega) (by omega)]
    simp only [Option.bind_some, decide_true, Bool.not_true]
    exact last
  | true =>
    rw [if_pos rfl, if_pos ⟨by omega, by omega⟩]
    simp only [if_pos gi]
    rw [rd_nat ci, rd_nat cj, ← hl, refHas_eq hk hll h1]
    rw [h1, Bool.true_and] at hv
    simp only [Option.bind_some]
    rw [hv]
    simp only [BEq.rfl, if_true]
    rw [EqSegs_eq (by omega) (by omega)]
    simp only [Option.bind_some, decide_true, if_true]
    rw [EqSegs_eq (by omega) (by omega)]
    simp only [Option.bind_some, decide_true, Bool.not_true]
    exact last
theorem Tells_j4 (hk : 1000 < k) (hN : p.N.length ≤ 500) (ci : i < p.L.length) (cj : j < (([0, 1, 63, 64, 65, (-1)] : List Int) ++ p.N).length) (hl : l = p.L[i]) (hll : l.length ≤ 500) {e : Int} (he : e = if ok l = true then 0 else 1) : hermitagelaw1_SegTells.j4 p k i l (ok l) e j re0 re5 true = re5 (w64 ((j : Int) + 1)) := by
  have gj : (0 : Int) ≤ (j : Int) ∧ (j : Int) < ((([0, 1, 63, 64, 65, (-1)] : List Int) ++ p.N).length : Int) := ⟨by omega, by omega⟩
  have gi : (0 : Int) ≤ (i : Int) ∧ (i : Int) < (p.L.length : Int) := ⟨by omega, by omega⟩
  unfold hermitagelaw1_SegTells.j4
  rw [if_pos rfl, if_pos gj, rd_nat cj, segHas_eq hk hll]
  simp only [Option.bind_some, if_pos gj]
  rw [Not_eq hk hll]
  simp only [Option.bind_some]
  have fin := fun (v : Bool) hv (x : List Seg) (g : Int) hx => Tells_j5 (re5 := re5) (v := v) (x := x) (e := e) (g := g) hk ci cj hl hll hx hv
  cases h1 : ok l with
  | false =>
    rw [h1] at he fin
    have : notB l (([0, 1, 63, 64, 65, (-1)] : List Int) ++ p.N)[j] = false := by unfold notB; rw [h1]; rfl
    rw [this]
    simp only [Bool.false_eq_true, if_false] at he ⊢
    unfold hermitagelaw1_SegTells.j6
    rw [if_neg (by decide)]
    subst he
    exact fin false (by simp) [] 1 (by simp)
  | true =>
    rw [h1] at he fin
    rw [if_pos rfl] at he ⊢
    rw [if_pos rfl, Num_eq]
    simp only [Option.bind_some, if_pos gi]
    rw [rd_nat ci, ← hl, Ends_eq hll h1]
    simp only [Option.bind_some]
    have fin' := fun (x : List Seg) (g : Int) hx => fin (inNum (([0, 1, 63, 64, 65, (-1)] : List Int) ++ p.N)[j] && mem l ((([0, 1, 63, 64, 65, (-1)] : List Int) ++ p.N)[j]).toNat) (by simp) x g hx
    subst he
    have gn : notB l (([0, 1, 63, 64, 65, (-1)] : List Int) ++ p.N)[j] = (decide (0 ≤ (([0, 1, 63, 64, 65, (-1)] : List Int) ++ p.N)[j]) && (decide ((([0, 1, 63, 64, 65, (-1)] : List Int) ++ p.N)[j] ≤ 64) && below l (([0, 1, 63, 64, 65, (-1)] : List Int) ++ p.N)[j])) := by unfold notB; rw [h1, Bool.true_and]
    rw [gn]
    generalize hm : (([0, 1, 63, 64, 65, (-1)] : List Int) ++ p.N)[j] = m at *
    by_cases a0 : 0 ≤ m
    · rw [decide_eq_true a0]
      by_cases a1 : m ≤ 64
      · rw [decide_eq_true a1, Bool.true_and, if_pos rfl, ends_below h1 a0, Bool.true_and, Bool.true_and]
        cases hb : below l m with
        | true =>
          rw [if_pos rfl]
          unfold hermitagelaw1_SegTells.j6
          rw [if_pos rfl, if_pos gj, if_pos gi, rd_nat ci, rd_nat cj, hm, ← hl, refNot_eq hk hll h1 a0 a1]
          simp only [Option.bind_some]
          exact fin' _ _ (segsOf_len _)
        | false =>
          rw [if_neg (by decide)]
          unfold hermitagelaw1_SegTells.j6
          rw [if_neg (by decide)]
          exact fin' [] 1 (by simp)
      · rw [decide_eq_false a1]
        simp only [Bool.and_false, Bool.false_and, Bool.false_eq_true, if_false]
        unfold hermitagelaw1_SegTells.j6
        rw [if_neg (by decide)]
        exact fin' [] 1 (by simp)
    · rw [decide_eq_false a0]
      simp only [Bool.and_false, Bool.false_and, Bool.false_eq_true, if_false]
      unfold hermitagelaw1_SegTells.j6
      rw [if_neg (by decide)]
      exact fin' [] 1 (by simp)
theorem Tells_l1 (hk : 1000 < k) (hp : p.L.length ≤ 500) (hN : p.N.length ≤ 500) (ci : i < p.L.length) (hl : l = p.L[i]) (hll : l.length ≤ 500) {e : Int} (he : e = if ok l = true then 0 else 1) : ∀ (n j : Nat), j ≤ (([0, 1, 63, 64, 65, (-1)] : List Int) ++ p.N).length → (([0, 1, 63, 64, 65, (-1)] : List Int) ++ p.N).length - j < n → hermitagelaw1_SegTells.l1 p k i l (ok l) e re0 n j = re0 (w64 ((i : Int) + 1))
  | 0, j, _, h => by omega
  | n + 1, j, hj, hn => by
    have hNl : (([0, 1, 63, 64, 65, (-1)] : List Int) ++ p.N).length ≤ 506 := by simp; omega
    unfold hermitagelaw1_SegTells.l1
    by_cases c : j < (([0, 1, 63, 64, 65, (-1)] : List Int) ++ p.N).length
    · rw [if_pos (by omega)]
      by_cases h5 : (j : Int) < 11
      · rw [decide_eq_true h5, Tells_j4 hk hN ci c hl hll he, w64_succ c (by omega)]
        exact Tells_l1 hk hp hN ci hl hll he n (j + 1) (by omega) (by omega)
      · rw [decide_eq_false h5]; rfl
    · rw [if_neg (by omega)]; rfl
theorem Tells_j2 (hk : 1000 < k) (hp : p.L.length ≤ 500) (hN : p.N.length ≤ 500) (ci : i < p.L.length) (hl : l = p.L[i]) (hll : l.length ≤ 500) {e c : Int} {x : List Int} (he : e = if ok l = true then 0 else 1) (hx : x.length ≤ 64) : hermitagelaw1_SegTells.j2 p k i l (ok l) (c, e) (x, e) re0 e c x = re0 (w64 ((i : Int) + 1)) := by
  have gi : (0 : Int) ≤ (i : Int) ∧ (i : Int) < (p.L.length : Int) := ⟨by omega, by omega⟩
  have hNl : (([0, 1, 63, 64, 65, (-1)] : List Int) ++ p.N).length ≤ 506 := by simp; omega
  unfold hermitagelaw1_SegTells.j2
  rw [Check_eq hll hk, ← he]
  simp only [hermitagelaw1_num.f, Option.bind_some, if_true]
  rw [EqNumbers_eq (by omega) (by omega)]
  simp only [Option.bind_some, decide_true, if_true, if_pos gi]
  rw [rd_nat ci, ← hl, EqSegs_eq (by omega) (by omega)]
  simp only [Option.bind_some, decide_true, Bool.not_true]
  unfold hermitagelaw1_SegTells.j3
  rw [if_neg (by decide)]
  exact Tells_l1 hk hp hN ci hl hll he k 0 (by omega) (by omega)
theorem Tells_j0 (hk : 1000 < k) (hp : p.L.length ≤ 500) (hN : p.N.length ≤ 500) (hel : ∀ l ∈ p.L, l.length ≤ 500) (ci : i < p.L.length) : hermitagelaw1_SegTells.j0 p k i re0 true = re0 (w64 ((i : Int) + 1)) := by
  have gi : (0 : Int) ≤ (i : Int) ∧ (i : Int) < (p.L.length : Int) := ⟨by omega, by omega⟩
  have hll := hel p.L[i] (List.getElem_mem ci)
  unfold hermitagelaw1_SegTells.j0
  rw [if_pos rfl, if_pos gi, rd_nat ci, Copy_eq hll (by omega)]
  simp only [Option.bind_some, if_pos gi]
  rw [Segs_eq (by omega) (by omega), segCount_eq hk hll, segList_eq hk hll]
  simp only [Option.bind_some]
  have fin := fun e c x he hx => Tells_j2 (re0 := re0) (e := e) (c := c) (x := x) hk hp hN ci rfl hll he hx
  generalize hl : p.L[i] = l at *
  cases h1 : ok l with
  | false =>
    rw [h1] at fin
    rw [if_neg (by decide)]
    exact fin _ _ _ rfl (by simp)
  | true =>
    rw [h1] at fin
    rw [if_pos rfl, refCount_eq hk hll h1, refList_eq hk hll h1]
    simp only [Option.bind_some, if_true]
    exact fin _ _ _ rfl (by rw [List.length_map]; exact secFrom_len _ _)
/-- A prefix of the numbers, some of them marked. -/
theorem Tells_l4 (hk : 1000 < k) (hN : p.N.length ≤ 500) {m : Nat} (cm : m ≤ (([0, 1, 63, 64, 65, (-1)] : List Int) ++ p.N).length) {re12 : Int → Option Bool} {y : List Seg × Int}
    (hy : y = if ((([0, 1, 63, 64, 65, (-1)] : List Int) ++ p.N).take m).all inNum = true then (segsOf fun t => decide ((t : Int) ∈ (([0, 1, 63, 64, 65, (-1)] : List Int) ++ p.N).take m), 0) else ([], 1)) : ∀ (n it : Nat) (e : Int) (s : Nat → Bool), it ≤ m → m - it < n →
    (e = if ((([0, 1, 63, 64, 65, (-1)] : List Int) ++ p.N).take it).all inNum = true then 0 else 1) → (∀ t : Nat, t < 64 → s t = decide ((t : Int) ∈ (([0, 1, 63, 64, 65, (-1)] : List Int) ++ p.N).take it)) →
    hermitagelaw1_SegTells.l4 p k m y re12 n e it s = re12 (w64 ((m : Int) + 1))
  | 0, it, e, s, _, h, _, _ => by omega
  | n + 1, it, e, s, hi, hn, he, hs => by
    have hNl : (([0, 1, 63, 64, 65, (-1)] : List Int) ++ p.N).length ≤ 506 := by simp; omega
    unfold hermitagelaw1_SegTells.l4
    by_cases c : it < m
    · have c2 : it < (([0, 1, 63, 64, 65, (-1)] : List Int) ++ p.N).length := by omega
      have g : (0 : Int) ≤ (it : Int) ∧ (it : Int) < ((([0, 1, 63, 64, 65, (-1)] : List Int) ++ p.N).length : Int) := ⟨by omega, by omega⟩
      rw [if_pos (by omega)]
      simp only [if_pos g]
      have et := List.take_succ_eq_append_getElem c2
      rw [rd_nat c2, Num_eq]
      simp only [Option.bind_some]
      have ih := Tells_l4 hk hN cm (re12 := re12) hy n (it + 1)
      rw [et] at ih
      generalize (([0, 1, 63, 64, 65, (-1)] : List Int) ++ p.N)[it] = v at *
      have eall : (((([0, 1, 63, 64, 65, (-1)] : List Int) ++ p.N).take it) ++ [v]).all inNum = (((([0, 1, 63, 64, 65, (-1)] : List Int) ++ p.N).take it).all inNum && inNum v) := by simp [List.all_append]
      rw [eall] at ih
      by_cases h1 : inNum v = true
      · have h1' := inNum_iff.1 h1
        rw [decide_eq_true (show 0 ≤ v by omega), decide_eq_true (show v ≤ 63 by omega), Bool.true_and, if_pos rfl, if_pos ⟨by omega, by omega⟩]
        unfold hermitagelaw1_SegTells.j11
        rw [w64_succ c2 (by omega)]
        refine ih e _ (by omega) (by omega) (by rw [h1, Bool.and_true]; exact he) fun t ht => ?_
        unfold updF
        by_cases ee : t = v.toNat
        · rw [if_pos ee, eq_comm, decide_eq_true_iff]
          have : (t : Int) = v := by omega
          rw [this]; simp
        · rw [if_neg ee, hs t ht, decide_eq_decide, List.mem_append, List.mem_singleton]
          have : ¬ (t : Int) = v := by omega
          simp [this]
      · have : (decide (0 ≤ v) && decide (v ≤ 63)) = false := by
          rw [Bool.eq_false_iff]
          intro hh
          simp at hh
          exact h1 (inNum_iff.2 ⟨by omega, by omega⟩)
        have h2 : inNum v = false := by simpa using h1
        rw [this, if_neg (by decide)]
        unfold hermitagelaw1_SegTells.j11
        rw [w64_succ c2 (by omega)]
        refine ih 1 _ (by omega) (by omega) (by rw [h2, Bool.and_false]; rfl) fun t ht => ?_
        rw [hs t ht, decide_eq_decide, List.mem_append, List.mem_singleton]
        have : ¬ (t : Int) = v := fun e => h1 (inNum_iff.2 ⟨by omega, by omega⟩)
        simp [this]
    · obtain rfl : it = m := by omega
      rw [if_neg (by omega)]
      have fin : ∀ (x : List Seg) (e : Int), x.length ≤ 64 → hermitagelaw1_SegTells.j12 k it (x, e) e re12 x = re12 (w64 ((it : Int) + 1)) := fun x e hx => by
        unfold hermitagelaw1_SegTells.j12
        simp only [hermitagelaw1_num.f, Option.bind_some, if_true]
        rw [EqSegs_eq (by omega) (by omega)]
        simp only [Option.bind_some, decide_true, Bool.not_true]
        unfold hermitagelaw1_SegTells.j13
        rw [if_neg (by decide)]
        rfl
      cases h1 : ((([0, 1, 63, 64, 65, (-1)] : List Int) ++ p.N).take it).all inNum with
      | true =>
        rw [h1, if_pos rfl] at hy
        rw [h1, if_pos rfl] at he
        rw [if_pos he, Of_eq (by omega), segsOf_congr hs]
        simp only [Option.bind_some]
        subst he
        rw [hy]
        exact fin _ _ (segsOf_len _)
      | false =>
        rw [h1, if_neg (by decide)] at hy
        rw [h1, if_neg (by decide)] at he
        subst he
        rw [if_neg (by decide), hy]
        exact fin _ _ (by simp)
theorem Tells_l3 (hk : 1000 < k) (hN : p.N.length ≤ 500) : ∀ (n m : Nat), m ≤ (([0, 1, 63, 64, 65, (-1)] : List Int) ++ p.N).length + 1 → (([0, 1, 63, 64, 65, (-1)] : List Int) ++ p.N).length + 1 - m < n → hermitagelaw1_SegTells.l3 p k n m = some true
  | 0, m, _, h => by omega
  | n + 1, m, hm, hn => by
    have hNl : (([0, 1, 63, 64, 65, (-1)] : List Int) ++ p.N).length ≤ 506 := by simp; omega
    have last : ∀ re, hermitagelaw1_SegTells.j9 p k (m : Int) re false = some true := fun re => by
      unfold hermitagelaw1_SegTells.j9
      rw [if_neg (by decide), wakes_eq (by omega)]
      rfl
    unfold hermitagelaw1_SegTells.l3
    by_cases c : m ≤ (([0, 1, 63, 64, 65, (-1)] : List Int) ++ p.N).length
    · rw [if_pos (by omega)]
      by_cases h5 : (m : Int) < 11
      · rw [decide_eq_true h5]
        unfold hermitagelaw1_SegTells.j9
        rw [if_pos rfl, if_pos ⟨by omega, by omega⟩, Int.toNat_natCast, segOf_eq (by rw [List.length_take]; omega) hk]
        simp only [Option.bind_some]
        refine (Tells_l4 hk hN c rfl k 0 0 _ (by omega) (by omega) (by simp) (fun t _ => by simp)).trans ?_
        rw [w64_succ (n := 507) (by omega) (by omega)]
        exact Tells_l3 hk hN n (m + 1) (by omega) (by omega)
      · rw [decide_eq_false h5]; exact last _
    · rw [if_neg (by omega)]; exact last _
theorem Tells_l0 (hk : 1000 < k) (hp : p.L.length ≤ 500) (hN : p.N.length ≤ 500) (hel : ∀ l ∈ p.L, l.length ≤ 500) : ∀ (n i : Nat), i ≤ p.L.length → p.L.length - i < n → hermitagelaw1_SegTells.l0 p k n i = some true
  | 0, i, _, h => by omega
  | n + 1, i, hi, hn => by
    have hNl : (([0, 1, 63, 64, 65, (-1)] : List Int) ++ p.N).length ≤ 506 := by simp; omega
    have last : ∀ re, hermitagelaw1_SegTells.j0 p k (i : Int) re false = some true := fun re => by
      unfold hermitagelaw1_SegTells.j0
      rw [if_neg (by decide)]
      exact Tells_l3 hk hN k 0 (by omega) (by omega)
    unfold hermitagelaw1_SegTells.l0
    by_cases c : i < p.L.length
    · rw [if_pos (by omega)]
      by_cases h5 : (i : Int) < 5
      · rw [decide_eq_true h5, Tells_j0 hk hp hN hel c, w64_succ c (by omega)]
        exact Tells_l0 hk hp hN hel n (i + 1) (by omega) (by omega)
      · rw [decide_eq_false h5]; exact last _
    · rw [if_neg (by omega)]; exact last _
end
theorem SegTells_true {p : hermitagelaw1Ask} (hs : Sized p) : ∃ k, hermitagelaw1_SegTells.f k p = some true := by
  refine ⟨p.L.length + 1001, ?_⟩
  unfold hermitagelaw1_SegTells.f
  obtain ⟨h, e, hh⟩ := Heavy_eq (k := p.L.length + 1001) hs (by omega)
  rw [e]
  simp only [Option.bind_some]
  cases h with
  | true => rw [if_pos rfl]
  | false =>
    rw [if_neg (by decide)]
    obtain ⟨h1, h2, h3⟩ := hh rfl
    rw [if_pos (by simp; omega)]
    exact Tells_l0 (by omega) h1 h2 h3 _ 0 (by omega) (by omega)
end Go.Proofs.YtnaajldlloglkaaDoor.W
