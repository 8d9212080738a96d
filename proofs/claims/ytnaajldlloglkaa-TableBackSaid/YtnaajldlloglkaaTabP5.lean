/- The plain law of TableExact. -/
import Derived.Test.YtnaajldlloglkaaTabP4
set_option linter.unusedVariables false
set_option linter.unusedSimpArgs false
namespace Go.Proofs.Ytnaajldlloglkaa.W
open Go.H
theorem Within_some (a b : Int) (h : ¬ wu64 b = 0) : ∃ v, hermitagelaw0_Within.f a b = some v := by
  unfold hermitagelaw0_Within.f
  rw [if_pos h]
  exact ⟨_, rfl⟩
section
variable {p : hermitagelaw8Script} {k : Nat} {i : Nat} {d s : Int} {l : List Entry} {re0 : Int → Int → Int → List Entry → Option Bool}
theorem Exact_l1 {e : Int} {w : Table} : ∀ (n it : Nat) (lt : List Entry), lt.length ≤ 1000 → it ≤ lt.length → lt.length - it < n → hermitagelaw8_TableExact.l1 k i d s l ⟨d, s, l⟩ e w.Dev w.Size w.List_ re0 n it lt = hermitagelaw8_TableExact.j12 k i d s l ⟨d, s, l⟩ e w.Dev w.Size w.List_ re0
  | 0, it, lt, _, _, h => by omega
  | n + 1, it, lt, h64, hi, hn => by
    unfold hermitagelaw8_TableExact.l1
    by_cases c : it < lt.length
    · rw [if_pos (by omega), if_pos ⟨by omega, by omega⟩, w64_succ c (by omega)]
      exact Exact_l1 n (it + 1) _ (by rw [List.length_set]; exact h64) (by rw [List.length_set]; omega) (by rw [List.length_set]; omega)
    · rw [if_neg (by omega)]
/-- What both tell alike. -/
theorem Exact_j3 (hk : 1000 < k) (hl : l.length ≤ 900) {e : Int} {x : Table} (hx : x.List_.length ≤ 901) : ∃ u : Table, u.List_.length ≤ max l.length x.List_.length ∧ hermitagelaw8_TableExact.j3 k i d s l ⟨d, s, l⟩ (tabOk' ⟨d, s, l⟩) re0 e e x.Dev x.Size x.List_ x.Dev x.Size x.List_ = re0 (w64 ((i : Int) + 1)) u.Dev u.Size u.List_ := by
  unfold hermitagelaw8_TableExact.j3
  simp only [hermitagelaw8_num.f, Option.bind_some, if_true]
  rw [EqT_eq (by simp only; omega) hk, EqT_eq (by simp only; omega) hk]
  simp only [Option.bind_some, decide_true, if_true]
  rw [Check_eq (by simp only; omega) hk]
  simp only [Option.bind_some]
  have ec : (!(((if tabOk' ⟨d, s, l⟩ = true then (0 : Int) else 1) == 0) == tabOk' ⟨d, s, l⟩)) = false := by cases tabOk' ⟨d, s, l⟩ <;> rfl
  rw [ec]
  unfold hermitagelaw8_TableExact.j11
  rw [if_neg (by decide)]
  have h1 := Exact_l1 (k := k) (i := i) (d := d) (s := s) (l := l) (re0 := re0) (e := e) (w := x) k 0 x.List_ (by omega) (by omega) (by omega)
  have h2 : ∃ u : Table, u.List_.length ≤ max l.length x.List_.length ∧ hermitagelaw8_TableExact.j12 k i d s l ⟨d, s, l⟩ e x.Dev x.Size x.List_ re0 = re0 (w64 ((i : Int) + 1)) u.Dev u.Size u.List_ := by
    unfold hermitagelaw8_TableExact.j12
    rw [EqT_eq (by simp only; omega) hk]
    simp only [Option.bind_some, decide_true, if_true]
    by_cases he : e = 0
    · rw [if_pos he, CopyT_eq (by simp only; omega) hk]
      exact ⟨x, by omega, rfl⟩
    · rw [if_neg he]
      exact ⟨⟨d, s, l⟩, by simp only; omega, rfl⟩
  obtain ⟨u, hu, e2⟩ := h2
  exact ⟨u, hu, h1.trans e2⟩
theorem Exact_j4t (hk : 1000 < k) (hl : l.length ≤ 900) (ci : i < p.A.length) (y5 : Int) : ∃ u : Table, u.List_.length ≤ l.length + 1 ∧ hermitagelaw8_TableExact.j4 p k i d s l ⟨d, s, l⟩ (tabOk' ⟨d, s, l⟩) y5 re0 true = re0 (w64 ((i : Int) + 1)) u.Dev u.Size u.List_ := by
  unfold hermitagelaw8_TableExact.j4
  rw [if_pos rfl, rd_nat ci]
  generalize ha : p.A[i] = a
  rw [Add_eq (by simp only; omega) hk]
  simp only [Option.bind_some]
  have hpl := putL_len (l := l) (n := a.N) (p := a.P)
  have bad : addOk ⟨d, s, l⟩ a.N a.P = false → ∃ u : Table, u.List_.length ≤ l.length + 1 ∧ hermitagelaw8_TableExact.j5 p k i d s l ⟨d, s, l⟩ (tabOk' ⟨d, s, l⟩) (if addOk ⟨d, s, l⟩ a.N a.P = true then (⟨d, s, putL l a.N a.P⟩, 0) else (zeroT, 1)) re0 false = re0 (w64 ((i : Int) + 1)) u.Dev u.Size u.List_ := fun h => by
    rw [h, if_neg (by decide)]
    unfold hermitagelaw8_TableExact.j5
    rw [if_neg (by decide)]
    obtain ⟨u, hu, e⟩ := Exact_j3 (i := i) (d := d) (s := s) (re0 := re0) (e := 1) (x := zeroT) hk hl (by simp [zeroT])
    exact ⟨u, by simp [zeroT] at hu; omega, e⟩
  cases h : tabOk' ⟨d, s, l⟩ with
  | false =>
    rw [if_neg (by decide)]
    have := bad (by unfold addOk; rw [h]; rfl)
    rw [h] at this
    exact this
  | true =>
    have hh := (tabOk_iff.1 h).1
    simp only at hh
    rw [if_pos rfl, End_eq (by simp only; omega) h]
    simp only [Option.bind_some]
    rw [Between_eq, Place_eq, w64_id (x := s - 1) (by omega) (by omega)]
    simp only [Option.bind_some]
    have hb : addOk ⟨d, s, l⟩ a.N a.P = (decide (endOf l ≤ a.N ∧ a.N ≤ s - 1) && decide (1 ≤ a.P.Dev ∧ a.P.Dev ≤ 40 ∧ ¬ a.P.Dev = d ∧ 0 ≤ a.P.At ∧ (1 : Int) ≤ 1 ∧ (1 : Int) ≤ 64 ∧ a.P.At + 1 ≤ 64)) := by
      have h0 : 0 ≤ endOf l := by
        rcases snoc_cases l with rfl | ⟨m, x, rfl⟩
        · simp [endOf]
        · have hx := tab_elem (tabOk_iff.1 h).2 x (by simp)
          unfold EntOk at hx
          rw [endOf_snoc]
          omega
      unfold addOk
      rw [h, Bool.true_and, Bool.eq_iff_iff]
      simp only [Bool.and_eq_true, decide_eq_true_eq]
      unfold EntOk entNew
      simp only
      omega
    by_cases c1 : endOf l ≤ a.N ∧ a.N ≤ s - 1
    case neg =>
      rw [decide_eq_false c1] at hb
      rw [decide_eq_false c1, if_neg (by decide)]
      have := bad hb
      rw [h] at this
      exact this
    rw [decide_eq_true c1, Bool.true_and] at hb
    rw [decide_eq_true c1, if_pos rfl]
    by_cases c2 : 1 ≤ a.P.Dev ∧ a.P.Dev ≤ 40 ∧ ¬ a.P.Dev = d ∧ 0 ≤ a.P.At ∧ (1 : Int) ≤ 1 ∧ (1 : Int) ≤ 64 ∧ a.P.At + 1 ≤ 64
    case neg =>
      rw [decide_eq_false c2] at hb
      rw [decide_eq_false c2]
      have := bad hb
      rw [h] at this
      exact this
    rw [decide_eq_true c2] at hb
    rw [decide_eq_true c2, hb, if_pos rfl]
    unfold hermitagelaw8_TableExact.j5
    rw [if_pos rfl, rd_nat ci, ha, refAdd_eq (by simp only; omega) hk h]
    simp only [Option.bind_some]
    obtain ⟨u, hu, e⟩ := Exact_j3 (i := i) (d := d) (s := s) (re0 := re0) (e := 0) (x := ⟨d, s, putL l a.N a.P⟩) hk hl (by simp only; omega)
    rw [h] at e
    exact ⟨u, by simp only at hu; omega, e⟩
theorem lose_len {t : Table} {n : Int} : (loseT t n).1.List_.length ≤ t.List_.length := by
  unfold loseT
  simp only
  split
  · simp [zeroT]
  · split
    · simp [zeroT]
    · rw [List.length_set]; omega
theorem Exact_j7t (hk : 1000 < k) (hl : l.length ≤ 900) (ci : i < p.A.length) : hermitagelaw8_TableExact.j7 p k i d s l ⟨d, s, l⟩ (tabOk' ⟨d, s, l⟩) re0 true = re0 (w64 ((i : Int) + 1)) d s l := by
  unfold hermitagelaw8_TableExact.j7
  rw [if_pos rfl, rd_nat ci]
  generalize ha : p.A[i] = a
  rw [Look_eq (by simp only; omega) hk, Live_eq (by simp only; omega) hk]
  simp only [Option.bind_some]
  have fin : ∀ (e : Int) (q : Ptr) (f v : Int), hermitagelaw8_TableExact.j8 k i d s l ⟨d, s, l⟩ (q, e) (v, f) re0 e f v q.Dev q.At = re0 (w64 ((i : Int) + 1)) d s l := fun e q f v => by
    unfold hermitagelaw8_TableExact.j8
    simp only [hermitagelaw8_num.f, Option.bind_some, if_true]
    rw [EqT_eq (by simp only; omega) hk]
    simp only [Option.bind_some, decide_true]
    rfl
  cases h : tabOk' ⟨d, s, l⟩ with
  | false =>
    simp only [Bool.false_eq_true, if_false]
    exact fin 1 ⟨0, 0⟩ 1 0
  | true =>
    simp only [if_true]
    rw [refLive_eq (by simp only; omega) hk h, refLook_eq (by simp only; omega) hk h]
    simp only [Option.bind_some]
    cases lookT ⟨d, s, l⟩ a.N with
    | none => exact fin 3 ⟨0, 0⟩ 0 _
    | some q => exact fin 0 q 0 _
theorem Exact_j7f (hk : 1000 < k) (hl : l.length ≤ 900) (ci : i < p.A.length) (hn0 : -9223372036854775808 ≤ p.A[i].N) (hn1 : p.A[i].N < 9223372036854775808) : hermitagelaw8_TableExact.j7 p k i d s l ⟨d, s, l⟩ (tabOk' ⟨d, s, l⟩) re0 false = re0 (w64 ((i : Int) + 1)) d s l := by
  unfold hermitagelaw8_TableExact.j7
  rw [if_neg (by decide), rd_nat ci]
  generalize ha : p.A[i] = a at *
  rw [Range_eq (by simp only; omega) hk]
  simp only [Option.bind_some]
  have fin : ∀ (e : Int) (q : List Entry), q.length ≤ 1000 → hermitagelaw8_TableExact.j9 k i d s l ⟨d, s, l⟩ (q, e) re0 e q = re0 (w64 ((i : Int) + 1)) d s l := fun e q hq => by
    unfold hermitagelaw8_TableExact.j9
    simp only [hermitagelaw8_num.f, Option.bind_some, if_true]
    rw [EqE_eq hq hk, EqT_eq (by simp only; omega) hk]
    simp only [Option.bind_some, decide_true, if_true]
    rfl
  unfold rangeOk
  cases h : tabOk' ⟨d, s, l⟩ with
  | false =>
    simp only [Bool.false_and, Bool.false_eq_true, if_false]
    exact fin 1 [] (by simp)
  | true =>
    simp only [Bool.true_and, if_true]
    rw [Num_eq]
    simp only [Option.bind_some]
    by_cases c : 0 ≤ a.M ∧ a.M ≤ 64
    · rw [decide_eq_true c]
      unfold hermitagelaw8_TableExact.j10
      rw [if_pos rfl, if_pos rfl, rd_nat ci, ha, refRange_eq (by simp only; omega) hk h hn0 hn1 c.1 c.2]
      simp only [Option.bind_some]
      exact fin 0 _ (Nat.le_trans rangeL_len (by omega))
    · rw [decide_eq_false c]
      unfold hermitagelaw8_TableExact.j10
      rw [if_neg (by decide), if_neg (by decide)]
      exact fin 1 [] (by simp)
theorem Exact_j6 (hk : 1000 < k) (hl : l.length ≤ 900) (ci : i < p.A.length) (hn0 : -9223372036854775808 ≤ p.A[i].N) (hn1 : p.A[i].N < 9223372036854775808) (y5 : Int) (b : Bool) : ∃ u : Table, u.List_.length ≤ l.length + 1 ∧ hermitagelaw8_TableExact.j6 p k i d s l ⟨d, s, l⟩ (tabOk' ⟨d, s, l⟩) y5 re0 b = re0 (w64 ((i : Int) + 1)) u.Dev u.Size u.List_ := by
  unfold hermitagelaw8_TableExact.j6
  rw [rd_nat ci]
  have zero : ∃ u : Table, u.List_.length ≤ l.length + 1 ∧ hermitagelaw8_TableExact.j3 k i d s l ⟨d, s, l⟩ (tabOk' ⟨d, s, l⟩) re0 1 1 0 0 [] 0 0 [] = re0 (w64 ((i : Int) + 1)) u.Dev u.Size u.List_ := by
    obtain ⟨u, hu, e⟩ := Exact_j3 (i := i) (d := d) (s := s) (re0 := re0) (e := 1) (x := zeroT) hk hl (by simp [zeroT])
    exact ⟨u, by simp [zeroT] at hu; omega, e⟩
  cases b with
  | true =>
    rw [if_pos rfl, Lose_eq (by simp only; omega) hk]
    simp only [Option.bind_some]
    cases h : tabOk' ⟨d, s, l⟩ with
    | false => rw [h] at zero; exact zero
    | true =>
      rw [if_pos rfl, if_pos rfl, refLose_eq (by simp only; omega) hk h]
      simp only [Option.bind_some]
      have hll := lose_len (t := ⟨d, s, l⟩) (n := p.A[i].N)
      simp only at hll
      obtain ⟨u, hu, e⟩ := Exact_j3 (i := i) (d := d) (s := s) (re0 := re0) (e := (loseT ⟨d, s, l⟩ p.A[i].N).2) (x := (loseT ⟨d, s, l⟩ p.A[i].N).1) hk hl (by omega)
      rw [h] at e
      exact ⟨u, by omega, e⟩
  | false =>
    rw [if_neg (by decide)]
    by_cases c6 : y5 = 6
    · rw [if_pos c6, Tidy_eq (by simp only; omega) hk]
      simp only [Option.bind_some]
      cases h : tabOk' ⟨d, s, l⟩ with
      | false => rw [h] at zero; exact zero
      | true =>
        rw [if_pos rfl, if_pos rfl, refTidy_eq (by simp only; omega) hk h]
        simp only [Option.bind_some]
        have hll : (tidyT ⟨d, s, l⟩).List_.length ≤ l.length := List.length_filter_le _ _
        obtain ⟨u, hu, e⟩ := Exact_j3 (i := i) (d := d) (s := s) (re0 := re0) (e := 0) (x := tidyT ⟨d, s, l⟩) hk hl (by omega)
        rw [h] at e
        exact ⟨u, by omega, e⟩
    · rw [if_neg c6]
      have both : ∀ b, hermitagelaw8_TableExact.j7 p k i d s l ⟨d, s, l⟩ (tabOk' ⟨d, s, l⟩) re0 b = re0 (w64 ((i : Int) + 1)) d s l := fun b => by
        cases b with
        | true => exact Exact_j7t hk hl ci
        | false => exact Exact_j7f hk hl ci hn0 hn1
      rw [both, both, ite_self]
      exact ⟨⟨d, s, l⟩, by simp, rfl⟩
theorem Exact_j4 (hk : 1000 < k) (hl : l.length ≤ 900) (ci : i < p.A.length) (hn0 : -9223372036854775808 ≤ p.A[i].N) (hn1 : p.A[i].N < 9223372036854775808) (y5 : Int) (b : Bool) : ∃ u : Table, u.List_.length ≤ l.length + 1 ∧ hermitagelaw8_TableExact.j4 p k i d s l ⟨d, s, l⟩ (tabOk' ⟨d, s, l⟩) y5 re0 b = re0 (w64 ((i : Int) + 1)) u.Dev u.Size u.List_ := by
  cases b with
  | true => exact Exact_j4t hk hl ci y5
  | false =>
    unfold hermitagelaw8_TableExact.j4
    rw [if_neg (by decide)]
    split
    · exact Exact_j6 hk hl ci hn0 hn1 y5 _
    · exact Exact_j6 hk hl ci hn0 hn1 y5 _
theorem Exact_j0 (hk : 1000 < k) (hl : l.length ≤ 900) (ci : i < p.A.length) (hn0 : -9223372036854775808 ≤ p.A[i].N) (hn1 : p.A[i].N < 9223372036854775808) : ∃ u : Table, u.List_.length ≤ l.length + 1 ∧ hermitagelaw8_TableExact.j0 p k i d s l re0 true = re0 (w64 ((i : Int) + 1)) u.Dev u.Size u.List_ := by
  unfold hermitagelaw8_TableExact.j0
  obtain ⟨v, hv⟩ := Within_some (rd p.A (i : Int)).Do 10 (by decide)
  rw [if_pos rfl, if_pos ⟨by omega, by omega⟩, CopyT_eq (by simp only; omega) hk, refTable_eq (by simp only; omega) (by simp only; omega), hv]
  simp only [Option.bind_some]
  split
  · exact Exact_j4 hk hl ci hn0 hn1 v _
  · split
    · exact Exact_j4 hk hl ci hn0 hn1 v _
    · split
      · exact Exact_j4 hk hl ci hn0 hn1 v _
      · exact Exact_j4 hk hl ci hn0 hn1 v _
theorem Exact_l0 (hk : 1000 < k) (hA : p.A.length < 4611686018427387904) (hN : ∀ a ∈ p.A, -9223372036854775808 ≤ a.N ∧ a.N < 9223372036854775808) : ∀ (n i : Nat) (d s : Int) (l : List Entry), i ≤ p.A.length → i ≤ 14 → 14 - i < n → l.length ≤ 300 + i → hermitagelaw8_TableExact.l0 p k n i d s l = some true
  | 0, i, d, s, l, _, _, h, _ => by omega
  | n + 1, i, d, s, l, hi, h14, hn, hl => by
    have last : ∀ re, hermitagelaw8_TableExact.j0 p k (i : Int) d s l re false = some true := fun re => by
      unfold hermitagelaw8_TableExact.j0
      rw [if_neg (by decide), wakes_eq hk]
      rfl
    unfold hermitagelaw8_TableExact.l0
    by_cases c : i < p.A.length
    · rw [if_pos (by omega)]
      by_cases h5 : (i : Int) < 14
      · have ha := hN _ (List.getElem_mem c)
        rw [decide_eq_true h5]
        obtain ⟨u, hu, e⟩ := Exact_j0 (d := d) (s := s) (l := l) (re0 := hermitagelaw8_TableExact.l0 p k n) hk (by omega) c ha.1 ha.2
        rw [e, w64_succ c hA]
        exact Exact_l0 hk hA hN n (i + 1) _ _ _ (by omega) (by omega) (by omega) (by omega)
      · rw [decide_eq_false h5]; exact last _
    · rw [if_neg (by omega)]; exact last _
end
/-- A script of a size that memory has, its numbers of 64 bits. -/
structure Sized (p : hermitagelaw8Script) : Prop where
  L : p.T.List_.length < 1125899906842624
  A : p.A.length * 40 ≤ 140737488355328
  el : ∀ a ∈ p.A, -9223372036854775808 ≤ a.N ∧ a.N < 9223372036854775808
theorem Heavy_eq {p : hermitagelaw8Script} : hermitagelaw8_Heavy.f p = some (decide (300 < p.T.List_.length ∨ 200 < p.A.length)) := by
  unfold hermitagelaw8_Heavy.f
  by_cases h : 300 < p.T.List_.length
  · rw [if_pos (by omega), decide_eq_true (.inl h)]
  · rw [if_neg (by omega)]
    congr 1
    rw [decide_eq_decide]
    omega
theorem Exact_k {p : hermitagelaw8Script} (hs : Sized p) {k : Nat} (hk : 1000 < k) : hermitagelaw8_TableExact.f k p = some true := by
  unfold hermitagelaw8_TableExact.f
  rw [Heavy_eq]
  simp only [Option.bind_some]
  by_cases h : 300 < p.T.List_.length ∨ 200 < p.A.length
  · rw [decide_eq_true h, if_pos rfl]
  · rw [decide_eq_false h, if_neg (by decide), CopyT_eq (by omega) hk]
    exact Exact_l0 hk (by have := hs.A; omega) hs.el k 0 _ _ _ (by omega) (by omega) (by omega) (by omega)
theorem TableExact_true {p : hermitagelaw8Script} (hs : Sized p) : ∃ k, hermitagelaw8_TableExact.f k p = some true := ⟨1001, Exact_k hs (by omega)⟩
end Go.Proofs.Ytnaajldlloglkaa.W
