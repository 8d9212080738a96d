/- Plain facts: tidied tables; the rows of a range. -/
import Derived.Test.YtnaajldlloglkaaTabP3
set_option linter.unusedVariables false
set_option linter.unusedSimpArgs false
namespace Go.Proofs.Ytnaajldlloglkaa.W
open Go.H
def keep (x : Entry) : Bool := !(x.Stale == x.Len)
def tidyT (t : Table) : Table := ⟨t.Dev, t.Size, t.List_.filter keep⟩
theorem keep_f {x : Entry} (h : (x.Stale == x.Len) = true) : keep x = false := by unfold keep; rw [h]; rfl
theorem keep_t {x : Entry} (h : ¬ (x.Stale == x.Len) = true) : keep x = true := by unfold keep; rw [bool_f h]; rfl
theorem Tidy_l1 {t : Table} (hl : t.List_.length ≤ 1000) : ∀ (n a j : Nat) (lt : List Entry), lt.length = t.List_.length → a ≤ j → j ≤ lt.length → lt.length - j < n → lt.take a = (t.List_.take j).filter keep → lt.drop j = t.List_.drop j → table_Tidy.l1 t n lt a j = some (tidyT t, 0)
  | 0, a, j, lt, _, _, _, h, _, _ => by omega
  | n + 1, a, j, lt, hlen, haj, hj, hn, h1, h2 => by
    unfold table_Tidy.l1
    by_cases c : j < lt.length
    · have c2 : j < t.List_.length := by omega
      have ex : lt[j] = t.List_[j] := by
        rw [List.drop_eq_getElem_cons c, List.drop_eq_getElem_cons c2] at h2
        exact (List.cons.inj h2).1
      have et : lt.drop (j + 1) = t.List_.drop (j + 1) := by
        rw [List.drop_eq_getElem_cons c, List.drop_eq_getElem_cons c2] at h2
        exact (List.cons.inj h2).2
      rw [if_pos (by omega), if_pos ⟨by omega, by omega⟩, rd_nat c, ex]
      unfold table_Tidy_1.f table_Tidy.j2
      simp only [Option.bind_some]
      have ef : (t.List_.take (j + 1)).filter keep = (t.List_.take j).filter keep ++ (if keep t.List_[j] = true then [t.List_[j]] else []) := by
        rw [List.take_succ_eq_append_getElem c2, List.filter_append]
        congr 1
        simp only [List.filter_cons, List.filter_nil]
      by_cases a1 : (t.List_[j].Stale == t.List_[j].Len) = true
      · rw [if_pos a1, w64_succ c (by omega)]
        refine Tidy_l1 hl n a (j + 1) lt hlen (by omega) (by omega) (by omega) ?_ et
        rw [ef, keep_f a1, h1]
        simp
      · rw [if_neg a1, if_pos ⟨by omega, by omega⟩, w64_succ c (by omega), w64_succ (n := 1001) (by omega) (by omega), Int.toNat_natCast]
        refine Tidy_l1 hl n (a + 1) (j + 1) _ (by rw [List.length_set]; exact hlen) (by omega) (by rw [List.length_set]; omega) (by rw [List.length_set]; omega) ?_ ?_
        · rw [ef, keep_t a1, if_pos rfl, ← h1]
          have ha : a < (lt.set a t.List_[j]).length := by rw [List.length_set]; omega
          rw [List.take_succ_eq_append_getElem ha, List.getElem_set_self, List.take_set_of_le (Nat.le_refl a)]
        · rw [List.drop_set_of_lt (by omega)]
          exact et
    · obtain rfl : j = lt.length := by omega
      rw [if_neg (by omega), if_pos ⟨by omega, by omega⟩, if_pos ⟨by omega, by rw [take_rep_len (by omega)]; omega⟩]
      unfold table_Tidy.j0 tidyT
      have e1 : (lt.take (a : Int).toNat ++ List.replicate (lt.length - (a : Int).toNat) (⟨0, 0, 0, 0, 0⟩ : Entry)).take (a : Int).toNat = t.List_.filter keep := by
        rw [Int.toNat_natCast, List.take_append_of_le_length (by rw [List.length_take]; omega), List.take_take, Nat.min_self, h1, List.take_of_length_le (by omega)]
      rw [e1]
theorem Tidy_l0 {t : Table} {k : Nat} (hl : t.List_.length ≤ 1000) (hk : 1000 < k) : ∀ (n i : Nat), i ≤ t.List_.length → t.List_.length - i < n → (t.List_.take i).filter keep = t.List_.take i → table_Tidy.l0 k t n i = some (tidyT t, 0)
  | 0, i, _, h, _ => by omega
  | n + 1, i, hi, hn, hp => by
    unfold table_Tidy.l0
    by_cases c : i < t.List_.length
    · rw [if_pos (by omega), if_pos ⟨by omega, by omega⟩, rd_nat c]
      unfold table_Tidy_1.f
      simp only [Option.bind_some]
      by_cases a1 : (t.List_[i].Stale == t.List_[i].Len) = true
      · rw [if_pos a1]
        unfold table_Tidy.j1
        rw [if_neg (by omega), w64_succ c (by omega)]
        refine Tidy_l1 hl k i (i + 1) _ rfl (by omega) (by omega) (by omega) ?_ rfl
        rw [List.take_succ_eq_append_getElem c, List.filter_append, hp]
        simp [keep_f a1]
      · rw [if_neg a1, w64_succ c (by omega)]
        refine Tidy_l0 hl hk n (i + 1) (by omega) (by omega) ?_
        rw [List.take_succ_eq_append_getElem c, List.filter_append, hp]
        simp [keep_t a1]
    · rw [if_neg (by omega)]
      unfold table_Tidy.j1 table_Tidy.j0 tidyT
      rw [List.take_of_length_le (by omega)] at hp
      rw [if_pos rfl, hp]
theorem Tidy_eq {t : Table} {k : Nat} (hl : t.List_.length ≤ 1000) (hk : 1000 < k) : table_Tidy.f k t = some (if tabOk' t = true then (tidyT t, 0) else (zeroT, 1)) := by
  unfold table_Tidy.f
  rw [May_eq (by omega) (by omega)]
  simp only [Option.bind_some]
  cases h : tabOk' t with
  | false => rfl
  | true =>
    rw [if_pos rfl, if_pos rfl, Own_eq hl]
    exact Tidy_l0 hl hk k 0 (by omega) (by omega) (by simp)
theorem refTidy_l0 {t : Table} (hl : t.List_.length ≤ 1000) (ho : ∀ x ∈ t.List_, EntOk t.Dev t.Size x) : ∀ (n i : Nat) (acc : List Entry), i ≤ t.List_.length → t.List_.length - i < n → acc = (t.List_.take i).filter keep → hermitageref7_Tidy.l0 t n i acc = some (tidyT t)
  | 0, i, acc, _, h, _ => by omega
  | n + 1, i, acc, hi, hn, hp => by
    unfold hermitageref7_Tidy.l0
    by_cases c : i < t.List_.length
    · have hx := ho _ (List.getElem_mem c)
      unfold EntOk at hx
      have g : (0 : Int) ≤ (i : Int) ∧ (i : Int) < (t.List_.length : Int) := ⟨by omega, by omega⟩
      rw [if_pos (by omega)]
      simp only [if_pos g]
      rw [rd_nat c]
      unfold hermitageref7_Tidy.j0
      rw [w64_succ c (by omega)]
      have hal : acc.length ≤ i := by rw [hp]; refine Nat.le_trans (List.length_filter_le _ _) ?_; rw [List.length_take]; omega
      by_cases a1 : t.List_[i].Stale < t.List_[i].Len
      · rw [if_pos a1, if_pos (by omega)]
        refine refTidy_l0 hl ho n (i + 1) _ (by omega) (by omega) ?_
        rw [List.take_succ_eq_append_getElem c, List.filter_append, ← hp]
        have : keep t.List_[i] = true := keep_t (fun e => by have := beq_iff_eq.1 e; omega)
        simp [this]
      · rw [if_neg a1]
        refine refTidy_l0 hl ho n (i + 1) _ (by omega) (by omega) ?_
        rw [List.take_succ_eq_append_getElem c, List.filter_append, ← hp]
        have : keep t.List_[i] = false := keep_f (beq_iff_eq.2 (by omega))
        simp [this]
    · rw [if_neg (by omega), hp, List.take_of_length_le (by omega)]
      rfl
theorem refTidy_eq {t : Table} {k : Nat} (hl : t.List_.length ≤ 1000) (hk : 1000 < k) (h : tabOk' t = true) : hermitageref7_Tidy.f k t = some (tidyT t) :=
  refTidy_l0 hl (tab_elem (tabOk_iff.1 h).2) k 0 [] (by omega) (by omega) (by simp)
/-- A row cut to sectors. -/
def cut1 (n m : Int) (x : Entry) : Entry := ⟨imax n x.From, imin (n + m) (x.From + x.Len) - imax n x.From, x.Dev, x.To + imax n x.From - x.From, 0⟩
def cuts (n m : Int) (x : Entry) : Bool := decide (imax n x.From < imin (n + m) (x.From + x.Len))
def rangeL (n m : Int) (l : List Entry) : List Entry := (l.filter (cuts n m)).map (cut1 n m)
theorem rangeL_take {n m : Int} {l : List Entry} {i : Nat} (c : i < l.length) : rangeL n m (l.take (i + 1)) = rangeL n m (l.take i) ++ (if cuts n m l[i] = true then [cut1 n m l[i]] else []) := by
  unfold rangeL
  rw [List.take_succ_eq_append_getElem c, List.filter_append, List.map_append]
  congr 1
  cases h : cuts n m l[i] <;> simp [h]
theorem rangeL_len {n m : Int} {l : List Entry} : (rangeL n m l).length ≤ l.length := by
  unfold rangeL
  rw [List.length_map]
  exact List.length_filter_le _ _
theorem Range_l0 {t : Table} {n m : Int} (hl : t.List_.length ≤ 1000) (ho : ∀ x ∈ t.List_, EntOk t.Dev t.Size x) (hs : t.Size ≤ 64) (hn0 : -64 ≤ n) (hn1 : n ≤ 64) (hm0 : 0 ≤ m) (hm1 : m ≤ 64) : ∀ (q i : Nat), i ≤ t.List_.length → t.List_.length - i < q → table_Range.l0 t n m q (rangeL n m (t.List_.take i)) i = some (rangeL n m t.List_, 0)
  | 0, i, _, h => by omega
  | q + 1, i, hi, hq => by
    unfold table_Range.l0
    by_cases c : i < t.List_.length
    · have hx := ho _ (List.getElem_mem c)
      have hal : (rangeL n m (t.List_.take i)).length ≤ i := Nat.le_trans rangeL_len (by rw [List.length_take]; omega)
      have ih := Range_l0 (n := n) (m := m) hl ho hs hn0 hn1 hm0 hm1 q (i + 1) (by omega) (by omega)
      rw [rangeL_take c] at ih
      rw [if_pos (by omega), if_pos ⟨by omega, by omega⟩, rd_nat c]
      unfold table_end.f table_Range.j2
      simp only [Option.bind_some]
      rw [w64_succ c (by omega)]
      generalize t.List_[i] = x at *
      unfold EntOk at hx
      have b1 : imax n x.From = n ∨ imax n x.From = x.From := by unfold imax; split <;> simp
      have b2 : imin (n + m) (x.From + x.Len) ≤ x.From + x.Len := by unfold imin; split <;> omega
      have b3 : imin (n + m) (x.From + x.Len) = n + m ∨ imin (n + m) (x.From + x.Len) = x.From + x.Len := by unfold imin; split <;> simp
      have b4 : x.From ≤ imax n x.From := by unfold imax; split <;> omega
      rw [w64_id (x := n + m) (by omega) (by omega), w64_id (x := x.From + x.Len) (by omega) (by omega)]
      by_cases a : imax n x.From < imin (n + m) (x.From + x.Len)
      · have hc : cuts n m x = true := decide_eq_true a
        rw [hc, if_pos rfl] at ih
        rw [if_pos a, if_pos (by omega), w64_id (x := imin (n + m) (x.From + x.Len) - imax n x.From) (by omega) (by omega), w64_id (x := x.To + imax n x.From) (by omega) (by omega), w64_id (x := x.To + imax n x.From - x.From) (by omega) (by omega)]
        exact ih
      · have hc : cuts n m x = false := decide_eq_false a
        rw [hc, if_neg (by decide), List.append_nil] at ih
        rw [if_neg a]
        exact ih
    · rw [if_neg (by omega), List.take_of_length_le (by omega)]
theorem rangeL_none {n m size dev : Int} {l : List Entry} (ho : ∀ x ∈ l, EntOk dev size x) (hm0 : 0 ≤ m) (hm1 : m ≤ 64) (h : size < n ∨ n < -64) : rangeL n m l = [] := by
  unfold rangeL
  rw [List.map_eq_nil_iff, List.filter_eq_nil_iff]
  intro x hx
  have h1 := ho x hx
  unfold EntOk at h1
  unfold cuts imax imin
  simp only [decide_eq_true_eq]
  split <;> split <;> omega
def rangeOk (t : Table) (m : Int) : Bool := tabOk' t && decide (0 ≤ m ∧ m ≤ 64)
theorem Range_eq {t : Table} {k : Nat} {n m : Int} (hl : t.List_.length ≤ 1000) (hk : 1000 < k) : table_Range.f k t n m = some (if rangeOk t m = true then (rangeL n m t.List_, 0) else ([], 1)) := by
  unfold table_Range.f rangeOk
  rw [May_eq (by omega) (by omega)]
  simp only [Option.bind_some]
  cases h : tabOk' t with
  | false => rfl
  | true =>
    have ht := tabOk_iff.1 h
    rw [if_pos rfl, Bool.true_and]
    by_cases a1 : m < 0
    · rw [if_pos a1, decide_eq_false (by omega)]; rfl
    rw [if_neg a1]
    by_cases a2 : 64 < m
    · rw [decide_eq_true a2, decide_eq_false (by omega)]; rfl
    rw [decide_eq_false a2, decide_eq_true (show 0 ≤ m ∧ m ≤ 64 by omega), if_pos rfl]
    unfold table_Range.j0
    rw [if_neg (by decide)]
    by_cases a3 : t.Size < n
    · rw [if_pos a3, rangeL_none (tab_elem ht.2) (by omega) (by omega) (.inl a3)]; rfl
    rw [if_neg a3]
    unfold table_Range.j1
    by_cases a4 : n < -64
    · rw [decide_eq_true a4, rangeL_none (tab_elem ht.2) (by omega) (by omega) (.inr a4)]; rfl
    rw [decide_eq_false a4, if_neg (by decide)]
    have := Range_l0 (n := n) (m := m) hl (tab_elem ht.2) ht.1.2.2.2 (by omega) (by omega) (by omega) (by omega) k 0 (by omega) (by omega)
    exact this
theorem refRange_l0 {t : Table} {n m : Int} (hl : t.List_.length ≤ 1000) (ho : ∀ x ∈ t.List_, EntOk t.Dev t.Size x) (hs : t.Size ≤ 64) (hn0 : -9223372036854775808 ≤ n) (hn1 : n < 9223372036854775808) (hm0 : 0 ≤ m) (hm1 : m ≤ 64) : ∀ (q i : Nat), i ≤ t.List_.length → t.List_.length - i < q → hermitageref7_Range.l0 t n m q (rangeL n m (t.List_.take i)) i = some (rangeL n m t.List_)
  | 0, i, _, h => by omega
  | q + 1, i, hi, hq => by
    unfold hermitageref7_Range.l0
    by_cases c : i < t.List_.length
    · have hx := ho _ (List.getElem_mem c)
      have hal : (rangeL n m (t.List_.take i)).length ≤ i := Nat.le_trans rangeL_len (by rw [List.length_take]; omega)
      have ih := refRange_l0 (n := n) (m := m) hl ho hs hn0 hn1 hm0 hm1 q (i + 1) (by omega) (by omega)
      rw [rangeL_take c] at ih
      rw [if_pos (by omega), if_pos ⟨by omega, by omega⟩]
      have er := rd_nat c
      rw [er]
      generalize hex : t.List_[i] = x at *
      unfold EntOk at hx
      -- behind the choice of the two ends
      have fin : ∀ a b : Int, (a < b ↔ imax n x.From < imin (n + m) (x.From + x.Len)) → (a < b → a = imax n x.From ∧ b = imin (n + m) (x.From + x.Len)) → hermitageref7_Range.j2 t (rangeL n m (t.List_.take i)) i a (hermitageref7_Range.l0 t n m q) b = some (rangeL n m t.List_) := fun a b h1 h2 => by
        unfold hermitageref7_Range.j2 hermitageref7_Range.j0
        rw [er, w64_succ c (by omega)]
        by_cases hab : a < b
        · obtain ⟨rfl, rfl⟩ := h2 hab
          have hc : cuts n m x = true := decide_eq_true hab
          have b1 : imax n x.From = n ∨ imax n x.From = x.From := by unfold imax; split <;> simp
          have b2 : imin (n + m) (x.From + x.Len) ≤ x.From + x.Len := by unfold imin; split <;> omega
          have b4 : x.From ≤ imax n x.From := by unfold imax; split <;> omega
          rw [hc, if_pos rfl] at ih
          rw [if_pos hab, if_pos (by omega), w64_id (x := imin (n + m) (x.From + x.Len) - imax n x.From) (by omega) (by omega), w64_id (x := x.To + imax n x.From) (by omega) (by omega), w64_id (x := x.To + imax n x.From - x.From) (by omega) (by omega)]
          exact ih
        · have hc : cuts n m x = false := decide_eq_false (fun h => hab (h1.2 h))
          rw [hc, if_neg (by decide), List.append_nil] at ih
          rw [if_neg hab]
          exact ih
      have two : ∀ a : Int, a = imax n x.From → hermitageref7_Range.j1 t n m (rangeL n m (t.List_.take i)) i (hermitageref7_Range.l0 t n m q) a = some (rangeL n m t.List_) := fun a ha => by
        unfold hermitageref7_Range.j1 hermitageref7_Range.j3
        rw [er, w64_id (x := x.From + x.Len) (by omega) (by omega)]
        have hmx : x.From ≤ a ∧ n ≤ a ∧ (a = n ∨ a = x.From) := by rw [ha]; unfold imax; split <;> omega
        by_cases a1 : n ≤ 64
        · rw [if_pos a1, w64_id (x := n + m) (by omega) (by omega)]
          by_cases a2 : n + m < x.From + x.Len
          · rw [decide_eq_true a2, if_pos rfl]
            have e : imin (n + m) (x.From + x.Len) = n + m := by unfold imin; split <;> omega
            refine fin _ _ (by rw [ha, e]) (fun _ => ⟨ha, e.symm⟩)
          · rw [decide_eq_false a2, if_neg (by decide)]
            have e : imin (n + m) (x.From + x.Len) = x.From + x.Len := by unfold imin; split <;> omega
            refine fin _ _ (by rw [ha, e]) (fun _ => ⟨ha, e.symm⟩)
        · rw [if_neg a1, if_neg (by decide)]
          have hno : ¬ imax n x.From < imin (n + m) (x.From + x.Len) := by unfold imax imin; split <;> split <;> omega
          exact fin _ _ ⟨fun h => by omega, fun h => absurd h hno⟩ (fun h => by omega)
      by_cases a0 : x.From < n
      · rw [if_pos a0]; exact two _ (by unfold imax; rw [if_neg (by omega)])
      · rw [if_neg a0]; exact two _ (by unfold imax; split <;> omega)
    · rw [if_neg (by omega), List.take_of_length_le (by omega)]
theorem refRange_eq {t : Table} {k : Nat} {n m : Int} (hl : t.List_.length ≤ 1000) (hk : 1000 < k) (h : tabOk' t = true) (hn0 : -9223372036854775808 ≤ n) (hn1 : n < 9223372036854775808) (hm0 : 0 ≤ m) (hm1 : m ≤ 64) : hermitageref7_Range.f k t n m = some (rangeL n m t.List_) := by
  have ht := tabOk_iff.1 h
  exact refRange_l0 hl (tab_elem ht.2) ht.1.2.2.2 hn0 hn1 hm0 hm1 k 0 (by omega) (by omega)
end Go.Proofs.Ytnaajldlloglkaa.W
