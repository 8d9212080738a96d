/- Plain facts: where a sector is; lost, looked up, counted. -/
import Derived.Test.YtnaajldlloglkaaTabP2
set_option linter.unusedVariables false
set_option linter.unusedSimpArgs false
namespace Go.Proofs.Ytnaajldlloglkaa.W
open Go.H
/-- The place of the entry a sector is in, i being the first one's; -1: it is in none. -/
def findE : List Entry → Int → Int → Int
  | [], _, _ => -1
  | x :: r, n, i => if x.From ≤ n ∧ n < x.From + x.Len then i else findE r n (i + 1)
theorem findE_cases {n : Int} : ∀ {l : List Entry} {i : Nat}, findE l n i = -1 ∨ ∃ j : Nat, findE l n i = (j : Int) ∧ i ≤ j ∧ j < i + l.length ∧ ∃ x, l[j - i]? = some x ∧ x.From ≤ n ∧ n < x.From + x.Len
  | [], i => .inl rfl
  | x :: r, i => by
    unfold findE
    by_cases h : x.From ≤ n ∧ n < x.From + x.Len
    · rw [if_pos h]
      exact .inr ⟨i, rfl, by omega, by simp, x, by simp, h⟩
    · rw [if_neg h]
      rcases findE_cases (n := n) (l := r) (i := i + 1) with e | ⟨j, e, h1, h2, y, h3, h4⟩
      · exact .inl (by rw [← e]; norm_cast)
      · refine .inr ⟨j, by rw [← e]; norm_cast, by omega, by simp only [List.length_cons]; omega, y, ?_, h4⟩
        rw [show j - i = (j - (i + 1)) + 1 by omega]
        exact h3
theorem At_l0 {t : Table} (hl : t.List_.length ≤ 1000) (ho : ∀ x ∈ t.List_, EntOk t.Dev t.Size x) (hs : t.Size ≤ 64) {n : Int} : ∀ (m i : Nat), i ≤ t.List_.length → t.List_.length - i < m → table_At.l0 t n m i = some (findE (t.List_.drop i) n i)
  | 0, i, _, h => by omega
  | m + 1, i, hi, hm => by
    unfold table_At.l0
    by_cases c : i < t.List_.length
    · have hx := ho _ (List.getElem_mem c)
      rw [if_pos (by omega), if_pos ⟨by omega, by omega⟩, rd_nat c, List.drop_eq_getElem_cons c]
      generalize t.List_[i] = x at *
      unfold EntOk at hx
      have next : table_At.l0 t n m (w64 ((i : Int) + 1)) = some (findE (t.List_.drop (i + 1)) n ((i : Int) + 1)) := by
        rw [w64_succ c (by omega), At_l0 hl ho hs m (i + 1) (by omega) (by omega)]
        norm_cast
      unfold findE table_end.f table_At.j1 table_At.j0
      simp only [Option.bind_some]
      rw [w64_id (x := x.From + x.Len) (by omega) (by omega)]
      by_cases a1 : x.From ≤ n
      · rw [if_pos a1]
        by_cases a2 : n < x.From + x.Len
        · rw [decide_eq_true a2, if_pos rfl, if_pos ⟨a1, a2⟩]
        · rw [decide_eq_false a2, if_neg (by decide), if_neg (fun h => a2 h.2)]; exact next
      · rw [if_neg a1, if_neg (by decide), if_neg (fun h => a1 h.1)]; exact next
    · rw [if_neg (by omega), List.drop_eq_nil_of_le (by omega)]
      rfl
theorem At_eq {t : Table} {k : Nat} {n : Int} (hl : t.List_.length ≤ 1000) (hk : 1000 < k) (h : tabOk' t = true) : table_At.f k t n = some (findE t.List_ n 0) := by
  have ht := tabOk_iff.1 h
  exact At_l0 hl (tab_elem ht.2) ht.1.2.2.2 k 0 (by omega) (by omega)
theorem In_l0 {t : Table} (hl : t.List_.length ≤ 1000) (ho : ∀ x ∈ t.List_, EntOk t.Dev t.Size x) (hs : t.Size ≤ 64) {n : Int} : ∀ (m i : Nat), i ≤ t.List_.length → t.List_.length - i < m → hermitageref7_In.l0 t n m i = some (findE (t.List_.drop i) n i)
  | 0, i, _, h => by omega
  | m + 1, i, hi, hm => by
    unfold hermitageref7_In.l0
    by_cases c : i < t.List_.length
    · have hx := ho _ (List.getElem_mem c)
      have g : (0 : Int) ≤ (i : Int) ∧ (i : Int) < (t.List_.length : Int) := ⟨by omega, by omega⟩
      rw [if_pos (by omega)]
      simp only [if_pos g]
      rw [rd_nat c, List.drop_eq_getElem_cons c]
      generalize t.List_[i] = x at *
      unfold EntOk at hx
      have next : hermitageref7_In.l0 t n m (w64 ((i : Int) + 1)) = some (findE (t.List_.drop (i + 1)) n ((i : Int) + 1)) := by
        rw [w64_succ c (by omega), In_l0 hl ho hs m (i + 1) (by omega) (by omega)]
        norm_cast
      unfold findE hermitageref7_In.j0
      rw [w64_id (x := x.From + x.Len) (by omega) (by omega)]
      by_cases a1 : x.From ≤ n
      · rw [if_pos a1]
        by_cases a2 : n < x.From + x.Len
        · rw [decide_eq_true a2, if_pos rfl, if_pos ⟨a1, a2⟩]
        · rw [decide_eq_false a2, if_neg (by decide), if_neg (fun h => a2 h.2)]; exact next
      · rw [if_neg a1, if_neg (by decide), if_neg (fun h => a1 h.1)]; exact next
    · rw [if_neg (by omega), List.drop_eq_nil_of_le (by omega)]
      rfl
theorem In_eq {t : Table} {k : Nat} {n : Int} (hl : t.List_.length ≤ 1000) (hk : 1000 < k) (h : tabOk' t = true) : hermitageref7_In.f k t n = some (findE t.List_ n 0) := by
  have ht := tabOk_iff.1 h
  exact In_l0 hl (tab_elem ht.2) ht.1.2.2.2 k 0 (by omega) (by omega)
theorem find0 (l : List Entry) (n : Int) : findE l n 0 = -1 ∨ ∃ j : Nat, findE l n 0 = (j : Int) ∧ ∃ h : j < l.length, l[j].From ≤ n ∧ n < l[j].From + l[j].Len := by
  rcases findE_cases (n := n) (l := l) (i := 0) with e | ⟨j, e, h1, h2, x, h3, h4⟩
  · exact .inl e
  · have hj : j < l.length := by omega
    refine .inr ⟨j, e, hj, ?_⟩
    rw [Nat.sub_zero, List.getElem?_eq_getElem hj] at h3
    cases h3
    exact h4
def staler (x : Entry) : Entry := ⟨x.From, x.Len, x.Dev, x.To, x.Stale + 1⟩
/-- A sector lost. -/
def loseT (t : Table) (n : Int) : Table × Int :=
  let i := findE t.List_ n 0
  if i < 0 then (zeroT, 3) else if (rd t.List_ i).Stale = (rd t.List_ i).Len then (zeroT, 9) else (⟨t.Dev, t.Size, t.List_.set i.toNat (staler (rd t.List_ i))⟩, 0)
theorem Lose_eq {t : Table} {k : Nat} {n : Int} (hl : t.List_.length ≤ 1000) (hk : 1000 < k) : table_Lose.f k t n = some (if tabOk' t = true then loseT t n else (zeroT, 1)) := by
  unfold table_Lose.f
  rw [May_eq (by omega) (by omega)]
  simp only [Option.bind_some]
  cases h : tabOk' t with
  | false => rfl
  | true =>
    rw [if_pos rfl, if_pos rfl, Own_eq hl]
    simp only [Option.bind_some]
    rw [At_eq hl hk h]
    simp only [Option.bind_some]
    unfold loseT
    rcases find0 t.List_ n with e | ⟨j, e, hj, h1, h2⟩
    · rw [e]; rfl
    · have hx := tab_elem (tabOk_iff.1 h).2 _ (List.getElem_mem hj)
      have hs := (tabOk_iff.1 h).1
      unfold EntOk at hx
      have g : (0 : Int) ≤ (j : Int) ∧ (j : Int) < (t.List_.length : Int) := ⟨by omega, by omega⟩
      rw [e]
      simp only [if_pos g, if_neg (show ¬ (j : Int) < 0 by omega)]
      rw [rd_nat hj]
      by_cases a : t.List_[j].Stale = t.List_[j].Len
      · rw [if_pos a, if_pos a]; rfl
      · rw [if_neg a, if_neg a]
        unfold table_Lose.j0
        rw [if_pos rfl, w64_id (by omega) (by omega)]
        rfl
theorem refLose_eq {t : Table} {k : Nat} {n : Int} (hl : t.List_.length ≤ 1000) (hk : 1000 < k) (h : tabOk' t = true) : hermitageref7_Lose.f k t n = some (loseT t n) := by
  unfold hermitageref7_Lose.f
  rw [CopyT_eq hl hk]
  simp only [Option.bind_some]
  rw [In_eq hl hk h]
  simp only [Option.bind_some]
  unfold loseT
  rcases find0 t.List_ n with e | ⟨j, e, hj, h1, h2⟩
  · rw [e]; rfl
  · have hx := tab_elem (tabOk_iff.1 h).2 _ (List.getElem_mem hj)
    have hs := (tabOk_iff.1 h).1
    unfold EntOk at hx
    have g : (0 : Int) ≤ (j : Int) ∧ (j : Int) < (t.List_.length : Int) := ⟨by omega, by omega⟩
    rw [e]
    simp only [if_pos g, if_neg (show ¬ (j : Int) < 0 by omega)]
    rw [rd_nat hj]
    by_cases a : t.List_[j].Stale = t.List_[j].Len
    · rw [if_pos (by omega), if_pos a]; rfl
    · rw [if_neg (by omega), if_neg a, w64_id (by omega) (by omega)]
      rfl
/-- Where a sector lies. -/
def lookT (t : Table) (n : Int) : Option Ptr :=
  let i := findE t.List_ n 0
  if i < 0 then none else some ⟨(rd t.List_ i).Dev, (rd t.List_ i).To + n - (rd t.List_ i).From⟩
theorem Look_eq {t : Table} {k : Nat} {n : Int} (hl : t.List_.length ≤ 1000) (hk : 1000 < k) : table_Look.f k t n = some (if tabOk' t = true then (match lookT t n with | some p => (p, (0 : Int)) | none => (⟨0, 0⟩, 3)) else (⟨0, 0⟩, 1)) := by
  unfold table_Look.f table_Find.f
  rw [May_eq (by omega) (by omega)]
  simp only [Option.bind_some]
  cases h : tabOk' t with
  | false => rfl
  | true =>
    rw [if_pos rfl, if_pos rfl, At_eq hl hk h]
    simp only [Option.bind_some]
    unfold lookT
    rcases find0 t.List_ n with e | ⟨j, e, hj, h1, h2⟩
    · rw [e]; rfl
    · have hx := tab_elem (tabOk_iff.1 h).2 _ (List.getElem_mem hj)
      have hs := (tabOk_iff.1 h).1
      unfold EntOk at hx
      have g : (0 : Int) ≤ (j : Int) ∧ (j : Int) < (t.List_.length : Int) := ⟨by omega, by omega⟩
      rw [e]
      simp only [if_pos g, if_neg (show ¬ (j : Int) < 0 by omega)]
      rw [rd_nat hj, w64_id (x := t.List_[j].To + n) (by omega) (by omega), w64_id (by omega) (by omega)]
      rfl
theorem refLook_eq {t : Table} {k : Nat} {n : Int} (hl : t.List_.length ≤ 1000) (hk : 1000 < k) (h : tabOk' t = true) : hermitageref7_Look.f k t n = some (match lookT t n with | some p => (p, true) | none => (⟨0, 0⟩, false)) := by
  unfold hermitageref7_Look.f
  rw [In_eq hl hk h]
  simp only [Option.bind_some]
  unfold lookT
  rcases find0 t.List_ n with e | ⟨j, e, hj, h1, h2⟩
  · rw [e]; rfl
  · have hx := tab_elem (tabOk_iff.1 h).2 _ (List.getElem_mem hj)
    have hs := (tabOk_iff.1 h).1
    unfold EntOk at hx
    have g : (0 : Int) ≤ (j : Int) ∧ (j : Int) < (t.List_.length : Int) := ⟨by omega, by omega⟩
    rw [e]
    simp only [if_pos g, if_neg (show ¬ (j : Int) < 0 by omega)]
    rw [rd_nat hj, w64_id (x := t.List_[j].To + n) (by omega) (by omega), w64_id (by omega) (by omega)]
/-- How many sectors are not stale. -/
def liveL : List Entry → Int
  | [] => 0
  | x :: r => (x.Len - x.Stale) + liveL r
theorem liveL_le {dev size : Int} (hs : size ≤ 64) : ∀ {l : List Entry}, (∀ x ∈ l, EntOk dev size x) → 0 ≤ liveL l ∧ liveL l ≤ 64 * (l.length : Int)
  | [], _ => by simp [liveL]
  | x :: r, h => by
    have hx := h x (by simp)
    have ih := liveL_le hs (l := r) (fun y hy => h y (by simp [hy]))
    unfold EntOk at hx
    unfold liveL
    simp only [List.length_cons]
    omega
theorem Live_l0 {t : Table} (hl : t.List_.length ≤ 1000) (ho : ∀ x ∈ t.List_, EntOk t.Dev t.Size x) (hs : t.Size ≤ 64) : ∀ (m i : Nat) (a : Int), i ≤ t.List_.length → t.List_.length - i < m → 0 ≤ a → a ≤ 64 * (i : Int) → table_Live.l0 t m a i = some (a + liveL (t.List_.drop i), 0)
  | 0, i, a, _, h, _, _ => by omega
  | m + 1, i, a, hi, hm, h0, h1 => by
    unfold table_Live.l0
    by_cases c : i < t.List_.length
    · have hx := ho _ (List.getElem_mem c)
      rw [if_pos (by omega), if_pos ⟨by omega, by omega⟩, rd_nat c, List.drop_eq_getElem_cons c]
      generalize t.List_[i] = x at *
      unfold EntOk at hx
      rw [w64_id (x := x.Len - x.Stale) (by omega) (by omega), w64_id (x := a + (x.Len - x.Stale)) (by omega) (by omega), w64_succ c (by omega), Live_l0 hl ho hs m (i + 1) _ (by omega) (by omega) (by omega) (by omega)]
      simp only [liveL]
      rw [Int.add_assoc]
    · rw [if_neg (by omega), List.drop_eq_nil_of_le (by omega)]
      simp [liveL]
theorem Live_eq {t : Table} {k : Nat} (hl : t.List_.length ≤ 1000) (hk : 1000 < k) : table_Live.f k t = some (if tabOk' t = true then (liveL t.List_, 0) else (0, 1)) := by
  unfold table_Live.f
  rw [May_eq (by omega) (by omega)]
  simp only [Option.bind_some]
  cases h : tabOk' t with
  | false => rfl
  | true =>
    have ht := tabOk_iff.1 h
    have := Live_l0 hl (tab_elem ht.2) ht.1.2.2.2 k 0 0 (by omega) (by omega) (by omega) (by omega)
    rw [List.drop_zero, Int.zero_add] at this
    rw [if_pos rfl, if_pos rfl]
    exact this
theorem refLive_l0 {t : Table} (hl : t.List_.length ≤ 1000) (ho : ∀ x ∈ t.List_, EntOk t.Dev t.Size x) (hs : t.Size ≤ 64) : ∀ (m i : Nat) (a : Int), i ≤ t.List_.length → t.List_.length - i < m → 0 ≤ a → a ≤ 64 * (i : Int) → hermitageref7_Live.l0 t m a i = some (a + liveL (t.List_.drop i))
  | 0, i, a, _, h, _, _ => by omega
  | m + 1, i, a, hi, hm, h0, h1 => by
    unfold hermitageref7_Live.l0
    by_cases c : i < t.List_.length
    · have hx := ho _ (List.getElem_mem c)
      have g : (0 : Int) ≤ (i : Int) ∧ (i : Int) < (t.List_.length : Int) := ⟨by omega, by omega⟩
      rw [if_pos (by omega)]
      simp only [if_pos g]
      rw [rd_nat c, List.drop_eq_getElem_cons c]
      generalize t.List_[i] = x at *
      unfold EntOk at hx
      rw [w64_id (x := a + x.Len) (by omega) (by omega), w64_id (x := a + x.Len - x.Stale) (by omega) (by omega), w64_succ c (by omega), refLive_l0 hl ho hs m (i + 1) _ (by omega) (by omega) (by omega) (by omega)]
      simp only [liveL]
      congr 1
      omega
    · rw [if_neg (by omega), List.drop_eq_nil_of_le (by omega)]
      simp [liveL]
theorem refLive_eq {t : Table} {k : Nat} (hl : t.List_.length ≤ 1000) (hk : 1000 < k) (h : tabOk' t = true) : hermitageref7_Live.f k t = some (liveL t.List_) := by
  unfold hermitageref7_Live.f
  have ht := tabOk_iff.1 h
  have := refLive_l0 hl (tab_elem ht.2) ht.1.2.2.2 k 0 0 (by omega) (by omega) (by omega) (by omega)
  rw [List.drop_zero, Int.zero_add] at this
  exact this
end Go.Proofs.Ytnaajldlloglkaa.W
