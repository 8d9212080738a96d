/- Plain facts for TableBack: what is looked up; a sector laid; sectors lost one behind the other. -/
import Derived.Test.YtnaajldlloglkaaTabP5
set_option linter.unusedVariables false
set_option linter.unusedSimpArgs false
namespace Go.Proofs.Ytnaajldlloglkaa.W
open Go.H
theorem Within_range {a b : Int} (h0 : 0 < b) (h1 : b < 9223372036854775808) : ∃ v : Nat, hermitagelaw0_Within.f a b = some (v : Int) ∧ (v : Int) < b := by
  unfold hermitagelaw0_Within.f
  have eb : wu64 b = b := wu64_id (by omega) (by omega)
  have ea : 0 ≤ wu64 a := by rw [wu64_mod]; omega
  rw [eb, if_pos (by omega), Int.tmod_eq_emod_of_nonneg ea]
  have l0 := Int.emod_nonneg (wu64 a) (show b ≠ 0 by omega)
  have l1 := Int.emod_lt_of_pos (wu64 a) h0
  rw [w64_id (by omega) (by omega)]
  exact ⟨(wu64 a % b).toNat, by rw [Int.toNat_of_nonneg l0], by rw [Int.toNat_of_nonneg l0]; exact l1⟩
def inE (x : Entry) (s : Int) : Prop := x.From ≤ s ∧ s < x.From + x.Len
instance (x : Entry) (s : Int) : Decidable (inE x s) := by unfold inE; exact inferInstance
def atE (x : Entry) (s : Int) : Ptr := ⟨x.Dev, x.To + s - x.From⟩
def lookL : List Entry → Int → Option Ptr
  | [], _ => none
  | x :: r, s => if inE x s then some (atE x s) else lookL r s
theorem lookL_append {l m : List Entry} {s : Int} : lookL (l ++ m) s = match lookL l s with | some q => some q | none => lookL m s := by
  induction l with
  | nil => rfl
  | cons x r ih =>
    simp only [List.cons_append, lookL]
    by_cases h : inE x s
    · rw [if_pos h, if_pos h]
    · rw [if_neg h, if_neg h, ih]
theorem lookL_none {l : List Entry} {s : Int} (h : ∀ x ∈ l, ¬ inE x s) : lookL l s = none := by
  induction l with
  | nil => rfl
  | cons x r ih =>
    unfold lookL
    rw [if_neg (h x (by simp))]
    exact ih fun y hy => h y (by simp [hy])
theorem look_find : ∀ {l : List Entry} {s i : Int}, 0 ≤ i → (findE l s i = -1 ∧ lookL l s = none) ∨ ∃ j : Nat, findE l s i = i + j ∧ ∃ h : j < l.length, inE l[j] s ∧ lookL l s = some (atE l[j] s)
  | [], s, i, _ => .inl ⟨rfl, rfl⟩
  | x :: r, s, i, hi => by
    unfold findE lookL
    by_cases h : inE x s
    · rw [if_pos (show x.From ≤ s ∧ s < x.From + x.Len from h), if_pos h]
      exact .inr ⟨0, by simp, by simp, h, rfl⟩
    · rw [if_neg (show ¬ (x.From ≤ s ∧ s < x.From + x.Len) from h), if_neg h]
      rcases look_find (l := r) (s := s) (i := i + 1) (by omega) with ⟨e, e2⟩ | ⟨j, e, hj, h2, e2⟩
      · exact .inl ⟨e, e2⟩
      · exact .inr ⟨j + 1, by rw [e]; push_cast; omega, by simp only [List.length_cons]; omega, h2, e2⟩
theorem lookT_L {t : Table} {s : Int} : lookT t s = lookL t.List_ s := by
  unfold lookT
  rcases look_find (l := t.List_) (s := s) (i := 0) (by omega) with ⟨e, e2⟩ | ⟨j, e, hj, h2, e2⟩
  · rw [e, e2]; rfl
  · rw [e, e2, Int.zero_add]
    simp only
    rw [if_neg (by omega), rd_nat hj]
    rfl
theorem tab_end {dev size lo : Int} : ∀ {l : List Entry}, tabFrom dev size lo l = true → ∀ x ∈ l, x.From + x.Len ≤ endOf l ∧ lo ≤ x.From
  | [], _, x, h => by simp at h
  | [a], hok, x, h => by
    simp only [List.mem_singleton] at h
    subst h
    rw [tabFrom_cons] at hok
    exact ⟨Int.le_refl _, hok.1⟩
  | a :: b :: r, hok, x, h => by
    rw [tabFrom_cons] at hok
    have hb := tab_end hok.2.2 b (by simp)
    have h1 := hok.2.1
    have h2 := tab_elem hok.2.2 b (by simp)
    unfold EntOk at h1 h2
    show x.From + x.Len ≤ endOf (b :: r) ∧ lo ≤ x.From
    rcases List.mem_cons.1 h with rfl | h
    · omega
    · have := tab_end hok.2.2 x h
      omega
theorem tabFrom_append {dev size lo : Int} {l m : List Entry} : tabFrom dev size lo (l ++ m) = (tabFrom dev size lo l && tabFrom dev size (if l = [] then lo else endOf l) m) := by
  induction l generalizing lo with
  | nil => simp [tabFrom]
  | cons a r ih =>
    simp only [List.cons_append, tabFrom, ih, Bool.and_assoc]
    cases r with
    | nil => simp [endOf, tabFrom]
    | cons b q => simp [endOf]
theorem endOf_put {l : List Entry} {n : Int} {p : Ptr} (h : endOf l ≤ n) : endOf (putL l n p) = n + 1 := by
  rcases snoc_cases l with rfl | ⟨m, x, rfl⟩
  · rfl
  · rw [putL_snoc]
    split
    · rename_i e
      rw [endOf_snoc]
      unfold entMore
      simp only
      omega
    · rw [endOf_snoc]
      unfold entNew
      simp only
/-- What was laid stays; the new sector lies where it was laid. -/
theorem look_put {dev size : Int} {l : List Entry} {n : Int} {p : Ptr} (hok : tabFrom dev size 0 l = true) (hn : endOf l ≤ n) (s : Int) : lookL (putL l n p) s = if s = n then some p else lookL l s := by
  rcases snoc_cases l with rfl | ⟨m, x, rfl⟩
  · simp only [putL, lookL]
    by_cases h : s = n
    · rw [if_pos (show inE (entNew n p) s by unfold inE entNew; simp only; omega), if_pos h]
      unfold atE entNew
      cases p
      simp only [Option.some.injEq, Ptr.mk.injEq, true_and]
      omega
    · rw [if_neg (show ¬ inE (entNew n p) s by unfold inE entNew; simp only; omega), if_neg h]
  · have hx := tab_elem hok x (by simp)
    unfold EntOk at hx
    have hm : ∀ y ∈ m, y.From + y.Len ≤ x.From := fun y hy => by
      rw [tabFrom_append, Bool.and_eq_true] at hok
      have h1 := tab_end hok.1 y hy
      have h2 := hok.2
      rw [if_neg (by intro e; rw [e] at hy; simp at hy), tabFrom_cons] at h2
      omega
    rw [endOf_snoc] at hn
    have hmn : lookL m n = none := lookL_none fun y hy h => by
      have := hm y hy
      unfold inE at h
      omega
    have one : ∀ (z : Entry) (s : Int), lookL [z] s = if inE z s then some (atE z s) else none := fun z s => rfl
    rw [putL_snoc]
    split
    · rename_i e
      rw [lookL_append, lookL_append, one, one]
      by_cases h : s = n
      · subst h
        rw [hmn, if_pos rfl]
        simp only
        rw [if_pos (by unfold inE entMore; simp only; omega)]
        unfold atE entMore
        obtain ⟨e1, e2, e3⟩ := e
        cases p
        simp only at e2 e3 ⊢
        simp only [Option.some.injEq, Ptr.mk.injEq]
        exact ⟨e2, by omega⟩
      · rw [if_neg h]
        have : inE (entMore x) s ↔ inE x s := by unfold inE entMore; simp only; omega
        by_cases hi : inE x s
        · rw [if_pos (this.2 hi), if_pos hi]; rfl
        · rw [if_neg (fun hh => hi (this.1 hh)), if_neg hi]
    · rw [lookL_append (l := m ++ [x]), one]
      by_cases h : s = n
      · subst h
        rw [lookL_append, hmn, one, if_neg (by unfold inE; omega), if_pos rfl]
        simp only
        rw [if_pos (by unfold inE entNew; simp only; omega)]
        unfold atE entNew
        cases p
        simp only [Option.some.injEq, Ptr.mk.injEq, true_and]
        omega
      · rw [if_neg h, if_neg (by unfold inE entNew; simp only; omega)]
        cases lookL (m ++ [x]) s <;> rfl
theorem tab_put {t : Table} {n : Int} {p : Ptr} (h : addOk t n p = true) : tabOk' ⟨t.Dev, t.Size, putL t.List_ n p⟩ = true := by
  unfold addOk at h
  simp only [Bool.and_eq_true, decide_eq_true_eq] at h
  obtain ⟨h1, h2, h3, h4⟩ := h
  rw [tabOk_iff] at h1 ⊢
  refine ⟨h1.1, ?_⟩
  obtain ⟨d, s, l⟩ := t
  simp only at *
  rcases snoc_cases l with rfl | ⟨m, x, rfl⟩
  · simp only [putL]
    rw [tabFrom_cons]
    exact ⟨by unfold EntOk at h4; exact h4.1, h4, rfl⟩
  · have h5 := h1.2
    rw [tabFrom_append, Bool.and_eq_true, tabFrom_cons] at h5
    rw [endOf_snoc] at h2
    rw [putL_snoc]
    split
    · rename_i e
      rw [tabFrom_append, Bool.and_eq_true, tabFrom_cons]
      refine ⟨h5.1, h5.2.1, ?_, rfl⟩
      have h6 := h5.2.2.1
      unfold EntOk entNew at h4
      unfold EntOk at h6 ⊢
      unfold entMore
      simp only at h4 ⊢
      omega
    · rw [tabFrom_append, Bool.and_eq_true]
      refine ⟨h1.2, ?_⟩
      rw [if_neg (by simp), endOf_snoc, tabFrom_cons]
      exact ⟨by unfold entNew; simp only; omega, h4, rfl⟩
theorem put_fresh {l : List Entry} {n : Int} {p : Ptr} (h : ∀ x ∈ l, x.Stale = 0) : ∀ x ∈ putL l n p, x.Stale = 0 := by
  rcases snoc_cases l with rfl | ⟨m, x, rfl⟩
  · intro y hy
    simp only [putL, List.mem_singleton] at hy
    subst hy
    rfl
  · rw [putL_snoc]
    intro y hy
    have hx := h x (by simp)
    split at hy
    · rcases List.mem_append.1 hy with hy | hy
      · exact h y (by simp [hy])
      · simp only [List.mem_singleton] at hy
        subst hy
        exact hx
    · rcases List.mem_append.1 hy with hy | hy
      · exact h y hy
      · simp only [List.mem_singleton] at hy
        subst hy
        rfl
/-! ### All sectors below s lost -/
def stE (s : Int) (x : Entry) : Entry := ⟨x.From, x.Len, x.Dev, x.To, max 0 (min (s - x.From) x.Len)⟩
def stL (s : Int) (l : List Entry) : List Entry := l.map (stE s)
theorem stL_zero {dev size : Int} {l : List Entry} (ho : ∀ x ∈ l, EntOk dev size x) (h : ∀ x ∈ l, x.Stale = 0) : stL 0 l = l := by
  unfold stL
  rw [List.map_congr_left (g := id) fun x hx => ?_, List.map_id]
  have h1 := ho x hx
  have h2 := h x hx
  unfold EntOk at h1
  unfold stE
  cases x
  simp only at h1 h2 ⊢
  simp only [id, Entry.mk.injEq, true_and]
  omega
theorem stE_ok {dev size s : Int} {x : Entry} (h : EntOk dev size x) : EntOk dev size (stE s x) := by
  unfold EntOk at *
  unfold stE
  simp only
  omega
theorem tabFrom_st {dev size s : Int} : ∀ {lo : Int} {l : List Entry}, tabFrom dev size lo l = true → tabFrom dev size lo (stL s l) = true
  | lo, [], _ => rfl
  | lo, x :: r, h => by
    rw [tabFrom_cons] at h
    show tabFrom dev size lo (stE s x :: stL s r) = true
    rw [tabFrom_cons]
    exact ⟨h.1, stE_ok h.2.1, tabFrom_st h.2.2⟩
theorem lookL_st {s : Int} {l : List Entry} {n : Int} : lookL (stL s l) n = lookL l n := by
  induction l with
  | nil => rfl
  | cons x r ih =>
    show lookL (stE s x :: stL s r) n = _
    unfold lookL
    rw [ih]
    rfl
theorem findE_st {s : Int} {n : Int} : ∀ {l : List Entry} {i : Int}, findE (stL s l) n i = findE l n i
  | [], _ => rfl
  | x :: r, i => by
    show findE (stE s x :: stL s r) n i = _
    unfold findE
    rw [findE_st]
    rfl
theorem stE_next {s : Int} {x : Entry} (hl : 1 ≤ x.Len) (h : ¬ inE x s) : stE (s + 1) x = stE s x := by
  unfold inE at h
  unfold stE
  simp only [Entry.mk.injEq, true_and]
  omega
theorem stL_skip {s : Int} {dev size : Int} {l : List Entry} (ho : ∀ x ∈ l, EntOk dev size x) (h : lookL l s = none) : stL (s + 1) l = stL s l := by
  induction l with
  | nil => rfl
  | cons x r ih =>
    unfold lookL at h
    by_cases c : inE x s
    · rw [if_pos c] at h; cases h
    · rw [if_neg c] at h
      show stE (s + 1) x :: stL (s + 1) r = stE s x :: stL s r
      have h1 := ho x (by simp)
      unfold EntOk at h1
      rw [stE_next (by omega) c, ih (fun y hy => ho y (by simp [hy])) h]
/-- The entries ahead of the one a sector is in end below it; those behind begin above it. -/
theorem tab_apart {dev size lo s : Int} : ∀ {l : List Entry} {j : Nat} (hj : j < l.length), tabFrom dev size lo l = true → inE l[j] s → ∀ (i : Nat) (hi : i < l.length), (i < j → l[i].From + l[i].Len ≤ s) ∧ (j < i → s < l[i].From)
  | [], j, hj, _, _, i, hi => by simp at hi
  | x :: r, 0, hj, hok, h, i, hi => by
    refine ⟨fun h' => by omega, fun h' => ?_⟩
    obtain ⟨i', rfl⟩ : ∃ m, i = m + 1 := ⟨i - 1, by omega⟩
    rw [tabFrom_cons] at hok
    have := tab_end hok.2.2 _ (List.getElem_mem (show i' < r.length by simpa using hi))
    unfold inE at h
    simp only [List.getElem_cons_zero, List.getElem_cons_succ] at h ⊢
    omega
  | x :: r, j + 1, hj, hok, h, i, hi => by
    rw [tabFrom_cons] at hok
    simp only [List.getElem_cons_succ] at h
    have hj' : j < r.length := by simpa using hj
    cases i with
    | zero =>
      refine ⟨fun _ => ?_, fun h' => by omega⟩
      have := tab_end hok.2.2 _ (List.getElem_mem hj')
      unfold inE at h
      simp only [List.getElem_cons_zero]
      omega
    | succ i =>
      have := tab_apart hj' hok.2.2 h i (by simpa using hi)
      simp only [List.getElem_cons_succ]
      exact ⟨fun h' => this.1 (by omega), fun h' => this.2 (by omega)⟩
theorem stL_get {s : Int} {l : List Entry} {i : Nat} (h : i < (stL s l).length) (hi : i < l.length) : (stL s l)[i] = stE s l[i] := by simp [stL]
theorem stL_lose {dev size s : Int} {l : List Entry} {j : Nat} (hj : j < l.length) (hok : tabFrom dev size 0 l = true) (h : inE l[j] s) : (stL s l).set j (staler (stE s l[j])) = stL (s + 1) l := by
  apply List.ext_getElem
  · simp [stL]
  · intro i h1 h2
    have hi : i < l.length := by simpa [stL] using h2
    have hx := tab_elem hok _ (List.getElem_mem hi)
    rw [List.getElem_set, stL_get h2 hi]
    split
    · rename_i e
      subst e
      unfold inE at h
      unfold EntOk at hx
      unfold staler stE
      simp only [Entry.mk.injEq, true_and]
      omega
    · rename_i e
      rw [stL_get (by simpa [stL] using hi) hi, stE_next]
      · unfold EntOk at hx; omega
      · have := tab_apart hj hok h i hi
        unfold inE
        intro hh
        rcases Nat.lt_or_ge i j with hl | hl
        · have := this.1 hl; omega
        · have := this.2 (by omega); omega
theorem range_all {size : Int} {dev : Int} {l : List Entry} (ho : ∀ x ∈ l, EntOk dev size x) (h : ∀ x ∈ l, x.Stale = 0) : rangeL 0 size l = l := by
  unfold rangeL
  have h1 : l.filter (cuts 0 size) = l := by
    rw [List.filter_eq_self]
    intro x hx
    have := ho x hx
    unfold EntOk at this
    unfold cuts imax imin
    simp only [decide_eq_true_eq]
    split <;> split <;> omega
  rw [h1, List.map_congr_left (g := id) fun x hx => ?_, List.map_id]
  have h2 := ho x hx
  have h3 := h x hx
  unfold EntOk at h2
  have e1 : imax 0 x.From = x.From := by unfold imax; split <;> omega
  have e2 : imin (0 + size) (x.From + x.Len) = x.From + x.Len := by unfold imin; split <;> omega
  unfold cut1
  rw [e1, e2]
  cases x
  simp only at h2 h3 ⊢
  simp only [id, Entry.mk.injEq, true_and]
  omega
end Go.Proofs.Ytnaajldlloglkaa.W
