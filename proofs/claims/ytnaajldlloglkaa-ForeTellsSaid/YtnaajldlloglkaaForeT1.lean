/- Plain facts; lines of the claims before, printed by mkfacts.py. -/
import Derived.Test.YtnaajldlloglkaaHN
import Derived.Test.YtnaajldlloglkaaForeFn
set_option linter.unusedVariables false
set_option linter.unusedSimpArgs false
namespace Go.Proofs.Ytnaajldlloglkaa.W.T
open Go.H
def EntOk (dev size : Int) (x : Entry) : Prop := 0 ≤ x.From ∧ 1 ≤ x.Len ∧ x.From + x.Len ≤ size ∧ 1 ≤ x.Dev ∧ x.Dev ≤ 40 ∧ ¬ x.Dev = dev ∧ 0 ≤ x.To ∧ x.To + x.Len ≤ 64 ∧ 0 ≤ x.Stale ∧ x.Stale ≤ x.Len
instance (dev size : Int) (x : Entry) : Decidable (EntOk dev size x) := by unfold EntOk; exact inferInstance
theorem entry_eq {t : Table} {x : Entry} (h1 : 1 ≤ t.Size) (h2 : t.Size ≤ 64) : table_entry.f t x = some (decide (EntOk t.Dev t.Size x)) := by
  have no : ¬ EntOk t.Dev t.Size x → some false = some (decide (EntOk t.Dev t.Size x)) := fun h => by rw [decide_eq_false h]
  unfold table_entry.f table_id.f
  by_cases a1 : 0 ≤ x.From
  case neg => rw [if_neg a1]; exact no (by unfold EntOk; omega)
  rw [if_pos a1]
  by_cases a2 : x.From < t.Size
  case neg => rw [if_neg a2]; exact no (by unfold EntOk; omega)
  rw [if_pos a2]
  by_cases a3 : 1 ≤ x.Len
  case neg => rw [if_neg a3]; exact no (by unfold EntOk; omega)
  rw [if_pos a3, w64_id (by omega) (by omega)]
  by_cases a4 : x.Len ≤ t.Size - x.From
  case neg => rw [if_neg a4]; exact no (by unfold EntOk; omega)
  rw [if_pos a4]
  by_cases a5 : 1 ≤ x.Dev
  case neg => rw [if_neg a5]; exact no (by unfold EntOk; omega)
  rw [if_pos a5]
  simp only [Option.bind_some]
  by_cases a6 : x.Dev ≤ 40
  case neg => rw [decide_eq_false a6, if_neg (by decide)]; exact no (by unfold EntOk; omega)
  rw [decide_eq_true a6, if_pos rfl]
  by_cases a7 : x.Dev = t.Dev
  · rw [if_pos a7]; exact no (by unfold EntOk; omega)
  rw [if_neg a7]
  by_cases a8 : 0 ≤ x.To
  case neg => rw [if_neg a8]; exact no (by unfold EntOk; omega)
  rw [if_pos a8]
  by_cases a9 : x.To < 64
  case neg => rw [if_neg a9]; exact no (by unfold EntOk; omega)
  rw [if_pos a9, w64_id (by omega) (by omega)]
  by_cases b1 : x.Len ≤ 64 - x.To
  case neg => rw [if_neg b1]; exact no (by unfold EntOk; omega)
  rw [if_pos b1]
  by_cases b2 : 0 ≤ x.Stale
  case neg => rw [if_neg b2]; exact no (by unfold EntOk; omega)
  rw [if_pos b2]
  congr 1
  rw [decide_eq_decide]
  unfold EntOk
  omega
def tabFrom (dev size : Int) : Int → List Entry → Bool
  | _, [] => true
  | lo, x :: r => decide (lo ≤ x.From) && (decide (EntOk dev size x) && tabFrom dev size (x.From + x.Len) r)
theorem tabFrom_cons {dev size lo : Int} {x : Entry} {r : List Entry} : tabFrom dev size lo (x :: r) = true ↔ lo ≤ x.From ∧ EntOk dev size x ∧ tabFrom dev size (x.From + x.Len) r = true := by simp [tabFrom]
theorem tabFrom_f {dev size lo : Int} {x : Entry} {r : List Entry} (h : ¬ (lo ≤ x.From ∧ EntOk dev size x)) : tabFrom dev size lo (x :: r) = false := by
  cases e : tabFrom dev size lo (x :: r) with
  | false => rfl
  | true => rw [tabFrom_cons] at e; exact absurd ⟨e.1, e.2.1⟩ h
theorem tabFrom_t {dev size lo : Int} {x : Entry} {r : List Entry} (h1 : lo ≤ x.From) (h2 : EntOk dev size x) : tabFrom dev size lo (x :: r) = tabFrom dev size (x.From + x.Len) r := by simp [tabFrom, h1, h2]
/-- A table's head may be. -/
def headOk (t : Table) : Bool := decide (1 ≤ t.Dev) && (decide (t.Dev ≤ 40) && (decide (1 ≤ t.Size) && decide (t.Size ≤ 64)))
def tabOk' (t : Table) : Bool := headOk t && tabFrom t.Dev t.Size 0 t.List_
theorem tabOk_iff {t : Table} : tabOk' t = true ↔ (1 ≤ t.Dev ∧ t.Dev ≤ 40 ∧ 1 ≤ t.Size ∧ t.Size ≤ 64) ∧ tabFrom t.Dev t.Size 0 t.List_ = true := by simp [tabOk', headOk]
/-- What stands below element i: the end of the one ahead of it. -/
def LoAt (l : List Entry) (i : Nat) (lo : Int) : Prop := 0 ≤ lo ∧ lo ≤ 64 ∧ (i = 0 → lo = 0) ∧ (0 < i → (rd l ((i - 1 : Nat) : Int)).From + (rd l ((i - 1 : Nat) : Int)).Len = lo)
theorem May_l0 {t : Table} (h1 : 1 ≤ t.Size) (h2 : t.Size ≤ 64) (hl : t.List_.length < 4611686018427387904) : ∀ (n i : Nat) (lo : Int), i ≤ t.List_.length → t.List_.length - i < n → LoAt t.List_ i lo → table_May.l0 t n i = some (tabFrom t.Dev t.Size lo (t.List_.drop i))
  | 0, i, lo, _, h, _ => by omega
  | n + 1, i, lo, hi, hn, hlo => by
    unfold table_May.l0
    by_cases c : i < t.List_.length
    · rw [if_pos (by omega), if_pos ⟨by omega, by omega⟩, rd_nat c, entry_eq h1 h2, List.drop_eq_getElem_cons c]
      simp only [Option.bind_some]
      have er := rd_nat c
      generalize hs : t.List_[i] = x at *
      obtain ⟨l0, l1, l2, l3⟩ := hlo
      by_cases a1 : EntOk t.Dev t.Size x
      case neg => rw [decide_eq_false a1, if_neg (by decide), tabFrom_f (fun h => a1 h.2)]; rfl
      rw [decide_eq_true a1, if_pos rfl]
      have next : lo ≤ x.From → table_May.l0 t n (w64 ((i : Int) + 1)) = some (tabFrom t.Dev t.Size lo (x :: t.List_.drop (i + 1))) := fun hle => by
        rw [w64_succ c hl, tabFrom_t hle a1]
        refine May_l0 h1 h2 hl n (i + 1) _ (by omega) (by omega) ⟨by unfold EntOk at a1; omega, by unfold EntOk at a1; omega, fun h => by omega, fun _ => ?_⟩
        rw [Nat.add_sub_cancel, er]
      by_cases a2 : (0 : Int) < (i : Int)
      · rw [if_pos a2, w64_pred (by omega) hi hl, if_pos ⟨by omega, by omega⟩]
        unfold table_end.f
        simp only [Option.bind_some]
        rw [l3 (by omega), w64_id (by omega) (by omega)]
        unfold table_May.j1
        by_cases a3 : x.From < lo
        · rw [decide_eq_true a3, if_pos rfl, tabFrom_f (fun h => by omega)]
        · rw [decide_eq_false a3, if_neg (by decide)]
          exact next (by omega)
      · rw [if_neg a2]
        unfold table_May.j1
        rw [if_neg (by decide)]
        exact next (by have := l2 (by omega); unfold EntOk at a1; omega)
    · rw [if_neg (by omega), List.drop_eq_nil_of_le (by omega)]
      rfl
theorem May_eq {t : Table} {k : Nat} (hl : t.List_.length < 4611686018427387904) (hk : t.List_.length < k) : table_May.f k t = some (tabOk' t) := by
  unfold table_May.f table_id.f tabOk' headOk
  by_cases a1 : 1 ≤ t.Dev
  case neg => rw [if_neg a1, decide_eq_false a1]; rfl
  rw [if_pos a1, decide_eq_true a1]
  simp only [Option.bind_some]
  by_cases a2 : t.Dev ≤ 40
  case neg => rw [decide_eq_false a2]; rfl
  rw [decide_eq_true a2, if_pos rfl]
  by_cases a3 : t.Size < 1
  · rw [if_pos a3, decide_eq_false (show ¬ 1 ≤ t.Size by omega)]; rfl
  rw [if_neg a3, decide_eq_true (show 1 ≤ t.Size by omega)]
  unfold table_May.j0
  by_cases a4 : 64 < t.Size
  · rw [decide_eq_true a4, if_pos rfl, decide_eq_false (show ¬ t.Size ≤ 64 by omega)]; rfl
  rw [decide_eq_false a4, if_neg (by decide), decide_eq_true (show t.Size ≤ 64 by omega)]
  have := May_l0 (t := t) (by omega) (by omega) hl k 0 0 (by omega) (by omega) ⟨by omega, by omega, fun _ => rfl, fun h => by omega⟩
  rw [List.drop_zero] at this
  simpa using this
theorem some_no {p : Prop} [Decidable p] (h : ¬ p) : some false = some (decide p) := by rw [decide_eq_false h]
theorem Place_eq {dev len : Int} {p : Ptr} : hermitageref7_Place.f dev p len = some (decide (1 ≤ p.Dev ∧ p.Dev ≤ 40 ∧ ¬ p.Dev = dev ∧ 0 ≤ p.At ∧ 1 ≤ len ∧ len ≤ 64 ∧ p.At + len ≤ 64)) := by
  unfold hermitageref7_Place.f hermitageref0_Between.f
  by_cases a1 : 1 ≤ p.Dev
  case neg => rw [if_neg a1]; exact some_no (fun h => a1 h.1)
  rw [if_pos a1]
  simp only [Option.bind_some]
  by_cases a2 : p.Dev ≤ 40
  case neg => rw [decide_eq_false a2, if_neg (by decide)]; exact some_no (fun h => a2 h.2.1)
  rw [decide_eq_true a2, if_pos rfl]
  by_cases a3 : p.Dev = dev
  · rw [if_pos a3]; exact some_no (fun h => h.2.2.1 a3)
  rw [if_neg a3]
  by_cases a4 : 0 ≤ p.At
  case neg => rw [if_neg a4]; exact some_no (fun h => a4 h.2.2.2.1)
  rw [if_pos a4]
  by_cases a5 : 1 ≤ len
  case neg => rw [if_neg a5]; exact some_no (fun h => a5 h.2.2.2.2.1)
  rw [if_pos a5]
  by_cases a6 : len ≤ 64
  case neg => rw [if_neg a6]; exact some_no (fun h => a6 h.2.2.2.2.2.1)
  rw [if_pos a6, w64_id (by omega) (by omega)]
  congr 1
  rw [decide_eq_decide]
  omega
theorem Num_eq {a b : Int} : hermitageref0_Num.f a b = some (decide (0 ≤ a ∧ a ≤ b)) := by
  unfold hermitageref0_Num.f
  by_cases h : 0 ≤ a
  · rw [if_pos h]; congr 1; rw [decide_eq_decide]; omega
  · rw [if_neg h]; exact some_no (fun hh => h hh.1)
theorem Between_eq {n a b : Int} : hermitageref0_Between.f n a b = some (decide (a ≤ n ∧ n ≤ b)) := by
  unfold hermitageref0_Between.f
  by_cases h : a ≤ n
  · rw [if_pos h]; congr 1; rw [decide_eq_decide]; omega
  · rw [if_neg h]; exact some_no (fun hh => h hh.1)
theorem refTable_l0 {t : Table} (h1 : 1 ≤ t.Size) (h2 : t.Size ≤ 64) (hl : t.List_.length < 4611686018427387904) : ∀ (n i : Nat) (lo : Int), i ≤ t.List_.length → t.List_.length - i < n → 0 ≤ lo → hermitageref7_Table.l0 t n lo i = some (tabFrom t.Dev t.Size lo (t.List_.drop i))
  | 0, i, lo, _, h, _ => by omega
  | n + 1, i, lo, hi, hn, hlo => by
    unfold hermitageref7_Table.l0
    by_cases c : i < t.List_.length
    · rw [if_pos (by omega), if_pos ⟨by omega, by omega⟩, List.drop_eq_getElem_cons c]
      unfold hermitageref7_Table.j1
      rw [rd_nat c]
      generalize hs : t.List_[i] = x at *
      have no : ¬ (lo ≤ x.From ∧ EntOk t.Dev t.Size x) → some false = some (tabFrom t.Dev t.Size lo (x :: t.List_.drop (i + 1))) := fun h => by rw [tabFrom_f h]
      simp only [if_true]
      by_cases a1 : x.From < lo
      · rw [if_pos a1]; exact no (by omega)
      rw [if_neg a1]
      by_cases a2 : x.Len < 1
      · rw [if_pos a2]; exact no (by unfold EntOk; omega)
      rw [if_neg a2]
      by_cases a3 : t.Size < x.Len
      · rw [if_pos a3]; exact no (by unfold EntOk; omega)
      rw [if_neg a3, w64_id (x := t.Size - x.Len) (by omega) (by omega)]
      by_cases a4 : t.Size - x.Len < x.From
      · rw [if_pos a4]; exact no (by unfold EntOk; omega)
      rw [if_neg a4, Place_eq, Num_eq]
      simp only [Option.bind_some]
      by_cases a5 : 1 ≤ x.Dev ∧ x.Dev ≤ 40 ∧ ¬ x.Dev = t.Dev ∧ 0 ≤ x.To ∧ 1 ≤ x.Len ∧ x.Len ≤ 64 ∧ x.To + x.Len ≤ 64
      case neg => rw [decide_eq_false a5, if_neg (by decide)]; exact no (by unfold EntOk; omega)
      rw [decide_eq_true a5, if_pos rfl]
      by_cases a6 : 0 ≤ x.Stale ∧ x.Stale ≤ x.Len
      case neg => rw [decide_eq_false a6]; exact no (by unfold EntOk; omega)
      rw [decide_eq_true a6]
      simp only [Bool.not_true, Bool.false_eq_true, if_false]
      have a7 : EntOk t.Dev t.Size x := by unfold EntOk; omega
      rw [w64_succ c hl, tabFrom_t (by omega) a7, w64_id (by omega) (by omega)]
      exact refTable_l0 h1 h2 hl n (i + 1) _ (by omega) (by omega) (by omega)
    · rw [if_neg (by omega), List.drop_eq_nil_of_le (by omega)]
      rfl
theorem refTable_eq {t : Table} {k : Nat} (hl : t.List_.length < 4611686018427387904) (hk : t.List_.length < k) : hermitageref7_Table.f k t = some (tabOk' t) := by
  unfold hermitageref7_Table.f tabOk' headOk
  rw [Between_eq, Between_eq]
  simp only [Option.bind_some]
  by_cases a1 : 1 ≤ t.Dev
  case neg => rw [decide_eq_false (fun h => a1 h.1), decide_eq_false a1]; rfl
  by_cases a2 : t.Dev ≤ 40
  case neg => rw [decide_eq_false (fun h => a2 h.2), decide_eq_false a2]; simp; rfl
  rw [decide_eq_true ⟨a1, a2⟩, decide_eq_true a1, decide_eq_true a2, if_pos rfl]
  by_cases a3 : 1 ≤ t.Size
  case neg => rw [decide_eq_false (fun h => a3 h.1), decide_eq_false a3]; rfl
  by_cases a4 : t.Size ≤ 64
  case neg => rw [decide_eq_false (fun h => a4 h.2), decide_eq_false a4]; simp; rfl
  rw [decide_eq_true ⟨a3, a4⟩, decide_eq_true a3, decide_eq_true a4]
  unfold hermitageref7_Table.j0
  simp only [Bool.not_true, Bool.false_eq_true, if_false]
  have := refTable_l0 (t := t) (by omega) (by omega) hl k 0 0 (by omega) (by omega) (by omega)
  rw [List.drop_zero] at this
  simpa using this
theorem tab_elem {dev size lo : Int} : ∀ {l : List Entry}, tabFrom dev size lo l = true → ∀ x ∈ l, EntOk dev size x
  | [], _, x, h => by simp at h
  | a :: r, hok, x, h => by
    rw [tabFrom_cons] at hok
    rcases List.mem_cons.1 h with rfl | h
    · exact hok.2.1
    · exact tab_elem hok.2.2 x h
theorem CopyE_l0 {l : List Entry} (hl : l.length ≤ 1000) : ∀ (n i : Nat), i ≤ l.length → l.length - i < n → hermitageref0_CopyEntries.l0 l n (l.take i) i = some l
  | 0, i, _, h => by omega
  | n + 1, i, hi, hn => by
    unfold hermitageref0_CopyEntries.l0
    by_cases c : i < l.length
    · have e : l.take i ++ [l[i]] = l.take (i + 1) := (List.take_succ_eq_append_getElem c).symm
      rw [if_pos (by omega), if_pos ⟨by omega, by omega⟩, rd_nat c, if_pos (by rw [List.length_take]; omega), e, w64_succ c (by omega)]
      exact CopyE_l0 hl n (i + 1) (by omega) (by omega)
    · rw [if_neg (by omega), List.take_of_length_le (by omega)]
theorem CopyT_eq {t : Table} {k : Nat} (hl : t.List_.length ≤ 1000) (hk : 1000 < k) : hermitageref0_CopyTable.f k t = some t := by
  unfold hermitageref0_CopyTable.f hermitageref0_CopyEntries.f
  have := CopyE_l0 hl k 0 (by omega) (by omega)
  rw [List.take_zero] at this
  rw [show (0 : Int) = ((0 : Nat) : Int) from rfl, this]
  rfl
theorem EqE_l0 {l m : List Entry} (hl : l.length < 4611686018427387904) (e : l.length = m.length) : ∀ (n i : Nat), i ≤ l.length → l.length - i < n → hermitageref0_EqEntries.l0 l m n i = some (decide (l.drop i = m.drop i))
  | 0, i, _, h => by omega
  | n + 1, i, hi, hn => by
    unfold hermitageref0_EqEntries.l0
    by_cases c : i < l.length
    · have c2 : i < m.length := by omega
      rw [if_pos (by omega), if_pos ⟨by omega, by omega⟩, if_pos ⟨by omega, by omega⟩, rd_nat c, rd_nat c2, List.drop_eq_getElem_cons c, List.drop_eq_getElem_cons c2]
      by_cases h : l[i] = m[i]
      · rw [if_pos h, w64_succ c hl, EqE_l0 hl e n (i + 1) (by omega) (by omega)]
        congr 1
        rw [decide_eq_decide, List.cons.injEq]
        exact ⟨fun hh => ⟨h, hh⟩, fun hh => hh.2⟩
      · rw [if_neg h]
        congr 1
        symm
        rw [decide_eq_false_iff_not, List.cons.injEq]
        exact fun hh => h hh.1
    · rw [if_neg (by omega), List.drop_eq_nil_of_le (by omega), List.drop_eq_nil_of_le (by omega)]
      simp
theorem EqE_eq {l m : List Entry} {k : Nat} (hl : l.length ≤ 1000) (hk : 1000 < k) : hermitageref0_EqEntries.f k l m = some (decide (l = m)) := by
  unfold hermitageref0_EqEntries.f
  by_cases e : (l.length : Int) = (m.length : Int)
  · rw [if_pos e]
    exact EqE_l0 (by omega) (by omega) k 0 (by omega) (by omega)
  · rw [if_neg e]
    have : ¬ l = m := fun h => e (by rw [h])
    simp [this]
theorem EqT_eq {t u : Table} {k : Nat} (hl : t.List_.length ≤ 1000) (hk : 1000 < k) : hermitageref0_EqTable.f k t u = some (decide (t = u)) := by
  obtain ⟨a, b, l⟩ := t
  obtain ⟨c, d, m⟩ := u
  unfold hermitageref0_EqTable.f
  by_cases h1 : a = c
  · by_cases h2 : b = d
    · rw [if_pos h1, if_pos h2, EqE_eq hl hk]
      simp [h1, h2]
    · rw [if_pos h1, if_neg h2]; simp [h2]
  · rw [if_neg h1]; simp [h1]
/-- Where the last entry ends. -/
def endOf : List Entry → Int
  | [] => 0
  | [x] => x.From + x.Len
  | _ :: y :: r => endOf (y :: r)
theorem endOf_snoc {l : List Entry} {x : Entry} : endOf (l ++ [x]) = x.From + x.Len := by
  induction l with
  | nil => rfl
  | cons a r ih =>
    cases r with
    | nil => rfl
    | cons b q => exact ih
theorem rd_last {l : List Entry} {x : Entry} : rd (l ++ [x]) ((l.length : Nat) : Int) = x := by rw [rd_nat (by simp)]; simp
theorem last_len {l : List Entry} {x : Entry} (hl : (l ++ [x]).length ≤ 1000) : w64 (((l ++ [x]).length : Int) - 1) = ((l.length : Nat) : Int) := by
  rw [List.length_append] at hl ⊢
  simp only [List.length_cons, List.length_nil] at hl ⊢
  rw [w64_id (by omega) (by omega)]; omega
theorem last_lt {l : List Entry} {x : Entry} : ((l.length : Nat) : Int) < ((l ++ [x]).length : Int) := by rw [List.length_append]; simp only [List.length_cons, List.length_nil]; omega
theorem End_eq {t : Table} (hl : t.List_.length ≤ 1000) (h : tabOk' t = true) : hermitageref7_End.f t = some (endOf t.List_) := by
  obtain ⟨d, s, l⟩ := t
  unfold hermitageref7_End.f
  simp only at hl ⊢
  have ht := (tabOk_iff.1 h)
  simp only at ht
  rcases snoc_cases l with rfl | ⟨m, x, rfl⟩
  · rfl
  · have hx := tab_elem ht.2 x (by simp)
    unfold EntOk at hx
    rw [last_len hl, if_neg (by simp; omega), if_pos ⟨by omega, last_lt⟩, rd_last, w64_id (by omega) (by omega), endOf_snoc]
def zeroT : Table := ⟨0, 0, []⟩
theorem tab_end {dev size lo : Int} : ∀ {l : List Entry}, tabFrom dev size lo l = true → ∀ x ∈ l, x.From + x.Len ≤ endOf l ∧ lo ≤ x.From
  | [], _, x, h => by simp at h
  | [a], hok, x, h => by
    simp only [List.mem_singleton] at h
    subst h
    rw [tabFrom_cons] at hok
    exact ⟨Int.le_refl _, hok.1⟩
  | a :: b :: r, hok, x, h => by
    rw [tabFrom_cons] at hok
    have hb := tab_end hok.2.2 b (by simp)
    have h1 := hok.2.1
    have h2 := tab_elem hok.2.2 b (by simp)
    unfold EntOk at h1 h2
    show x.From + x.Len ≤ endOf (b :: r) ∧ lo ≤ x.From
    rcases List.mem_cons.1 h with rfl | h
    · omega
    · have := tab_end hok.2.2 x h
      omega
end Go.Proofs.Ytnaajldlloglkaa.W.T
