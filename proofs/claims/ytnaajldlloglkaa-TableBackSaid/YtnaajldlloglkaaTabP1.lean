/- Plain facts: which entries, which tables may be. -/
import Derived.Test.YtnaajldlloglkaaHN
import Derived.Test.YtnaajldlloglkaaTabFn
set_option linter.unusedVariables false
set_option linter.unusedSimpArgs false
namespace Go.Proofs.Ytnaajldlloglkaa.W
open Go.H
def EntOk (dev size : Int) (x : Entry) : Prop := 0 ≤ x.From ∧ 1 ≤ x.Len ∧ x.From + x.Len ≤ size ∧ 1 ≤ x.Dev ∧ x.Dev ≤ 40 ∧ ¬ x.Dev = dev ∧ 0 ≤ x.To ∧ x.To + x.Len ≤ 64 ∧ 0 ≤ x.Stale ∧ x.Stale ≤ x.Len
instance (dev size : Int) (x : Entry) : Decidable (EntOk dev size x) := by unfold EntOk; exact inferInstance
theorem entry_eq {t : Table} {x : Entry} (h1 : 1 ≤ t.Size) (h2 : t.Size ≤ 64) : table_entry.f t x = some (decide (EntOk t.Dev t.Size x)) := by
  have no : ¬ EntOk t.Dev t.Size x → some false = some (decide (EntOk t.Dev t.Size x)) := fun h => by rw [decide_eq_false h]
  unfold table_entry.f table_id.f
  by_cases a1 : 0 ≤ x.From
  case neg => rw [if_neg a1]; exact no (by unfold EntOk; omega)
  rw [if_pos a1]
  by_cases a2 : x.From < t.Size
  case neg => rw [if_neg a2]; exact no (by unfold EntOk; omega)
  rw [if_pos a2]
  by_cases a3 : 1 ≤ x.Len
  case neg => rw [if_neg a3]; exact no (by unfold EntOk; omega)
  rw [if_pos a3, w64_id (by omega) (by omega)]
  by_cases a4 : x.Len ≤ t.Size - x.From
  case neg => rw [if_neg a4]; exact no (by unfold EntOk; omega)
  rw [if_pos a4]
  by_cases a5 : 1 ≤ x.Dev
  case neg => rw [if_neg a5]; exact no (by unfold EntOk; omega)
  rw [if_pos a5]
  simp only [Option.bind_some]
  by_cases a6 : x.Dev ≤ 40
  case neg => rw [decide_eq_false a6, if_neg (by decide)]; exact no (by unfold EntOk; omega)
  rw [decide_eq_true a6, if_pos rfl]
  by_cases a7 : x.Dev = t.Dev
  · rw [if_pos a7]; exact no (by unfold EntOk; omega)
  rw [if_neg a7]
  by_cases a8 : 0 ≤ x.To
  case neg => rw [if_neg a8]; exact no (by unfold EntOk; omega)
  rw [if_pos a8]
  by_cases a9 : x.To < 64
  case neg => rw [if_neg a9]; exact no (by unfold EntOk; omega)
  rw [if_pos a9, w64_id (by omega) (by omega)]
  by_cases b1 : x.Len ≤ 64 - x.To
  case neg => rw [if_neg b1]; exact no (by unfold EntOk; omega)
  rw [if_pos b1]
  by_cases b2 : 0 ≤ x.Stale
  case neg => rw [if_neg b2]; exact no (by unfold EntOk; omega)
  rw [if_pos b2]
  congr 1
  rw [decide_eq_decide]
  unfold EntOk
  omega
def tabFrom (dev size : Int) : Int → List Entry → Bool
  | _, [] => true
  | lo, x :: r => decide (lo ≤ x.From) && (decide (EntOk dev size x) && tabFrom dev size (x.From + x.Len) r)
theorem tabFrom_cons {dev size lo : Int} {x : Entry} {r : List Entry} : tabFrom dev size lo (x :: r) = true ↔ lo ≤ x.From ∧ EntOk dev size x ∧ tabFrom dev size (x.From + x.Len) r = true := by simp [tabFrom]
theorem tabFrom_f {dev size lo : Int} {x : Entry} {r : List Entry} (h : ¬ (lo ≤ x.From ∧ EntOk dev size x)) : tabFrom dev size lo (x :: r) = false := by
  cases e : tabFrom dev size lo (x :: r) with
  | false => rfl
  | true => rw [tabFrom_cons] at e; exact absurd ⟨e.1, e.2.1⟩ h
theorem tabFrom_t {dev size lo : Int} {x : Entry} {r : List Entry} (h1 : lo ≤ x.From) (h2 : EntOk dev size x) : tabFrom dev size lo (x :: r) = tabFrom dev size (x.From + x.Len) r := by simp [tabFrom, h1, h2]
/-- A table's head may be. -/
def headOk (t : Table) : Bool := decide (1 ≤ t.Dev) && (decide (t.Dev ≤ 40) && (decide (1 ≤ t.Size) && decide (t.Size ≤ 64)))
def tabOk' (t : Table) : Bool := headOk t && tabFrom t.Dev t.Size 0 t.List_
theorem tabOk_iff {t : Table} : tabOk' t = true ↔ (1 ≤ t.Dev ∧ t.Dev ≤ 40 ∧ 1 ≤ t.Size ∧ t.Size ≤ 64) ∧ tabFrom t.Dev t.Size 0 t.List_ = true := by simp [tabOk', headOk]
/-- What stands below element i: the end of the one ahead of it. -/
def LoAt (l : List Entry) (i : Nat) (lo : Int) : Prop := 0 ≤ lo ∧ lo ≤ 64 ∧ (i = 0 → lo = 0) ∧ (0 < i → (rd l ((i - 1 : Nat) : Int)).From + (rd l ((i - 1 : Nat) : Int)).Len = lo)
theorem May_l0 {t : Table} (h1 : 1 ≤ t.Size) (h2 : t.Size ≤ 64) (hl : t.List_.length < 4611686018427387904) : ∀ (n i : Nat) (lo : Int), i ≤ t.List_.length → t.List_.length - i < n → LoAt t.List_ i lo → table_May.l0 t n i = some (tabFrom t.Dev t.Size lo (t.List_.drop i))
  | 0, i, lo, _, h, _ => by omega
  | n + 1, i, lo, hi, hn, hlo => by
    unfold table_May.l0
    by_cases c : i < t.List_.length
    · rw [if_pos (by omega), if_pos ⟨by omega, by omega⟩, rd_nat c, entry_eq h1 h2, List.drop_eq_getElem_cons c]
      simp only [Option.bind_some]
      have er := rd_nat c
      generalize hs : t.List_[i] = x at *
      obtain ⟨l0, l1, l2, l3⟩ := hlo
      by_cases a1 : EntOk t.Dev t.Size x
      case neg => rw [decide_eq_false a1, if_neg (by decide), tabFrom_f (fun h => a1 h.2)]; rfl
      rw [decide_eq_true a1, if_pos rfl]
      have next : lo ≤ x.From → table_May.l0 t n (w64 ((i : Int) + 1)) = some (tabFrom t.Dev t.Size lo (x :: t.List_.drop (i + 1))) := fun hle => by
        rw [w64_succ c hl, tabFrom_t hle a1]
        refine May_l0 h1 h2 hl n (i + 1) _ (by omega) (by omega) ⟨by unfold EntOk at a1; omega, by unfold EntOk at a1; omega, fun h => by omega, fun _ => ?_⟩
        rw [Nat.add_sub_cancel, er]
      by_cases a2 : (0 : Int) < (i : Int)
      · rw [if_pos a2, w64_pred (by omega) hi hl, if_pos ⟨by omega, by omega⟩]
        unfold table_end.f
        simp only [Option.bind_some]
        rw [l3 (by omega), w64_id (by omega) (by omega)]
        unfold table_May.j1
        by_cases a3 : x.From < lo
        · rw [decide_eq_true a3, if_pos rfl, tabFrom_f (fun h => by omega)]
        · rw [decide_eq_false a3, if_neg (by decide)]
          exact next (by omega)
      · rw [if_neg a2]
        unfold table_May.j1
        rw [if_neg (by decide)]
        exact next (by have := l2 (by omega); unfold EntOk at a1; omega)
    · rw [if_neg (by omega), List.drop_eq_nil_of_le (by omega)]
      rfl
theorem May_eq {t : Table} {k : Nat} (hl : t.List_.length < 4611686018427387904) (hk : t.List_.length < k) : table_May.f k t = some (tabOk' t) := by
  unfold table_May.f table_id.f tabOk' headOk
  by_cases a1 : 1 ≤ t.Dev
  case neg => rw [if_neg a1, decide_eq_false a1]; rfl
  rw [if_pos a1, decide_eq_true a1]
  simp only [Option.bind_some]
  by_cases a2 : t.Dev ≤ 40
  case neg => rw [decide_eq_false a2]; rfl
  rw [decide_eq_true a2, if_pos rfl]
  by_cases a3 : t.Size < 1
  · rw [if_pos a3, decide_eq_false (show ¬ 1 ≤ t.Size by omega)]; rfl
  rw [if_neg a3, decide_eq_true (show 1 ≤ t.Size by omega)]
  unfold table_May.j0
  by_cases a4 : 64 < t.Size
  · rw [decide_eq_true a4, if_pos rfl, decide_eq_false (show ¬ t.Size ≤ 64 by omega)]; rfl
  rw [decide_eq_false a4, if_neg (by decide), decide_eq_true (show t.Size ≤ 64 by omega)]
  have := May_l0 (t := t) (by omega) (by omega) hl k 0 0 (by omega) (by omega) ⟨by omega, by omega, fun _ => rfl, fun h => by omega⟩
  rw [List.drop_zero] at this
  simpa using this
theorem some_no {p : Prop} [Decidable p] (h : ¬ p) : some false = some (decide p) := by rw [decide_eq_false h]
theorem Place_eq {dev len : Int} {p : Ptr} : hermitageref7_Place.f dev p len = some (decide (1 ≤ p.Dev ∧ p.Dev ≤ 40 ∧ ¬ p.Dev = dev ∧ 0 ≤ p.At ∧ 1 ≤ len ∧ len ≤ 64 ∧ p.At + len ≤ 64)) := by
  unfold hermitageref7_Place.f hermitageref0_Between.f
  by_cases a1 : 1 ≤ p.Dev
  case neg => rw [if_neg a1]; exact some_no (fun h => a1 h.1)
  rw [if_pos a1]
  simp only [Option.bind_some]
  by_cases a2 : p.Dev ≤ 40
  case neg => rw [decide_eq_false a2, if_neg (by decide)]; exact some_no (fun h => a2 h.2.1)
  rw [decide_eq_true a2, if_pos rfl]
  by_cases a3 : p.Dev = dev
  · rw [if_pos a3]; exact some_no (fun h => h.2.2.1 a3)
  rw [if_neg a3]
  by_cases a4 : 0 ≤ p.At
  case neg => rw [if_neg a4]; exact some_no (fun h => a4 h.2.2.2.1)
  rw [if_pos a4]
  by_cases a5 : 1 ≤ len
  case neg => rw [if_neg a5]; exact some_no (fun h => a5 h.2.2.2.2.1)
  rw [if_pos a5]
  by_cases a6 : len ≤ 64
  case neg => rw [if_neg a6]; exact some_no (fun h => a6 h.2.2.2.2.2.1)
  rw [if_pos a6, w64_id (by omega) (by omega)]
  congr 1
  rw [decide_eq_decide]
  omega
theorem Num_eq {a b : Int} : hermitageref0_Num.f a b = some (decide (0 ≤ a ∧ a ≤ b)) := by
  unfold hermitageref0_Num.f
  by_cases h : 0 ≤ a
  · rw [if_pos h]; congr 1; rw [decide_eq_decide]; omega
  · rw [if_neg h]; exact some_no (fun hh => h hh.1)
theorem Between_eq {n a b : Int} : hermitageref0_Between.f n a b = some (decide (a ≤ n ∧ n ≤ b)) := by
  unfold hermitageref0_Between.f
  by_cases h : a ≤ n
  · rw [if_pos h]; congr 1; rw [decide_eq_decide]; omega
  · rw [if_neg h]; exact some_no (fun hh => h hh.1)
theorem refTable_l0 {t : Table} (h1 : 1 ≤ t.Size) (h2 : t.Size ≤ 64) (hl : t.List_.length < 4611686018427387904) : ∀ (n i : Nat) (lo : Int), i ≤ t.List_.length → t.List_.length - i < n → 0 ≤ lo → hermitageref7_Table.l0 t n lo i = some (tabFrom t.Dev t.Size lo (t.List_.drop i))
  | 0, i, lo, _, h, _ => by omega
  | n + 1, i, lo, hi, hn, hlo => by
    unfold hermitageref7_Table.l0
    by_cases c : i < t.List_.length
    · rw [if_pos (by omega), if_pos ⟨by omega, by omega⟩, List.drop_eq_getElem_cons c]
      unfold hermitageref7_Table.j1
      rw [rd_nat c]
      generalize hs : t.List_[i] = x at *
      have no : ¬ (lo ≤ x.From ∧ EntOk t.Dev t.Size x) → some false = some (tabFrom t.Dev t.Size lo (x :: t.List_.drop (i + 1))) := fun h => by rw [tabFrom_f h]
      simp only [if_true]
      by_cases a1 : x.From < lo
      · rw [if_pos a1]; exact no (by omega)
      rw [if_neg a1]
      by_cases a2 : x.Len < 1
      · rw [if_pos a2]; exact no (by unfold EntOk; omega)
      rw [if_neg a2]
      by_cases a3 : t.Size < x.Len
      · rw [if_pos a3]; exact no (by unfold EntOk; omega)
      rw [if_neg a3, w64_id (x := t.Size - x.Len) (by omega) (by omega)]
      by_cases a4 : t.Size - x.Len < x.From
      · rw [if_pos a4]; exact no (by unfold EntOk; omega)
      rw [if_neg a4, Place_eq, Num_eq]
      simp only [Option.bind_some]
      by_cases a5 : 1 ≤ x.Dev ∧ x.Dev ≤ 40 ∧ ¬ x.Dev = t.Dev ∧ 0 ≤ x.To ∧ 1 ≤ x.Len ∧ x.Len ≤ 64 ∧ x.To + x.Len ≤ 64
      case neg => rw [decide_eq_false a5, if_neg (by decide)]; exact no (by unfold EntOk; omega)
      rw [decide_eq_true a5, if_pos rfl]
      by_cases a6 : 0 ≤ x.Stale ∧ x.Stale ≤ x.Len
      case neg => rw [decide_eq_false a6]; exact no (by unfold EntOk; omega)
      rw [decide_eq_true a6]
      simp only [Bool.not_true, Bool.false_eq_true, if_false]
      have a7 : EntOk t.Dev t.Size x := by unfold EntOk; omega
      rw [w64_succ c hl, tabFrom_t (by omega) a7, w64_id (by omega) (by omega)]
      exact refTable_l0 h1 h2 hl n (i + 1) _ (by omega) (by omega) (by omega)
    · rw [if_neg (by omega), List.drop_eq_nil_of_le (by omega)]
      rfl
theorem refTable_eq {t : Table} {k : Nat} (hl : t.List_.length < 4611686018427387904) (hk : t.List_.length < k) : hermitageref7_Table.f k t = some (tabOk' t) := by
  unfold hermitageref7_Table.f tabOk' headOk
  rw [Between_eq, Between_eq]
  simp only [Option.bind_some]
  by_cases a1 : 1 ≤ t.Dev
  case neg => rw [decide_eq_false (fun h => a1 h.1), decide_eq_false a1]; rfl
  by_cases a2 : t.Dev ≤ 40
  case neg => rw [decide_eq_false (fun h => a2 h.2), decide_eq_false a2]; simp; rfl
  rw [decide_eq_true ⟨a1, a2⟩, decide_eq_true a1, decide_eq_true a2, if_pos rfl]
  by_cases a3 : 1 ≤ t.Size
  case neg => rw [decide_eq_false (fun h => a3 h.1), decide_eq_false a3]; rfl
  by_cases a4 : t.Size ≤ 64
  case neg => rw [decide_eq_false (fun h => a4 h.2), decide_eq_false a4]; simp; rfl
  rw [decide_eq_true ⟨a3, a4⟩, decide_eq_true a3, decide_eq_true a4]
  unfold hermitageref7_Table.j0
  simp only [Bool.not_true, Bool.false_eq_true, if_false]
  have := refTable_l0 (t := t) (by omega) (by omega) hl k 0 0 (by omega) (by omega) (by omega)
  rw [List.drop_zero] at this
  simpa using this
theorem tab_elem {dev size lo : Int} : ∀ {l : List Entry}, tabFrom dev size lo l = true → ∀ x ∈ l, EntOk dev size x
  | [], _, x, h => by simp at h
  | a :: r, hok, x, h => by
    rw [tabFrom_cons] at hok
    rcases List.mem_cons.1 h with rfl | h
    · exact hok.2.1
    · exact tab_elem hok.2.2 x h
end Go.Proofs.Ytnaajldlloglkaa.W
