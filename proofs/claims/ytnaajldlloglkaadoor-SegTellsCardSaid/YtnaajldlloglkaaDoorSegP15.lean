/- Plain facts: the page's answers that SegTells asks. -/
import Derived.Test.YtnaajldlloglkaaDoorSegP13
set_option linter.unusedVariables false
set_option linter.unusedSimpArgs false
namespace Go.Proofs.YtnaajldlloglkaaDoor.W
open Go.H
theorem refList_l0 {s : Nat → Bool} : ∀ (n i : Nat) (acc : List Int), i ≤ 64 → 64 - i < n → acc.length ≤ i → hermitageref1_List.l0 s n acc i = some (acc ++ (secFrom i s).map fun (i : Nat) => (i : Int))
  | 0, i, acc, _, h, _ => by omega
  | n + 1, i, acc, hi, hn, ha => by
    unfold hermitageref1_List.l0
    by_cases c : i < 64
    · rw [if_pos (by omega), if_pos ⟨by omega, by omega⟩, Int.toNat_natCast, secFrom_cons c]
      by_cases hs : s i = true
      · rw [if_pos hs, if_pos (by omega), if_pos hs]
        unfold hermitageref1_List.j0
        rw [w64_succ c (by omega), refList_l0 n (i + 1) _ (by omega) (by omega) (by rw [List.length_append]; simp; omega)]
        simp
      · rw [if_neg hs, if_neg hs]
        unfold hermitageref1_List.j0
        rw [w64_succ c (by omega)]
        exact refList_l0 n (i + 1) _ (by omega) (by omega) (by omega)
    · obtain rfl : i = 64 := by omega
      rw [if_neg (by omega), secFrom_end]
      simp
theorem refList_eq {l : List Seg} {k : Nat} (hk : 1000 < k) (hl : l.length ≤ 500) (h : ok l = true) : hermitageref1_List.f k l = some ((secFrom 0 (mem l)).map fun (i : Nat) => (i : Int)) := by
  unfold hermitageref1_List.f
  rw [Set_eq hk hl h]
  exact refList_l0 k 0 [] (by omega) (by omega) (by simp)
theorem refCount_eq {l : List Seg} {k : Nat} (hk : 1000 < k) (hl : l.length ≤ 500) (h : ok l = true) : hermitageref1_Count.f k l = some (((secFrom 0 (mem l)).length : Nat) : Int) := by
  unfold hermitageref1_Count.f
  rw [refList_eq hk hl h]
  simp
theorem Num_eq {a b : Int} : hermitageref0_Num.f a b = some (decide (0 ≤ a) && decide (a ≤ b)) := by
  unfold hermitageref0_Num.f
  by_cases h : 0 ≤ a
  · rw [if_pos h, decide_eq_true h]; rfl
  · rw [if_neg h, decide_eq_false h]; rfl
theorem SetHas_eq {x : Int} {b : Nat → Bool} {n : Int} (hx : IsSet x b) : seg_Set_Has.f x n = some (inNum n && b n.toNat) := by
  unfold seg_Set_Has.f inNum
  by_cases h0 : 0 ≤ n
  · rw [if_pos h0, decide_eq_true h0]
    by_cases h1 : n < 64
    · rw [if_pos h1, decide_eq_true h1]
      obtain ⟨y, e, hy⟩ := One_set h0 h1
      rw [e]
      simp only [Option.bind_some, Bool.true_and]
      have hz := hx.and hy
      cases hb : b n.toNat with
      | true =>
        rw [bne_t fun e => ?_]
        have := hz.zero_iff.1 e n.toNat (by omega)
        rw [hb] at this
        simp at this
        omega
      | false =>
        rw [bne_f (hz.zero_iff.2 fun i hi => ?_)]
        by_cases e : (i : Int) = n
        · rw [show n.toNat = i by omega] at hb
          rw [hb]; rfl
        · simp [e]
    · rw [if_neg h1, decide_eq_false h1]; rfl
  · rw [if_neg h0, decide_eq_false h0]; rfl
theorem segHas_eq {l : List Seg} {k : Nat} {n : Int} (hk : 1000 < k) (hl : l.length ≤ 500) : seg_Has.f k l n = some (if ok l = true then (inNum n && mem l n.toNat, 0) else (false, 1)) := by
  unfold seg_Has.f
  rw [May_eq (by omega) (by omega)]
  simp only [Option.bind_some]
  cases h1 : ok l with
  | false => rfl
  | true =>
    rw [if_pos rfl]
    obtain ⟨x, e1, hx⟩ := Make_set (k := k) (by omega) (by omega) h1
    rw [e1]
    simp only [Option.bind_some]
    rw [SetHas_eq hx]
    rfl
theorem refHas_eq {l : List Seg} {k : Nat} {n : Int} (hk : 1000 < k) (hl : l.length ≤ 500) (h : ok l = true) : hermitageref1_Has.f k l n = some (inNum n && mem l n.toNat) := by
  unfold hermitageref1_Has.f inNum
  rw [Set_eq hk hl h, Num_eq]
  simp only [Option.bind_some]
  by_cases h0 : 0 ≤ n
  · by_cases h1 : n < 64
    · rw [decide_eq_true h0, decide_eq_true (show n ≤ 63 by omega), decide_eq_true h1, Bool.true_and, if_pos rfl, if_pos ⟨h0, h1⟩]; rfl
    · rw [decide_eq_true h0, decide_eq_false (show ¬ n ≤ 63 by omega), decide_eq_false h1]; rfl
  · rw [decide_eq_false h0]; rfl
def ends : List Seg → Int
  | [] => 0
  | [s] => s.At + s.Len
  | _ :: t :: r => ends (t :: r)
theorem ends_snoc {l : List Seg} {s : Seg} : ends (l ++ [s]) = s.At + s.Len := by
  induction l with
  | nil => rfl
  | cons a r ih =>
    cases r with
    | nil => rfl
    | cons b q => exact ih
theorem Ends_eq {l : List Seg} (hl : l.length ≤ 500) (h : ok l = true) : hermitageref1_Ends.f l = some (ends l) := by
  unfold hermitageref1_Ends.f
  rcases snoc_cases l with rfl | ⟨m, s, rfl⟩
  · rfl
  · have hs := ok_elem (Int.le_refl 0) h s (by simp)
    have e0 : (m ++ [s]).length = m.length + 1 := by simp
    have ew : w64 (((m ++ [s]).length : Int) - 1) = ((m.length : Nat) : Int) := by rw [e0, w64_id (by omega) (by omega)]; omega
    have er : rd (m ++ [s]) ((m.length : Nat) : Int) = s := by rw [rd_nat (by simp)]; simp
    rw [if_neg (by omega), ew, if_pos ⟨by omega, by omega⟩, if_pos ⟨by omega, by omega⟩, er, w64_id (by omega) (by omega), ends_snoc]
theorem mem_ends {lo : Int} : ∀ {l : List Seg}, okFrom lo l = true → ∀ {i : Nat}, mem l i = true → (i : Int) < ends l
  | [], _, i, h => by simp [mem] at h
  | [s], _, i, h => by
    simp [mem] at h
    show (i : Int) < s.At + s.Len
    omega
  | s :: t :: r, hok, i, h => by
    rw [okFrom_cons] at hok
    have ih := fun i => mem_ends (i := i) hok.2.2.2
    have ht := hok.2.2.2
    rw [okFrom_cons] at ht
    show (i : Int) < ends (t :: r)
    rw [mem, Bool.or_eq_true] at h
    rcases h with h | h
    · simp at h
      have := ih (t.At.toNat) (by simp [mem]; omega)
      omega
    · exact ih i h
theorem ends_mem {lo : Int} (h0 : 0 ≤ lo) : ∀ {l : List Seg}, okFrom lo l = true → l ≠ [] → 1 ≤ ends l ∧ ends l ≤ 64 ∧ mem l (ends l - 1).toNat = true
  | [], _, h => absurd rfl h
  | [s], hok, _ => by
    rw [okFrom_cons] at hok
    show 1 ≤ s.At + s.Len ∧ s.At + s.Len ≤ 64 ∧ mem [s] (s.At + s.Len - 1).toNat = true
    refine ⟨by omega, by omega, ?_⟩
    simp [mem]
    omega
  | s :: t :: r, hok, _ => by
    rw [okFrom_cons] at hok
    obtain ⟨h1, h2, h3⟩ := ends_mem (by omega) hok.2.2.2 (by simp)
    refine ⟨h1, h2, ?_⟩
    show mem (s :: t :: r) (ends (t :: r) - 1).toNat = true
    rw [mem, h3, Bool.or_true]
theorem ends_below {l : List Seg} {n : Int} (h : ok l = true) (h0 : 0 ≤ n) : decide (ends l ≤ n) = below l n := by
  rw [Bool.eq_iff_iff, decide_eq_true_iff, below_iff]
  constructor
  · intro h1 i _ hm
    have := mem_ends h hm
    omega
  · intro h1
    by_cases e : l = []
    · subst e; exact h0
    · obtain ⟨a, b, c⟩ := ends_mem (Int.le_refl 0) h e
      have := h1 _ (by omega) c
      omega
theorem refNot_eq {l : List Seg} {k : Nat} {n : Int} (hk : 1000 < k) (hl : l.length ≤ 500) (h : ok l = true) (h0 : 0 ≤ n) (h1 : n ≤ 64) : hermitageref1_Not.f k l n = some (segsOf fun i => decide ((i : Int) < n) && !mem l i) := by
  unfold hermitageref1_Not.f
  by_cases e : n = 0
  · rw [if_pos e, ← segsOf_none]
    congr 1
    refine segsOf_congr fun i _ => ?_
    have : ¬ (i : Int) < n := by omega
    simp [this]
  · rw [if_neg e, Two_eq hk (by simp) hl (by unfold ok; rw [okFrom_cons]; exact ⟨by simp, by simp only; omega, by simp only; omega, rfl⟩) h]
    simp only [Option.bind_some]
    congr 1
    refine segsOf_congr fun i _ => ?_
    unfold pick2
    rw [if_neg (by decide), if_pos rfl]
    congr 1
    simp only [mem, Bool.or_false]
    rw [Bool.eq_iff_iff]
    simp
end Go.Proofs.YtnaajldlloglkaaDoor.W
