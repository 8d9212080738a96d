/- Plain facts: the segments of numbers; one sector; lists of numbers compared. -/
import Derived.Test.YtnaajldlloglkaaDoorSegP11
set_option linter.unusedVariables false
set_option linter.unusedSimpArgs false
namespace Go.Proofs.YtnaajldlloglkaaDoor.W
open Go.H
theorem Check_eq {l : List Seg} {k : Nat} (hl : l.length ≤ 500) (hk : 1000 < k) : seg_Check.f k l = some (if ok l = true then 0 else 1) := by
  unfold seg_Check.f
  rw [May_eq (by omega) (by omega)]
  simp only [Option.bind_some]
  cases ok l <;> rfl
def inNum (n : Int) : Bool := decide (0 ≤ n) && decide (n < 64)
theorem inNum_iff {n : Int} : inNum n = true ↔ 0 ≤ n ∧ n < 64 := by simp [inNum]
theorem One_set {n : Int} (h0 : 0 ≤ n) (h1 : n < 64) : ∃ x, seg_One.f n = some x ∧ IsSet x fun i => decide ((i : Int) = n) := by
  unfold seg_One.f
  rw [if_pos h0]
  obtain ⟨m, rfl⟩ := Int.eq_ofNat_of_zero_le h0
  have hm : m < 64 := by omega
  have hp : 2 ^ m < 2 ^ 64 := Nat.pow_lt_pow_right (by omega) hm
  have hp0 : 0 < 2 ^ m := Nat.two_pow_pos m
  have e1 : (1 * 2 ^ min (m : Int).toNat 64 : Int) = ((2 ^ m : Nat) : Int) := by
    rw [Int.toNat_natCast, Nat.min_eq_left (by omega)]
    simp
  have e2 : wu64 (1 * 2 ^ min (m : Int).toNat 64 : Int) = ((2 ^ m : Nat) : Int) := by rw [e1]; exact wu64_id (by omega) (by omega)
  refine ⟨_, rfl, ?_⟩
  rw [e2]
  refine ⟨by omega, by omega, fun i hi => ?_⟩
  rw [Int.toNat_natCast, Nat.testBit_two_pow]
  rw [Bool.eq_iff_iff]
  simp
  omega
theorem segOf_l1 {l : List Int} {k : Nat} (hk : 64 < k) (hl : l.length < 4611686018427387904) (hin : ∀ n ∈ l, inNum n = true) : ∀ (n i : Nat) (x : Int) (b : Nat → Bool), i ≤ l.length → l.length - i < n → IsSet x b → seg_Of.l1 l k n x i = some (segsOf fun t => b t || decide ((t : Int) ∈ l.drop i), 0)
  | 0, i, x, b, _, h, _ => by omega
  | n + 1, i, x, b, hi, hn, hx => by
    unfold seg_Of.l1
    by_cases c : i < l.length
    · rw [if_pos (by omega), if_pos ⟨by omega, by omega⟩, rd_nat c, List.drop_eq_getElem_cons c]
      have hs := inNum_iff.1 (hin l[i] (List.getElem_mem c))
      generalize l[i] = v at *
      obtain ⟨y, e, hy⟩ := One_set hs.1 hs.2
      rw [e]
      simp only [Option.bind_some]
      rw [w64_succ c hl, segOf_l1 hk hl hin n (i + 1) _ _ (by omega) (by omega) (hx.or hy)]
      congr 2
      refine segsOf_congr fun t _ => ?_
      rw [Bool.or_assoc]
      congr 1
      rw [Bool.eq_iff_iff]
      simp
    · rw [if_neg (by omega), List.drop_eq_nil_of_le (by omega), Set_Segs_eq hx hk]
      simp
theorem segOf_l0 {l : List Int} {k : Nat} (hl : l.length < 4611686018427387904) : ∀ (n i : Nat), i ≤ l.length → l.length - i < n → seg_Of.l0 l k n i = if (l.drop i).all inNum = true then seg_Of.l1 l k k 0 0 else some ([], 1)
  | 0, i, _, h => by omega
  | n + 1, i, hi, hn => by
    unfold seg_Of.l0
    by_cases c : i < l.length
    · rw [if_pos (by omega), if_pos ⟨by omega, by omega⟩, rd_nat c, List.drop_eq_getElem_cons c, List.all_cons]
      generalize l[i] = v at *
      unfold seg_Of_1.f
      by_cases h1 : v < 0
      · have : inNum v = false := by unfold inNum; rw [decide_eq_false (by omega)]; rfl
        rw [if_pos h1, this]
        simp only [Option.bind_some, if_true, Bool.false_and, Bool.false_eq_true, if_false]
        unfold seg_Of.j0
        rw [if_pos (by omega)]
      · rw [if_neg h1]
        simp only [Option.bind_some]
        by_cases h2 : 64 ≤ v
        · have : inNum v = false := by unfold inNum; rw [decide_eq_false (show ¬ v < 64 by omega)]; simp
          rw [decide_eq_true h2, this]
          simp only [if_true, Bool.false_and, Bool.false_eq_true, if_false]
          unfold seg_Of.j0
          rw [if_pos (by omega)]
        · have : inNum v = true := inNum_iff.2 ⟨by omega, by omega⟩
          rw [decide_eq_false h2, if_neg (by decide), this, Bool.true_and, w64_succ c hl]
          exact segOf_l0 hl n (i + 1) (by omega) (by omega)
    · rw [if_neg (by omega), List.drop_eq_nil_of_le (by omega)]
      unfold seg_Of.j0
      rw [if_neg (by decide)]
      rfl
theorem segOf_eq {l : List Int} {k : Nat} (hl : l.length ≤ 900) (hk : 1000 < k) : seg_Of.f k l = some (if l.all inNum = true then (segsOf fun t => decide ((t : Int) ∈ l), 0) else ([], 1)) := by
  unfold seg_Of.f
  have h := segOf_l0 (l := l) (k := k) (by omega) k 0 (by omega) (by omega)
  rw [List.drop_zero] at h
  refine h.trans ?_
  cases h1 : l.all inNum with
  | false => rfl
  | true =>
    rw [if_pos rfl, if_pos rfl]
    have := segOf_l1 (k := k) (by omega) (by omega) (List.all_eq_true.1 h1) k 0 0 _ (by omega) (by omega) IsSet.zero
    rw [List.drop_zero] at this
    refine this.trans ?_
    simp
theorem EqNumbers_l0 {l m : List Int} (hl : l.length < 4611686018427387904) (e : l.length = m.length) : ∀ (n i : Nat), i ≤ l.length → l.length - i < n → hermitageref0_EqNumbers.l0 l m n i = some (decide (l.drop i = m.drop i))
  | 0, i, _, h => by omega
  | n + 1, i, hi, hn => by
    unfold hermitageref0_EqNumbers.l0
    by_cases c : i < l.length
    · have c2 : i < m.length := by omega
      rw [if_pos (by omega), if_pos ⟨by omega, by omega⟩, if_pos ⟨by omega, by omega⟩, rd_nat c, rd_nat c2, List.drop_eq_getElem_cons c, List.drop_eq_getElem_cons c2]
      by_cases h : l[i] = m[i]
      · rw [if_pos h, w64_succ c hl, EqNumbers_l0 hl e n (i + 1) (by omega) (by omega)]
        congr 1
        rw [decide_eq_decide, List.cons.injEq]
        exact ⟨fun hh => ⟨h, hh⟩, fun hh => hh.2⟩
      · rw [if_neg h]
        congr 1
        symm
        rw [decide_eq_false_iff_not, List.cons.injEq]
        exact fun hh => h hh.1
    · rw [if_neg (by omega), List.drop_eq_nil_of_le (by omega), List.drop_eq_nil_of_le (by omega)]
      simp
theorem EqNumbers_eq {l m : List Int} {k : Nat} (hl : l.length < 4611686018427387904) (hk : l.length < k) : hermitageref0_EqNumbers.f k l m = some (decide (l = m)) := by
  unfold hermitageref0_EqNumbers.f
  by_cases e : (l.length : Int) = (m.length : Int)
  · rw [if_pos e]
    exact EqNumbers_l0 hl (by omega) k 0 (by omega) (by omega)
  · rw [if_neg e]
    have : ¬ l = m := fun h => e (by rw [h])
    simp [this]
theorem sec_split {b c : Nat → Bool} (lo : Nat) : (secFrom lo fun i => b i && !c i).length + (secFrom lo fun i => b i && c i).length = (secFrom lo b).length := by
  unfold secFrom
  induction List.range' lo (64 - lo) with
  | nil => rfl
  | cons a r ih =>
    rw [List.filter_cons, List.filter_cons, List.filter_cons]
    cases b a <;> cases c a <;> simp <;> omega
theorem mem_sec {b : Nat → Bool} {t : Nat} (ht : t < 64) : decide ((t : Int) ∈ (secFrom 0 b).map fun (i : Nat) => (i : Int)) = b t := by
  rw [Bool.eq_iff_iff, decide_eq_true_iff, List.mem_map]
  unfold secFrom
  constructor
  · rintro ⟨a, ha, e⟩
    obtain rfl : a = t := by omega
    exact (List.mem_filter.1 ha).2
  · intro h
    refine ⟨t, List.mem_filter.2 ⟨List.mem_range'_1.2 ⟨by omega, by omega⟩, h⟩, rfl⟩
theorem sec_in {b : Nat → Bool} : ((secFrom 0 b).map fun (i : Nat) => (i : Int)).all inNum = true := by
  rw [List.all_eq_true]
  intro v hv
  obtain ⟨a, ha, rfl⟩ := List.mem_map.1 hv
  unfold secFrom at ha
  have := List.mem_range'_1.1 (List.mem_filter.1 ha).1
  exact inNum_iff.2 ⟨by omega, by omega⟩
end Go.Proofs.YtnaajldlloglkaaDoor.W
