/- Plain facts; lines of the claims before, printed by mkfacts.py. -/
import Derived.Test.YtnaajldlloglkaaDoorRoomS1
set_option linter.unusedVariables false
set_option linter.unusedSimpArgs false
namespace Go.Proofs.YtnaajldlloglkaaDoor.W.S
open Go.H
theorem low_form : ∀ x : Nat, 0 < x → ∃ i m, x = 2 ^ (i + 1) * m + 2 ^ i := by
  intro x
  induction x using Nat.strongRecOn with
  | _ x ih =>
    intro h0
    rcases Nat.mod_two_eq_zero_or_one x with h | h
    · obtain ⟨i, m, e⟩ := ih (x / 2) (by omega) (by omega)
      refine ⟨i + 1, m, ?_⟩
      have : x = 2 * (x / 2) := by omega
      rw [this, e, Nat.pow_succ 2 (i + 1), Nat.pow_succ 2 i]
      simp only [Nat.mul_add, Nat.mul_comm, Nat.mul_left_comm, Nat.mul_assoc]
    · exact ⟨0, x / 2, by simp; omega⟩
theorem bit_form {i m : Nat} (j : Nat) : (2 ^ (i + 1) * m + 2 ^ i).testBit j = if j < i + 1 then decide (i = j) else m.testBit (j - (i + 1)) := by
  rw [Nat.testBit_two_pow_mul_add m (Nat.pow_lt_pow_right (by omega) (by omega)) j, Nat.testBit_two_pow]
theorem and_pred {i m : Nat} : (2 ^ (i + 1) * m + 2 ^ i) &&& (2 ^ (i + 1) * m + 2 ^ i - 1) = 2 ^ (i + 1) * m := by
  have hp : 0 < 2 ^ i := Nat.two_pow_pos i
  have e : 2 ^ (i + 1) * m + 2 ^ i - 1 = 2 ^ (i + 1) * m + (2 ^ i - 1) := by omega
  have hlt : 2 ^ i - 1 < 2 ^ (i + 1) := by have : 2 ^ i < 2 ^ (i + 1) := Nat.pow_lt_pow_right (by omega) (by omega); omega
  apply Nat.eq_of_testBit_eq
  intro j
  rw [Nat.testBit_and, bit_form, e, Nat.testBit_two_pow_mul_add m hlt j, Nat.testBit_two_pow_sub_one, Nat.testBit_two_pow_mul]
  by_cases h : j < i + 1
  · rw [if_pos h, if_pos h]
    have : ¬ j ≥ i + 1 := by omega
    simp [this]
    omega
  · rw [if_neg h, if_neg h]
    have : j ≥ i + 1 := by omega
    simp [this]
theorem and_neg {i m : Nat} (h : 2 ^ (i + 1) * m + 2 ^ i < 2 ^ 64) : (2 ^ (i + 1) * m + 2 ^ i) &&& (2 ^ 64 - (2 ^ (i + 1) * m + 2 ^ i)) = 2 ^ i := by
  have hp : 0 < 2 ^ i := Nat.two_pow_pos i
  have hi : i < 64 := by
    rcases Nat.lt_or_ge i 64 with h' | h'
    · exact h'
    · have : 2 ^ 64 ≤ 2 ^ i := Nat.pow_le_pow_right (by omega) h'
      omega
  have e64 : 2 ^ 64 = 2 ^ (i + 1) * 2 ^ (63 - i) := by rw [← Nat.pow_add]; congr 1; omega
  have hs : 2 ^ (i + 1) = 2 * 2 ^ i := by rw [Nat.pow_succ, Nat.mul_comm]
  have hm : m < 2 ^ (63 - i) := by
    rcases Nat.lt_or_ge m (2 ^ (63 - i)) with h' | h'
    · exact h'
    · have := Nat.mul_le_mul_left (2 ^ (i + 1)) h'
      omega
  have e : 2 ^ 64 - (2 ^ (i + 1) * m + 2 ^ i) = 2 ^ (i + 1) * (2 ^ (63 - i) - (m + 1)) + 2 ^ i := by
    rw [e64, Nat.mul_sub, Nat.mul_add]
    have := Nat.mul_le_mul_left (2 ^ (i + 1)) (show m + 1 ≤ 2 ^ (63 - i) from hm)
    rw [Nat.mul_add] at this
    omega
  apply Nat.eq_of_testBit_eq
  intro j
  rw [Nat.testBit_and, e, bit_form, bit_form, Nat.testBit_two_pow_sub_succ hm, Nat.testBit_two_pow]
  by_cases hj : j < i + 1
  · rw [if_pos hj, if_pos hj]; simp
  · rw [if_neg hj, if_neg hj]
    have : ¬ i = j := by omega
    simp [this]
    exact fun h _ => h
theorem tz_all : ∀ i : Fin 64, (0 ≤ (wu64 ((2 ^ i.val : Int) * 285870213051353865)).fdiv (2 ^ min (58 : Int).toNat 64) ∧ (wu64 ((2 ^ i.val : Int) * 285870213051353865)).fdiv (2 ^ min (58 : Int).toNat 64) < 64) ∧ w64 (tz ((wu64 ((2 ^ i.val : Int) * 285870213051353865)).fdiv (2 ^ min (58 : Int).toNat 64)).toNat) = (i.val : Int) := by decide +kernel
/-- The least sector of a set, and the set without it. -/
theorem least {x : Int} {b : Nat → Bool} (hx : IsSet x b) (h0 : x ≠ 0) : ∃ i, i < 64 ∧ b i = true ∧ (∀ j, j < i → b j = false) ∧ seg_Set_Least.f x = some (i : Int) ∧ IsSet (uand x (wu64 (x - 1))) fun j => b j && !decide (j = i) := by
  obtain ⟨x0, x1, x2⟩ := hx
  obtain ⟨n, rfl⟩ := Int.eq_ofNat_of_zero_le x0
  rw [Int.toNat_natCast] at x2
  have hn : 0 < n := by omega
  obtain ⟨i, m, e⟩ := low_form n hn
  have hlt : n < 2 ^ 64 := by omega
  have hp : 0 < 2 ^ i := Nat.two_pow_pos i
  have hi : i < 64 := by
    rcases Nat.lt_or_ge i 64 with h' | h'
    · exact h'
    · have : 2 ^ 64 ≤ 2 ^ i := Nat.pow_le_pow_right (by omega) h'
      omega
  have hbit : ∀ j, j < 64 → b j = if j < i + 1 then decide (i = j) else m.testBit (j - (i + 1)) := fun j hj => by rw [← x2 j hj, e, bit_form]
  refine ⟨i, hi, by rw [hbit i hi, if_pos (by omega)]; simp, fun j hj => by rw [hbit j (by omega), if_pos (by omega)]; simp; omega, ?_, ?_⟩
  · have e1 : wu64 (0 - (n : Int)) = ((2 ^ 64 - n : Nat) : Int) := by rw [wu64_mod]; omega
    have e2 : uand (n : Int) (wu64 (0 - (n : Int))) = ((2 ^ i : Nat) : Int) := by
      rw [e1, uand_nat (by omega) (by omega) (by omega) (by omega), Int.toNat_natCast, Int.toNat_natCast]
      congr 1
      have := and_neg (i := i) (m := m) (by omega)
      rw [← e] at this
      exact this
    have ht := tz_all ⟨i, hi⟩
    simp only at ht
    unfold seg_Set_Least.f math_bits_TrailingZeros64.f
    rw [if_neg (by omega), e2]
    have e3 : ((2 ^ i : Nat) : Int) = (2 ^ i : Int) := by simp
    rw [e3, if_pos ht.1, ht.2]
    rfl
  · have e1 : wu64 ((n : Int) - 1) = ((n - 1 : Nat) : Int) := by rw [wu64_id (by omega) (by omega)]; omega
    rw [e1, uand_nat (by omega) (by omega) (by omega) (by omega), Int.toNat_natCast, Int.toNat_natCast]
    have e2 : n &&& (n - 1) = 2 ^ (i + 1) * m := by rw [e]; exact and_pred
    rw [e2]
    refine ⟨by omega, by omega, fun j hj => ?_⟩
    rw [Int.toNat_natCast, Nat.testBit_two_pow_mul, hbit j hj]
    by_cases h : j < i + 1
    · rw [if_pos h]
      have : ¬ j ≥ i + 1 := by omega
      simp [this]
      omega
    · rw [if_neg h]
      have h1 : j ≥ i + 1 := by omega
      have h2 : ¬ j = i := by omega
      simp [h1, h2]
/-- The sectors of a set, from lo on. -/
def secFrom (lo : Nat) (b : Nat → Bool) : List Nat := (List.range' lo (64 - lo)).filter b
theorem secFrom_end {b : Nat → Bool} : secFrom 64 b = [] := rfl
theorem secFrom_cons {lo : Nat} {b : Nat → Bool} (h : lo < 64) : secFrom lo b = if b lo = true then lo :: secFrom (lo + 1) b else secFrom (lo + 1) b := by
  unfold secFrom
  rw [show 64 - lo = (64 - (lo + 1)) + 1 by omega, List.range'_succ, List.filter_cons]
theorem secFrom_skip {b : Nat → Bool} : ∀ (d lo i : Nat), i = lo + d → i ≤ 64 → (∀ j, lo ≤ j → j < i → b j = false) → secFrom lo b = secFrom i b
  | 0, lo, i, e, _, _ => by rw [show i = lo by omega]
  | d + 1, lo, i, e, hi, h => by
    rw [secFrom_cons (by omega), h lo (by omega) (by omega), if_neg (by decide)]
    exact secFrom_skip d (lo + 1) i (by omega) hi fun j h1 h2 => h j (by omega) h2
theorem secFrom_congr {b c : Nat → Bool} : ∀ (d lo : Nat), 64 - lo = d → (∀ j, lo ≤ j → j < 64 → b j = c j) → secFrom lo b = secFrom lo c := by
  intro d lo _ h
  unfold secFrom
  apply List.filter_congr
  intro j hj
  rw [List.mem_range'_1] at hj
  exact h j hj.1 (by omega)
theorem Sectors_l0 : ∀ (n lo : Nat) (x : Int) (b : Nat → Bool) (acc : List Int), IsSet x b → (∀ j, j < lo → b j = false) → lo ≤ 64 → 64 - lo < n → acc.length ≤ lo → seg_Set_Sectors.l0 n x acc = some (acc ++ (secFrom lo b).map fun (i : Nat) => (i : Int))
  | 0, lo, x, b, acc, _, _, _, h, _ => by omega
  | n + 1, lo, x, b, acc, hx, hlo, h64, hn, hacc => by
    unfold seg_Set_Sectors.l0
    by_cases h0 : x = 0
    · rw [if_pos h0]
      subst h0
      have : secFrom lo b = [] := by
        rw [secFrom_skip (64 - lo) lo 64 (by omega) (by omega) fun j _ hj => by rw [← hx.bit j hj]; simp]
        rfl
      rw [this]
      simp
    · rw [if_neg h0]
      obtain ⟨i, hi, hb, hlow, hleast, hnext⟩ := least hx h0
      rw [hleast]
      simp only [Option.bind_some]
      rw [if_pos (by omega)]
      have hli : lo ≤ i := by
        rcases Nat.lt_or_ge i lo with h | h
        · rw [hlo i h] at hb; cases hb
        · exact h
      rw [Sectors_l0 n (i + 1) _ _ _ hnext (fun j hj => by
        by_cases e : j = i
        · simp [e]
        · rw [hlow j (by omega)]; rfl) (by omega) (by omega) (by rw [List.length_append]; simp; omega)]
      congr 1
      rw [List.append_assoc]
      congr 1
      rw [secFrom_skip (i - lo) lo i (by omega) (by omega) fun j _ hj => hlow j hj, secFrom_cons hi, if_pos hb, List.map_cons]
      show _ :: _ = _
      congr 1
      show List.map _ _ = _
      congr 1
      refine secFrom_congr _ (i + 1) rfl fun j h1 h2 => ?_
      have : ¬ j = i := by omega
      simp [this]
theorem Sectors_eq {x : Int} {b : Nat → Bool} {k : Nat} (hx : IsSet x b) (hk : 64 < k) : seg_Set_Sectors.f k x = some ((secFrom 0 b).map fun (i : Nat) => (i : Int)) := by
  have := Sectors_l0 k 0 x b [] hx (fun j hj => by omega) (by omega) (by omega) (by simp)
  rw [List.nil_append] at this
  exact this
/-! ### Segments of sectors -/
def push (l : List Seg) (n : Nat) : List Seg :=
  if l ≠ [] ∧ (rd l ((l.length - 1 : Nat) : Int)).At + (rd l ((l.length - 1 : Nat) : Int)).Len = (n : Int) then l.set (l.length - 1) ⟨(rd l ((l.length - 1 : Nat) : Int)).At, (rd l ((l.length - 1 : Nat) : Int)).Len + 1⟩ else l ++ [⟨(n : Int), 1⟩]
def segsOf (b : Nat → Bool) : List Seg := (secFrom 0 b).foldl push []
def nextLo : Int → List Seg → Int
  | lo, [] => lo
  | _, s :: r => nextLo (s.At + s.Len + 1) r
theorem okFrom_append {lo : Int} {l m : List Seg} : okFrom lo (l ++ m) = (okFrom lo l && okFrom (nextLo lo l) m) := by
  induction l generalizing lo with
  | nil => simp [okFrom, nextLo]
  | cons s r ih => simp only [List.cons_append, okFrom, nextLo, ih, Bool.and_assoc]
theorem nextLo_append {lo : Int} {l m : List Seg} : nextLo lo (l ++ m) = nextLo (nextLo lo l) m := by
  induction l generalizing lo with
  | nil => rfl
  | cons s r ih => simp only [List.cons_append, nextLo, ih]
theorem mem_append {l m : List Seg} {i : Nat} : mem (l ++ m) i = (mem l i || mem m i) := by
  induction l with
  | nil => simp [mem]
  | cons s r ih => simp only [List.cons_append, mem, ih, Bool.or_assoc]
theorem push_nil {n : Nat} : push [] n = [⟨(n : Int), 1⟩] := rfl
theorem push_snoc {l : List Seg} {s : Seg} {n : Nat} : push (l ++ [s]) n = if s.At + s.Len = (n : Int) then l ++ [⟨s.At, s.Len + 1⟩] else l ++ [s] ++ [⟨(n : Int), 1⟩] := by
  have e : rd (l ++ [s]) (((l ++ [s]).length - 1 : Nat) : Int) = s := by
    rw [rd_nat (by simp)]
    simp
  unfold push
  rw [e]
  have : l ++ [s] ≠ [] := by simp
  by_cases h : s.At + s.Len = (n : Int)
  · rw [if_pos ⟨this, h⟩, if_pos h]
    simp
  · rw [if_neg (fun hh => h hh.2), if_neg h]
/-- Segments made of sectors below n. -/
structure Made (l : List Seg) (n : Nat) : Prop where
  ok : ok l = true
  next : nextLo 0 l ≤ (n : Int) + 1
  len : l.length ≤ n
theorem Made.nil : Made [] 0 := ⟨rfl, by simp [nextLo], by simp⟩
theorem snoc_cases {α : Type} (l : List α) : l = [] ∨ ∃ m s, l = m ++ [s] := by
  rcases List.eq_nil_or_concat l with h | ⟨m, s, h⟩
  · exact .inl h
  · exact .inr ⟨m, s, by rw [h]; simp⟩
theorem Made.push {l : List Seg} {n : Nat} (h : Made l n) (hn : n < 64) : Made (push l n) (n + 1) ∧ ∀ i, mem (push l n) i = (mem l i || decide (i = n)) := by
  obtain ⟨h1, h2, h3⟩ := h
  rcases snoc_cases l with rfl | ⟨m, s, rfl⟩
  · rw [push_nil]
    refine ⟨⟨?_, ?_, by simp⟩, fun i => ?_⟩
    · rw [S.ok, okFrom_cons]
      exact ⟨by simp only; omega, by simp only; omega, by simp only; omega, rfl⟩
    · simp only [nextLo]; omega
    · simp only [mem, Bool.or_false, Bool.false_or]
      rw [Bool.eq_iff_iff]
      simp
      omega
  · rw [push_snoc]
    unfold S.ok at h1
    rw [okFrom_append, Bool.and_eq_true, okFrom_cons] at h1
    rw [nextLo_append] at h2
    simp only [nextLo] at h2
    have h0 := ok_elem (Int.le_refl 0) (l := m ++ [s]) (by rw [okFrom_append, Bool.and_eq_true, okFrom_cons]; exact h1) s (by simp)
    obtain ⟨h1a, h1b, h1c, h1d, h1e⟩ := h1
    by_cases e : s.At + s.Len = (n : Int)
    · rw [if_pos e]
      refine ⟨⟨?_, ?_, by simpa using Nat.le_succ_of_le h3⟩, fun i => ?_⟩
      · unfold S.ok
        rw [okFrom_append, Bool.and_eq_true, okFrom_cons]
        exact ⟨h1a, h1b, by simp only; omega, by simp only; omega, rfl⟩
      · rw [nextLo_append]
        simp only [nextLo]
        omega
      · rw [mem_append, mem_append]
        simp only [mem, Bool.or_false]
        rw [Bool.or_assoc]
        congr 1
        rw [Bool.eq_iff_iff]
        simp
        omega
    · rw [if_neg e]
      refine ⟨⟨?_, ?_, by simp at h3 ⊢; omega⟩, fun i => ?_⟩
      · unfold S.ok
        rw [okFrom_append, okFrom_append, nextLo_append, Bool.and_eq_true, Bool.and_eq_true, okFrom_cons, okFrom_cons]
        simp only [nextLo]
        exact ⟨⟨h1a, h1b, h1c, h1d, h1e⟩, by omega, by omega, by omega, rfl⟩
      · rw [nextLo_append, nextLo_append]
        simp only [nextLo]
        omega
      · rw [mem_append]
        simp only [mem, Bool.or_false]
        congr 1
        rw [Bool.eq_iff_iff]
        simp
        omega
theorem fold_made {b : Nat → Bool} : ∀ (d lo : Nat) (acc : List Seg), lo + d = 64 → Made acc lo → Made ((secFrom lo b).foldl push acc) 64 ∧ ∀ i, mem ((secFrom lo b).foldl push acc) i = (mem acc i || (decide (lo ≤ i) && (decide (i < 64) && b i)))
  | 0, lo, acc, e, h => by
    obtain rfl : lo = 64 := by omega
    rw [secFrom_end]
    refine ⟨h, fun i => ?_⟩
    simp only [List.foldl_nil]
    cases hm : mem acc i with
    | true => rfl
    | false =>
      by_cases h1 : i < 64
      · have : ¬ 64 ≤ i := by omega
        simp [this]
      · simp [h1]
  | d + 1, lo, acc, e, h => by
    have hlo : lo < 64 := by omega
    rw [secFrom_cons hlo]
    by_cases hb : b lo = true
    · rw [if_pos hb, List.foldl_cons]
      obtain ⟨h1, h2⟩ := h.push hlo
      obtain ⟨h3, h4⟩ := fold_made d (lo + 1) _ (by omega) h1
      refine ⟨h3, fun i => ?_⟩
      rw [h4, h2]
      by_cases ei : i = lo
      · subst ei; simp [hb, hlo]
      · by_cases hi : lo ≤ i
        · have : lo + 1 ≤ i := by omega
          simp [ei, hi, this]
        · have : ¬ lo + 1 ≤ i := by omega
          simp [ei, hi, this]
    · rw [if_neg hb]
      obtain ⟨h3, h4⟩ := fold_made (b := b) d (lo + 1) acc (by omega) ⟨h.ok, by have := h.next; omega, by have := h.len; omega⟩
      refine ⟨h3, fun i => ?_⟩
      rw [h4]
      by_cases ei : i = lo
      · subst ei
        have : ¬ i + 1 ≤ i := by omega
        simp [hb, this]
      · by_cases hi : lo ≤ i
        · have : lo + 1 ≤ i := by omega
          simp [hi, this]
        · have : ¬ lo + 1 ≤ i := by omega
          simp [hi, this]
theorem segsOf_made (b : Nat → Bool) : Made (segsOf b) 64 := (fold_made 64 0 [] (by omega) Made.nil).1
theorem segsOf_ok (b : Nat → Bool) : ok (segsOf b) = true := (segsOf_made b).ok
theorem segsOf_len (b : Nat → Bool) : (segsOf b).length ≤ 64 := (segsOf_made b).len
theorem mem_segsOf {b : Nat → Bool} {i : Nat} (hi : i < 64) : mem (segsOf b) i = b i := by
  have := (fold_made (b := b) 64 0 [] (by omega) Made.nil).2 i
  unfold segsOf
  rw [this]
  simp [mem, hi]
theorem segsOf_congr {b c : Nat → Bool} (h : ∀ i, i < 64 → b i = c i) : segsOf b = segsOf c := by
  unfold segsOf
  rw [secFrom_congr 64 0 rfl fun j _ hj => h j hj]
/-- Segments that may be are told by their sectors. -/
theorem ok_ext : ∀ {l m : List Seg} {lo lo' : Int}, 0 ≤ lo → 0 ≤ lo' → okFrom lo l = true → okFrom lo' m = true → (∀ i, i < 64 → mem l i = mem m i) → l = m
  | [], [], _, _, _, _, _, _, _ => rfl
  | [], s :: r, lo, lo', _, h0, _, h2, h => by
    rw [okFrom_cons] at h2
    have := h s.At.toNat (by omega)
    simp only [mem] at this
    have e : (s.At.toNat : Int) = s.At := by omega
    rw [e] at this
    simp at this
    omega
  | s :: r, [], lo, lo', h0, _, h2, _, h => by
    rw [okFrom_cons] at h2
    have := h s.At.toNat (by omega)
    simp only [mem] at this
    have e : (s.At.toNat : Int) = s.At := by omega
    rw [e] at this
    simp at this
    omega
  | s :: r, t :: q, lo, lo', h0, h0', h1, h2, h => by
    rw [okFrom_cons] at h1 h2
    have hr : ∀ i, mem r i = true → s.At + s.Len + 1 ≤ (i : Int) := fun i hi => (mem_low h1.2.2.2 hi).1
    have hq : ∀ i, mem q i = true → t.At + t.Len + 1 ≤ (i : Int) := fun i hi => (mem_low h2.2.2.2 hi).1
    have key : ∀ i : Nat, i < 64 → ((s.At ≤ (i : Int) ∧ (i : Int) < s.At + s.Len) ∨ mem r i = true ↔ (t.At ≤ (i : Int) ∧ (i : Int) < t.At + t.Len) ∨ mem q i = true) := fun i hi => by
      have := h i hi
      rw [Bool.eq_iff_iff] at this
      simpa [mem] using this
    have eAt : s.At = t.At := by
      have k1 := (key s.At.toNat (by omega)).1 (.inl ⟨by omega, by omega⟩)
      have k2 := (key t.At.toNat (by omega)).2 (.inl ⟨by omega, by omega⟩)
      rcases k1 with k1 | k1
      · rcases k2 with k2 | k2
        · omega
        · have := hr _ k2; omega
      · have := hq _ k1
        rcases k2 with k2 | k2
        · omega
        · have := hr _ k2; omega
    have eLen : s.Len = t.Len := by
      rcases Int.lt_trichotomy s.Len t.Len with hlt | he | hgt
      · have k := (key (s.At + s.Len).toNat (by omega)).2 (.inl ⟨by omega, by omega⟩)
        rcases k with k | k
        · omega
        · have := hr _ k; omega
      · exact he
      · have k := (key (t.At + t.Len).toNat (by omega)).1 (.inl ⟨by omega, by omega⟩)
        rcases k with k | k
        · omega
        · have := hq _ k; omega
    have est : s = t := by cases s; cases t; simp_all
    subst est
    congr 1
    refine ok_ext (by omega) (by omega) h1.2.2.2 h2.2.2.2 fun i hi => ?_
    rw [Bool.eq_iff_iff]
    constructor
    · intro hm
      have h3 := hr i hm
      rcases (key i hi).1 (.inr hm) with k | k
      · omega
      · exact k
    · intro hm
      have h3 := hq i hm
      rcases (key i hi).2 (.inr hm) with k | k
      · omega
      · exact k
theorem segsOf_mem {l : List Seg} (h : ok l = true) : segsOf (mem l) = l := ok_ext (Int.le_refl 0) (Int.le_refl 0) (segsOf_ok _) h fun i hi => mem_segsOf hi
end Go.Proofs.YtnaajldlloglkaaDoor.W.S
