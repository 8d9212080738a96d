/- Plain facts; lines of the claims before, printed by mkfacts.py. -/
import Derived.Test.YtnaajldlloglkaaDoorRoomFn
set_option linter.unusedVariables false
set_option linter.unusedSimpArgs false
namespace Go.Proofs.YtnaajldlloglkaaDoor.W.S
open Go.H
theorem w64_id {x : Int} (h0 : -9223372036854775808 ≤ x) (h1 : x < 9223372036854775808) : w64 x = x := by
  have hk : IntKind.i64.wrap x = if x % 18446744073709551616 ≥ 9223372036854775808 then x % 18446744073709551616 - 18446744073709551616 else x % 18446744073709551616 := by
    simp [IntKind.wrap, IntKind.bits, IntKind.signed]
  show IntKind.i64.wrap x = x
  rw [hk]
  split <;> omega
theorem wu64_id {x : Int} (h0 : 0 ≤ x) (h1 : x < 18446744073709551616) : wu64 x = x := by
  simp only [wu64, IntKind.wrap, IntKind.bits, IntKind.signed]
  simp
  omega
theorem wu64_mod (x : Int) : wu64 x = x % 18446744073709551616 := by
  simp [wu64, IntKind.wrap, IntKind.bits, IntKind.signed]
/-- x, a number of 64 bits, is the set b. -/
structure IsSet (x : Int) (b : Nat → Bool) : Prop where
  lo : 0 ≤ x
  hi : x < 18446744073709551616
  bit : ∀ i, i < 64 → x.toNat.testBit i = b i
theorem uand_nat {a b : Int} (ha : 0 ≤ a) (ha2 : a < 18446744073709551616) (hb : 0 ≤ b) (hb2 : b < 18446744073709551616) : uand a b = ((a.toNat &&& b.toNat : Nat) : Int) := by
  obtain ⟨m, rfl⟩ := Int.eq_ofNat_of_zero_le ha
  obtain ⟨n, rfl⟩ := Int.eq_ofNat_of_zero_le hb
  have hm : m < 2 ^ 64 := by omega
  have hn : n < 2 ^ 64 := by omega
  have h1 : (BitVec.ofInt 64 (m : Int)).toNat = m := by simp; omega
  have h2 : (BitVec.ofInt 64 (n : Int)).toNat = n := by simp; omega
  have h3 : m &&& n < 2 ^ 64 := Nat.and_lt_two_pow _ hn
  show IntKind.u64.wrap ((BitVec.ofInt 64 (m : Int) &&& BitVec.ofInt 64 (n : Int)).toNat : Int) = _
  rw [BitVec.toNat_and, h1, h2]
  exact wu64_id (by omega) (by omega)
theorem uor_nat {a b : Int} (ha : 0 ≤ a) (ha2 : a < 18446744073709551616) (hb : 0 ≤ b) (hb2 : b < 18446744073709551616) : uor a b = ((a.toNat ||| b.toNat : Nat) : Int) := by
  obtain ⟨m, rfl⟩ := Int.eq_ofNat_of_zero_le ha
  obtain ⟨n, rfl⟩ := Int.eq_ofNat_of_zero_le hb
  have hm : m < 2 ^ 64 := by omega
  have hn : n < 2 ^ 64 := by omega
  have h1 : (BitVec.ofInt 64 (m : Int)).toNat = m := by simp; omega
  have h2 : (BitVec.ofInt 64 (n : Int)).toNat = n := by simp; omega
  have h3 : m ||| n < 2 ^ 64 := Nat.or_lt_two_pow hm hn
  show IntKind.u64.wrap ((BitVec.ofInt 64 (m : Int) ||| BitVec.ofInt 64 (n : Int)).toNat : Int) = _
  rw [BitVec.toNat_or, h1, h2]
  exact wu64_id (by omega) (by omega)
theorem IsSet.and {x y : Int} {b c : Nat → Bool} (hx : IsSet x b) (hy : IsSet y c) : IsSet (uand x y) fun i => b i && c i := by
  rw [uand_nat hx.lo hx.hi hy.lo hy.hi]
  have h3 : x.toNat &&& y.toNat < 2 ^ 64 := Nat.and_lt_two_pow _ (by have := hy.hi; have := hy.lo; omega)
  exact ⟨by omega, by omega, fun i hi => by rw [Int.toNat_natCast, Nat.testBit_and, hx.bit i hi, hy.bit i hi]⟩
theorem IsSet.or {x y : Int} {b c : Nat → Bool} (hx : IsSet x b) (hy : IsSet y c) : IsSet (uor x y) fun i => b i || c i := by
  rw [uor_nat hx.lo hx.hi hy.lo hy.hi]
  have h3 : x.toNat ||| y.toNat < 2 ^ 64 := Nat.or_lt_two_pow (by have := hx.hi; have := hx.lo; omega) (by have := hy.hi; have := hy.lo; omega)
  exact ⟨by omega, by omega, fun i hi => by rw [Int.toNat_natCast, Nat.testBit_or, hx.bit i hi, hy.bit i hi]⟩
theorem IsSet.andn {x y : Int} {b c : Nat → Bool} (hx : IsSet x b) (hy : IsSet y c) : IsSet (uandn x y) fun i => b i && !c i := by
  obtain ⟨x0, x1, x2⟩ := hx
  obtain ⟨y0, y1, y2⟩ := hy
  obtain ⟨m, rfl⟩ := Int.eq_ofNat_of_zero_le x0
  obtain ⟨n, rfl⟩ := Int.eq_ofNat_of_zero_le y0
  have hlt := (BitVec.ofInt 64 (m : Int) &&& ~~~BitVec.ofInt 64 (n : Int)).isLt
  have e : uandn (m : Int) (n : Int) = ((BitVec.ofInt 64 (m : Int) &&& ~~~BitVec.ofInt 64 (n : Int)).toNat : Int) := wu64_id (x := ((BitVec.ofInt 64 (m : Int) &&& ~~~BitVec.ofInt 64 (n : Int)).toNat : Int)) (by omega) (by omega)
  rw [e]
  refine ⟨by omega, by omega, fun i hi => ?_⟩
  rw [Int.toNat_natCast, BitVec.testBit_toNat, BitVec.getLsbD_and, BitVec.getLsbD_not]
  have h1 : (BitVec.ofInt 64 (m : Int)).getLsbD i = b i := by
    rw [← x2 i hi, ← BitVec.testBit_toNat]
    congr 1
    simp
    omega
  have h2 : (BitVec.ofInt 64 (n : Int)).getLsbD i = c i := by
    rw [← y2 i hi, ← BitVec.testBit_toNat]
    congr 1
    simp
    omega
  rw [h1, h2]
  simp [hi]
theorem IsSet.congr {x : Int} {b c : Nat → Bool} (h : IsSet x b) (e : ∀ i, i < 64 → b i = c i) : IsSet x c := ⟨h.lo, h.hi, fun i hi => (h.bit i hi).trans (e i hi)⟩
theorem IsSet.zero : IsSet 0 fun _ => false := ⟨by omega, by omega, fun i _ => by simp⟩
theorem IsSet.eq {x y : Int} {b : Nat → Bool} (hx : IsSet x b) (hy : IsSet y b) : x = y := by
  have h : x.toNat = y.toNat := Nat.eq_of_testBit_eq fun i => by
    by_cases hi : i < 64
    · rw [hx.bit i hi, hy.bit i hi]
    · rw [Nat.testBit_lt_two_pow, Nat.testBit_lt_two_pow]
      · exact Nat.lt_of_lt_of_le (show y.toNat < 2 ^ 64 by have := hy.hi; have := hy.lo; omega) (Nat.pow_le_pow_right (by omega) (by omega))
      · exact Nat.lt_of_lt_of_le (show x.toNat < 2 ^ 64 by have := hx.hi; have := hx.lo; omega) (Nat.pow_le_pow_right (by omega) (by omega))
  have := hx.lo
  have := hy.lo
  omega
/-- All sectors below n. -/
theorem To_set {n : Int} (h0 : 0 ≤ n) (h1 : n ≤ 64) : ∃ x, seg_To.f n = some x ∧ IsSet x fun i => decide ((i : Int) < n) := by
  unfold seg_To.f
  by_cases h : 64 ≤ n
  · rw [if_pos h]
    refine ⟨_, rfl, by omega, by omega, fun i hi => ?_⟩
    have : (18446744073709551615 : Int).toNat = 2 ^ 64 - 1 := by decide
    rw [this, Nat.testBit_two_pow_sub_one]
    simp only [hi, decide_true]
    symm
    simp
    omega
  · rw [if_neg h, if_pos h0]
    obtain ⟨m, rfl⟩ := Int.eq_ofNat_of_zero_le h0
    have hm : m < 64 := by omega
    have hp : 2 ^ m < 2 ^ 64 := Nat.pow_lt_pow_right (by omega) hm
    have hp0 : 0 < 2 ^ m := Nat.two_pow_pos m
    have e1 : (1 * 2 ^ min (m : Int).toNat 64 : Int) = ((2 ^ m : Nat) : Int) := by
      rw [Int.toNat_natCast, Nat.min_eq_left (by omega)]
      simp
    have e2 : wu64 (1 * 2 ^ min (m : Int).toNat 64 : Int) = ((2 ^ m : Nat) : Int) := by rw [e1]; exact wu64_id (by omega) (by omega)
    have e3 : wu64 (((2 ^ m : Nat) : Int) - 1) = ((2 ^ m - 1 : Nat) : Int) := by
      rw [wu64_id (by omega) (by omega)]
      omega
    refine ⟨_, rfl, ?_⟩
    rw [e2, e3]
    refine ⟨by omega, by omega, fun i hi => ?_⟩
    rw [Int.toNat_natCast, Nat.testBit_two_pow_sub_one]
    simp
theorem rd_nat {α : Type} [Inhabited α] {l : List α} {i : Nat} (h : i < l.length) : rd l (i : Int) = l[i] := by
  unfold rd
  rw [Int.toNat_natCast, List.getD_eq_getElem?_getD, List.getElem?_eq_getElem h]
  rfl
theorem w64_succ {i n : Nat} (h : i < n) (hn : n < 4611686018427387904) : w64 ((i : Int) + 1) = ((i + 1 : Nat) : Int) := by
  rw [w64_id (by omega) (by omega)]; omega
theorem w64_pred {i n : Nat} (h0 : 0 < i) (h : i ≤ n) (hn : n < 4611686018427387904) : w64 ((i : Int) - 1) = ((i - 1 : Nat) : Int) := by
  rw [w64_id (by omega) (by omega)]; omega
def okFrom : Int → List Seg → Bool
  | _, [] => true
  | lo, s :: r => decide (lo ≤ s.At) && (decide (1 ≤ s.Len) && (decide (s.At + s.Len ≤ 64) && okFrom (s.At + s.Len + 1) r))
abbrev ok (l : List Seg) : Bool := okFrom 0 l
theorem okFrom_cons {lo : Int} {s : Seg} {r : List Seg} : okFrom lo (s :: r) = true ↔ lo ≤ s.At ∧ 1 ≤ s.Len ∧ s.At + s.Len ≤ 64 ∧ okFrom (s.At + s.Len + 1) r = true := by
  simp [okFrom]
theorem okFrom_f {lo : Int} {s : Seg} {r : List Seg} (h : ¬ (lo ≤ s.At ∧ 1 ≤ s.Len ∧ s.At + s.Len ≤ 64)) : okFrom lo (s :: r) = false := by
  cases e : okFrom lo (s :: r) with
  | false => rfl
  | true => rw [okFrom_cons] at e; exact absurd ⟨e.1, e.2.1, e.2.2.1⟩ h
theorem okFrom_t {lo : Int} {s : Seg} {r : List Seg} (h1 : lo ≤ s.At) (h2 : 1 ≤ s.Len) (h3 : s.At + s.Len ≤ 64) : okFrom lo (s :: r) = okFrom (s.At + s.Len + 1) r := by
  simp [okFrom, h1, h2, h3]
/-- What stands below element i: the end of the one ahead of it. -/
def At0 (l : List Seg) (i : Nat) (lo : Int) : Prop := 0 ≤ lo ∧ (i = 0 → lo = 0) ∧ (0 < i → 0 ≤ (rd l ((i - 1 : Nat) : Int)).At ∧ (rd l ((i - 1 : Nat) : Int)).At + (rd l ((i - 1 : Nat) : Int)).Len ≤ 64 ∧ 1 ≤ (rd l ((i - 1 : Nat) : Int)).Len ∧ lo = (rd l ((i - 1 : Nat) : Int)).At + (rd l ((i - 1 : Nat) : Int)).Len + 1)
theorem May_l0 {l : List Seg} (hl : l.length < 4611686018427387904) : ∀ (n i : Nat) (lo : Int), i ≤ l.length → l.length - i < n → At0 l i lo → seg_May.l0 l n i = some (okFrom lo (l.drop i))
  | 0, i, lo, _, h, _ => by omega
  | n + 1, i, lo, hi, hn, hlo => by
    unfold seg_May.l0
    by_cases c : i < l.length
    · rw [if_pos (by omega), if_pos ⟨by omega, by omega⟩, List.drop_eq_getElem_cons c]
      have er := rd_nat c
      rw [er]
      generalize hs : l[i] = s at *
      obtain ⟨hlo0, hlo1, hlo2⟩ := hlo
      by_cases h1 : s.At < 0
      · rw [if_pos h1, okFrom_f (by omega)]; rfl
      rw [if_neg h1]
      by_cases h2 : s.Len < 1
      · rw [if_pos h2, okFrom_f (by omega)]; rfl
      rw [if_neg h2]
      by_cases h3 : 64 < s.At
      · rw [if_pos h3, okFrom_f (by omega)]; rfl
      rw [if_neg h3, w64_id (by omega) (by omega)]
      by_cases h4 : 64 - s.At < s.Len
      · rw [if_pos h4, okFrom_f (by omega)]; rfl
      rw [if_neg h4]
      have next : lo ≤ s.At → seg_May.l0 l n (w64 ((i : Int) + 1)) = some (okFrom lo (s :: l.drop (i + 1))) := fun hle => by
        rw [w64_succ c hl, okFrom_t hle (by omega) (by omega)]
        refine May_l0 hl n (i + 1) _ (by omega) (by omega) ⟨by omega, fun h => by omega, fun _ => ?_⟩
        rw [Nat.add_sub_cancel, er]
        exact ⟨by omega, by omega, by omega, rfl⟩
      by_cases h5 : (0 : Int) < (i : Int)
      · have h5' : 0 < i := by omega
        obtain ⟨a1, a2, a3, a4⟩ := hlo2 h5'
        rw [if_pos h5, w64_pred h5' hi hl, if_pos ⟨by omega, by omega⟩, if_pos ⟨by omega, by omega⟩, w64_id (by omega) (by omega)]
        unfold seg_May.j0
        by_cases h6 : s.At ≤ (rd l ((i - 1 : Nat) : Int)).At + (rd l ((i - 1 : Nat) : Int)).Len
        · rw [decide_eq_true h6, if_pos rfl, okFrom_f (by omega)]
        · rw [decide_eq_false h6, if_neg (by decide)]
          exact next (by omega)
      · rw [if_neg h5]
        unfold seg_May.j0
        rw [if_neg (by decide)]
        exact next (by have := hlo1 (by omega); omega)
    · rw [if_neg (by omega), List.drop_eq_nil_of_le (by omega)]
      rfl
theorem May_eq {l : List Seg} {k : Nat} (hl : l.length < 4611686018427387904) (hk : l.length < k) : seg_May.f k l = some (ok l) := by
  have := May_l0 hl k 0 0 (by omega) (by omega) ⟨by omega, fun _ => rfl, fun h => by omega⟩
  rw [List.drop_zero] at this
  exact this
theorem Segs_l0 {l : List Seg} (hl : l.length < 4611686018427387904) : ∀ (n i : Nat) (lo : Int), i ≤ l.length → l.length - i < n → At0 l i lo → hermitageref1_Segs.l0 l n i = some (okFrom lo (l.drop i))
  | 0, i, lo, _, h, _ => by omega
  | n + 1, i, lo, hi, hn, hlo => by
    unfold hermitageref1_Segs.l0
    by_cases c : i < l.length
    · have g : (0 : Int) ≤ (i : Int) ∧ (i : Int) < (l.length : Int) := ⟨by omega, by omega⟩
      rw [if_pos g.2]
      simp only [if_pos g]
      rw [List.drop_eq_getElem_cons c]
      have er := rd_nat c
      rw [er]
      generalize hs : l[i] = s at *
      obtain ⟨hlo0, hlo1, hlo2⟩ := hlo
      by_cases h1 : s.At < 0
      · rw [if_pos h1, okFrom_f (by omega)]; rfl
      rw [if_neg h1]
      by_cases h2 : s.Len < 1
      · rw [if_pos h2, okFrom_f (by omega)]; rfl
      rw [if_neg h2]
      by_cases h3 : 64 < s.At
      · rw [if_pos h3, okFrom_f (by omega)]; rfl
      rw [if_neg h3, w64_id (by omega) (by omega)]
      by_cases h4 : 64 - s.At < s.Len
      · rw [if_pos h4, okFrom_f (by omega)]; rfl
      rw [if_neg h4]
      have next : lo ≤ s.At → hermitageref1_Segs.l0 l n (w64 ((i : Int) + 1)) = some (okFrom lo (s :: l.drop (i + 1))) := fun hle => by
        rw [w64_succ c hl, okFrom_t hle (by omega) (by omega)]
        refine Segs_l0 hl n (i + 1) _ (by omega) (by omega) ⟨by omega, fun h => by omega, fun _ => ?_⟩
        rw [Nat.add_sub_cancel, er]
        exact ⟨by omega, by omega, by omega, rfl⟩
      by_cases h5 : (0 : Int) < (i : Int)
      · have h5' : 0 < i := by omega
        obtain ⟨a1, a2, a3, a4⟩ := hlo2 h5'
        rw [if_pos h5, w64_pred h5' hi hl, if_pos ⟨by omega, by omega⟩, if_pos ⟨by omega, by omega⟩, w64_id (by omega) (by omega)]
        unfold hermitageref1_Segs.j0
        by_cases h6 : s.At ≤ (rd l ((i - 1 : Nat) : Int)).At + (rd l ((i - 1 : Nat) : Int)).Len
        · rw [decide_eq_true h6, if_pos rfl, okFrom_f (by omega)]
        · rw [decide_eq_false h6, if_neg (by decide)]
          exact next (by omega)
      · rw [if_neg h5]
        unfold hermitageref1_Segs.j0
        rw [if_neg (by decide)]
        exact next (by have := hlo1 (by omega); omega)
    · rw [if_neg (by omega), List.drop_eq_nil_of_le (by omega)]
      rfl
theorem Segs_eq {l : List Seg} {k : Nat} (hl : l.length < 4611686018427387904) (hk : l.length < k) : hermitageref1_Segs.f k l = some (ok l) := by
  have := Segs_l0 hl k 0 0 (by omega) (by omega) ⟨by omega, fun _ => rfl, fun h => by omega⟩
  rw [List.drop_zero] at this
  exact this
/-! ### What is among segments -/
def mem : List Seg → Nat → Bool
  | [], _ => false
  | s :: r, i => (decide (s.At ≤ (i : Int)) && decide ((i : Int) < s.At + s.Len)) || mem r i
theorem mem_low {lo : Int} : ∀ {l : List Seg}, okFrom lo l = true → ∀ {i : Nat}, mem l i = true → lo ≤ (i : Int) ∧ i < 64
  | [], _, i, h => by simp [mem] at h
  | s :: r, hok, i, h => by
    rw [okFrom_cons] at hok
    simp only [mem, Bool.or_eq_true, Bool.and_eq_true, decide_eq_true_eq] at h
    rcases h with h | h
    · omega
    · have := mem_low hok.2.2.2 h
      omega
theorem ok_elem {lo : Int} (h0 : 0 ≤ lo) : ∀ {l : List Seg}, okFrom lo l = true → ∀ s ∈ l, 0 ≤ s.At ∧ 1 ≤ s.Len ∧ s.At + s.Len ≤ 64
  | [], _, s, h => by simp at h
  | a :: r, hok, s, h => by
    rw [okFrom_cons] at hok
    rcases List.mem_cons.1 h with rfl | h
    · omega
    · exact ok_elem (by omega) hok.2.2.2 s h
theorem Make_l0 {l : List Seg} (hl : l.length < 4611686018427387904) (hel : ∀ s ∈ l, 0 ≤ s.At ∧ 1 ≤ s.Len ∧ s.At + s.Len ≤ 64) : ∀ (n i : Nat) (x : Int) (b : Nat → Bool), i ≤ l.length → l.length - i < n → IsSet x b → ∃ y, seg_Make.l0 l n x i = some y ∧ IsSet y fun j => b j || mem (l.drop i) j
  | 0, i, x, b, _, h, _ => by omega
  | n + 1, i, x, b, hi, hn, hx => by
    unfold seg_Make.l0
    by_cases c : i < l.length
    · rw [if_pos (by omega), if_pos ⟨by omega, by omega⟩, rd_nat c]
      have hs := hel l[i] (List.getElem_mem c)
      rw [List.drop_eq_getElem_cons c]
      generalize l[i] = s at *
      rw [w64_id (by omega) (by omega)]
      obtain ⟨u, e1, hu⟩ := To_set (n := s.At + s.Len) (by omega) (by omega)
      obtain ⟨v, e2, hv⟩ := To_set (n := s.At) (by omega) (by omega)
      rw [e1, e2]
      simp only [Option.bind_some]
      rw [w64_succ c hl]
      obtain ⟨y, e3, hy⟩ := Make_l0 hl hel n (i + 1) _ _ (by omega) (by omega) (hx.or (hu.andn hv))
      refine ⟨y, e3, hy.congr fun j hj => ?_⟩
      simp only [mem]
      rw [Bool.or_assoc]
      congr 2
      rw [Bool.eq_iff_iff]
      simp
      omega
    · rw [if_neg (by omega), List.drop_eq_nil_of_le (by omega)]
      exact ⟨x, rfl, hx.congr fun j _ => by simp [mem]⟩
theorem Make_set {l : List Seg} {k : Nat} (hl : l.length < 4611686018427387904) (hk : l.length < k) (h : ok l = true) : ∃ x, seg_Make.f k l = some x ∧ IsSet x (mem l) := by
  obtain ⟨y, e, hy⟩ := Make_l0 hl (ok_elem (Int.le_refl 0) h) k 0 0 _ (by omega) (by omega) IsSet.zero
  exact ⟨y, e, hy.congr fun j _ => by simp⟩
end Go.Proofs.YtnaajldlloglkaaDoor.W.S
