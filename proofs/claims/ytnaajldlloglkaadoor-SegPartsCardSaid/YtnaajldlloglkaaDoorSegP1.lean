/- Plain facts: numbers that don't wrap, sets of sectors as numbers. -/
import Derived.Test.YtnaajldlloglkaaDoorSegFn
set_option linter.unusedVariables false
set_option linter.unusedSimpArgs false
namespace Go.Proofs.YtnaajldlloglkaaDoor.W
open Go.H

theorem w64_id {x : Int} (h0 : -9223372036854775808 ≤ x) (h1 : x < 9223372036854775808) : w64 x = x := by
  have hk : IntKind.i64.wrap x = if x % 18446744073709551616 ≥ 9223372036854775808 then x % 18446744073709551616 - 18446744073709551616 else x % 18446744073709551616 := by
    simp [IntKind.wrap, IntKind.bits, IntKind.signed]
  show IntKind.i64.wrap x = x
  rw [hk]
  split <;> omega
theorem wu64_id {x : Int} (h0 : 0 ≤ x) (h1 : x < 18446744073709551616) : wu64 x = x := by
  simp only [wu64, IntKind.wrap, IntKind.bits, IntKind.signed]
  simp
  omega
theorem wu64_mod (x : Int) : wu64 x = x % 18446744073709551616 := by
  simp [wu64, IntKind.wrap, IntKind.bits, IntKind.signed]
/-- x, a number of 64 bits, is the set b. -/
structure IsSet (x : Int) (b : Nat → Bool) : Prop where
  lo : 0 ≤ x
  hi : x < 18446744073709551616
  bit : ∀ i, i < 64 → x.toNat.testBit i = b i
theorem uand_nat {a b : Int} (ha : 0 ≤ a) (ha2 : a < 18446744073709551616) (hb : 0 ≤ b) (hb2 : b < 18446744073709551616) : uand a b = ((a.toNat &&& b.toNat : Nat) : Int) := by
  obtain ⟨m, rfl⟩ := Int.eq_ofNat_of_zero_le ha
  obtain ⟨n, rfl⟩ := Int.eq_ofNat_of_zero_le hb
  have hm : m < 2 ^ 64 := by omega
  have hn : n < 2 ^ 64 := by omega
  have h1 : (BitVec.ofInt 64 (m : Int)).toNat = m := by simp; omega
  have h2 : (BitVec.ofInt 64 (n : Int)).toNat = n := by simp; omega
  have h3 : m &&& n < 2 ^ 64 := Nat.and_lt_two_pow _ hn
  show IntKind.u64.wrap ((BitVec.ofInt 64 (m : Int) &&& BitVec.ofInt 64 (n : Int)).toNat : Int) = _
  rw [BitVec.toNat_and, h1, h2]
  exact wu64_id (by omega) (by omega)
theorem uor_nat {a b : Int} (ha : 0 ≤ a) (ha2 : a < 18446744073709551616) (hb : 0 ≤ b) (hb2 : b < 18446744073709551616) : uor a b = ((a.toNat ||| b.toNat : Nat) : Int) := by
  obtain ⟨m, rfl⟩ := Int.eq_ofNat_of_zero_le ha
  obtain ⟨n, rfl⟩ := Int.eq_ofNat_of_zero_le hb
  have hm : m < 2 ^ 64 := by omega
  have hn : n < 2 ^ 64 := by omega
  have h1 : (BitVec.ofInt 64 (m : Int)).toNat = m := by simp; omega
  have h2 : (BitVec.ofInt 64 (n : Int)).toNat = n := by simp; omega
  have h3 : m ||| n < 2 ^ 64 := Nat.or_lt_two_pow hm hn
  show IntKind.u64.wrap ((BitVec.ofInt 64 (m : Int) ||| BitVec.ofInt 64 (n : Int)).toNat : Int) = _
  rw [BitVec.toNat_or, h1, h2]
  exact wu64_id (by omega) (by omega)
theorem IsSet.and {x y : Int} {b c : Nat → Bool} (hx : IsSet x b) (hy : IsSet y c) : IsSet (uand x y) fun i => b i && c i := by
  rw [uand_nat hx.lo hx.hi hy.lo hy.hi]
  have h3 : x.toNat &&& y.toNat < 2 ^ 64 := Nat.and_lt_two_pow _ (by have := hy.hi; have := hy.lo; omega)
  exact ⟨by omega, by omega, fun i hi => by rw [Int.toNat_natCast, Nat.testBit_and, hx.bit i hi, hy.bit i hi]⟩
theorem IsSet.or {x y : Int} {b c : Nat → Bool} (hx : IsSet x b) (hy : IsSet y c) : IsSet (uor x y) fun i => b i || c i := by
  rw [uor_nat hx.lo hx.hi hy.lo hy.hi]
  have h3 : x.toNat ||| y.toNat < 2 ^ 64 := Nat.or_lt_two_pow (by have := hx.hi; have := hx.lo; omega) (by have := hy.hi; have := hy.lo; omega)
  exact ⟨by omega, by omega, fun i hi => by rw [Int.toNat_natCast, Nat.testBit_or, hx.bit i hi, hy.bit i hi]⟩
theorem IsSet.andn {x y : Int} {b c : Nat → Bool} (hx : IsSet x b) (hy : IsSet y c) : IsSet (uandn x y) fun i => b i && !c i := by
  obtain ⟨x0, x1, x2⟩ := hx
  obtain ⟨y0, y1, y2⟩ := hy
  obtain ⟨m, rfl⟩ := Int.eq_ofNat_of_zero_le x0
  obtain ⟨n, rfl⟩ := Int.eq_ofNat_of_zero_le y0
  have hlt := (BitVec.ofInt 64 (m : Int) &&& ~~~BitVec.ofInt 64 (n : Int)).isLt
  have e : uandn (m : Int) (n : Int) = ((BitVec.ofInt 64 (m : Int) &&& ~~~BitVec.ofInt 64 (n : Int)).toNat : Int) := wu64_id (x := ((BitVec.ofInt 64 (m : Int) &&& ~~~BitVec.ofInt 64 (n : Int)).toNat : Int)) (by omega) (by omega)
  rw [e]
  refine ⟨by omega, by omega, fun i hi => ?_⟩
  rw [Int.toNat_natCast, BitVec.testBit_toNat, BitVec.getLsbD_and, BitVec.getLsbD_not]
  have h1 : (BitVec.ofInt 64 (m : Int)).getLsbD i = b i := by
    rw [← x2 i hi, ← BitVec.testBit_toNat]
    congr 1
    simp
    omega
  have h2 : (BitVec.ofInt 64 (n : Int)).getLsbD i = c i := by
    rw [← y2 i hi, ← BitVec.testBit_toNat]
    congr 1
    simp
    omega
  rw [h1, h2]
  simp [hi]
theorem IsSet.congr {x : Int} {b c : Nat → Bool} (h : IsSet x b) (e : ∀ i, i < 64 → b i = c i) : IsSet x c := ⟨h.lo, h.hi, fun i hi => (h.bit i hi).trans (e i hi)⟩
theorem IsSet.zero : IsSet 0 fun _ => false := ⟨by omega, by omega, fun i _ => by simp⟩
theorem IsSet.eq {x y : Int} {b : Nat → Bool} (hx : IsSet x b) (hy : IsSet y b) : x = y := by
  have h : x.toNat = y.toNat := Nat.eq_of_testBit_eq fun i => by
    by_cases hi : i < 64
    · rw [hx.bit i hi, hy.bit i hi]
    · rw [Nat.testBit_lt_two_pow, Nat.testBit_lt_two_pow]
      · exact Nat.lt_of_lt_of_le (show y.toNat < 2 ^ 64 by have := hy.hi; have := hy.lo; omega) (Nat.pow_le_pow_right (by omega) (by omega))
      · exact Nat.lt_of_lt_of_le (show x.toNat < 2 ^ 64 by have := hx.hi; have := hx.lo; omega) (Nat.pow_le_pow_right (by omega) (by omega))
  have := hx.lo
  have := hy.lo
  omega
/-- All sectors below n. -/
theorem To_set {n : Int} (h0 : 0 ≤ n) (h1 : n ≤ 64) : ∃ x, seg_To.f n = some x ∧ IsSet x fun i => decide ((i : Int) < n) := by
  unfold seg_To.f
  by_cases h : 64 ≤ n
  · rw [if_pos h]
    refine ⟨_, rfl, by omega, by omega, fun i hi => ?_⟩
    have : (18446744073709551615 : Int).toNat = 2 ^ 64 - 1 := by decide
    rw [this, Nat.testBit_two_pow_sub_one]
    simp only [hi, decide_true]
    symm
    simp
    omega
  · rw [if_neg h, if_pos h0]
    obtain ⟨m, rfl⟩ := Int.eq_ofNat_of_zero_le h0
    have hm : m < 64 := by omega
    have hp : 2 ^ m < 2 ^ 64 := Nat.pow_lt_pow_right (by omega) hm
    have hp0 : 0 < 2 ^ m := Nat.two_pow_pos m
    have e1 : (1 * 2 ^ min (m : Int).toNat 64 : Int) = ((2 ^ m : Nat) : Int) := by
      rw [Int.toNat_natCast, Nat.min_eq_left (by omega)]
      simp
    have e2 : wu64 (1 * 2 ^ min (m : Int).toNat 64 : Int) = ((2 ^ m : Nat) : Int) := by rw [e1]; exact wu64_id (by omega) (by omega)
    have e3 : wu64 (((2 ^ m : Nat) : Int) - 1) = ((2 ^ m - 1 : Nat) : Int) := by
      rw [wu64_id (by omega) (by omega)]
      omega
    refine ⟨_, rfl, ?_⟩
    rw [e2, e3]
    refine ⟨by omega, by omega, fun i hi => ?_⟩
    rw [Int.toNat_natCast, Nat.testBit_two_pow_sub_one]
    simp
end Go.Proofs.YtnaajldlloglkaaDoor.W
