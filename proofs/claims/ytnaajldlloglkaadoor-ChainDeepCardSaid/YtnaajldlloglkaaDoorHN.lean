/- Walking by explicit rules, part N: numbers that don't wrap, elements by their places. Plain theorems. -/
import Derived.Test.YtnaajldlloglkaaDoorHM
set_option linter.unusedVariables false
set_option linter.unusedSimpArgs false
namespace Go.H
theorem w64_id {x : Int} (h0 : -9223372036854775808 ≤ x) (h1 : x < 9223372036854775808) : w64 x = x := by
  have hk : IntKind.i64.wrap x = if x % 18446744073709551616 ≥ 9223372036854775808 then x % 18446744073709551616 - 18446744073709551616 else x % 18446744073709551616 := by
    simp [IntKind.wrap, IntKind.bits, IntKind.signed]
  show IntKind.i64.wrap x = x
  rw [hk]
  split <;> omega
theorem w64_range {x : Int} : -9223372036854775808 ≤ w64 x ∧ w64 x < 9223372036854775808 := by
  have hk : IntKind.i64.wrap x = if x % 18446744073709551616 ≥ 9223372036854775808 then x % 18446744073709551616 - 18446744073709551616 else x % 18446744073709551616 := by
    simp [IntKind.wrap, IntKind.bits, IntKind.signed]
  show -9223372036854775808 ≤ IntKind.i64.wrap x ∧ IntKind.i64.wrap x < 9223372036854775808
  rw [hk]
  split <;> omega
theorem wu64_id {x : Int} (h0 : 0 ≤ x) (h1 : x < 18446744073709551616) : wu64 x = x := by
  simp only [wu64, IntKind.wrap, IntKind.bits, IntKind.signed]
  simp
  omega
theorem wu64_mod (x : Int) : wu64 x = x % 18446744073709551616 := by
  simp [wu64, IntKind.wrap, IntKind.bits, IntKind.signed]
theorem rd_nat {α : Type} [Inhabited α] {l : List α} {i : Nat} (h : i < l.length) : rd l (i : Int) = l[i] := by
  unfold rd
  rw [Int.toNat_natCast, List.getD_eq_getElem?_getD, List.getElem?_eq_getElem h]
  rfl
theorem w64_succ {i n : Nat} (h : i < n) (hn : n < 4611686018427387904) : w64 ((i : Int) + 1) = ((i + 1 : Nat) : Int) := by
  rw [w64_id (by omega) (by omega)]; omega
theorem w64_pred {i n : Nat} (h0 : 0 < i) (h : i ≤ n) (hn : n < 4611686018427387904) : w64 ((i : Int) - 1) = ((i - 1 : Nat) : Int) := by
  rw [w64_id (by omega) (by omega)]; omega
theorem snoc_cases {α : Type} (l : List α) : l = [] ∨ ∃ m s, l = m ++ [s] := by
  rcases List.eq_nil_or_concat l with h | ⟨m, s, h⟩
  · exact .inl h
  · exact .inr ⟨m, s, by rw [h]; simp⟩
end Go.H
