/- The plain law of ChainDeep: by each number of tables, and each first sector, that there may be. -/
import Derived.Test.YtnaajldlloglkaaDoorHO
import Derived.Test.YtnaajldlloglkaaDoorChainFn
set_option linter.unusedVariables false
set_option linter.unusedSimpArgs false
namespace Go.Proofs.YtnaajldlloglkaaDoor.W
open Go.H
theorem w64_id' {x : Int} (h0 : -9223372036854775808 ≤ x) (h1 : x < 9223372036854775808) : w64 x = x := by
  have hk : IntKind.i64.wrap x = if x % 18446744073709551616 ≥ 9223372036854775808 then x % 18446744073709551616 - 18446744073709551616 else x % 18446744073709551616 := by
    simp [IntKind.wrap, IntKind.bits, IntKind.signed]
  show IntKind.i64.wrap x = x
  rw [hk]
  split <;> omega
theorem wu64_mod' (x : Int) : wu64 x = x % 18446744073709551616 := by
  simp [wu64, IntKind.wrap, IntKind.bits, IntKind.signed]
theorem Within_range {a b : Int} (h0 : 0 < b) (h1 : b < 9223372036854775808) : ∃ v : Nat, hermitagelaw0_Within.f a b = some (v : Int) ∧ (v : Int) < b := by
  unfold hermitagelaw0_Within.f
  have eb : wu64 b = b := by rw [wu64_mod']; omega
  have ea : 0 ≤ wu64 a := by rw [wu64_mod']; omega
  rw [eb, if_pos (by omega), Int.tmod_eq_emod_of_nonneg ea]
  have l0 := Int.emod_nonneg (wu64 a) (show b ≠ 0 by omega)
  have l1 := Int.emod_lt_of_pos (wu64 a) h0
  rw [w64_id' (by omega) (by omega)]
  exact ⟨(wu64 a % b).toNat, by rw [Int.toNat_of_nonneg l0], by rw [Int.toNat_of_nonneg l0]; exact l1⟩
set_option maxRecDepth 100000 in
theorem Deep_all : ∀ v : Fin 12, ∀ u : Fin 9, hermitagelaw9_ChainDeep.l0 100 (v.val : Int) 100 (u.val : Int) 1 [] = some true := by decide +kernel
theorem ChainDeep_true {p : hermitagelaw9Ask} {G : Prop} (_ : G) : ∃ k, hermitagelaw9_ChainDeep.f k p = some true := by
  refine ⟨100, ?_⟩
  unfold hermitagelaw9_ChainDeep.f
  obtain ⟨v, ev, hv⟩ := Within_range (a := (p.Q.length : Int)) (b := 12) (by omega) (by omega)
  obtain ⟨u, eu, hu⟩ := Within_range (a := w64 ((p.Q.length : Int) * 7)) (b := 9) (by omega) (by omega)
  rw [ev, eu]
  exact Deep_all ⟨v, by omega⟩ ⟨u, by omega⟩
end Go.Proofs.YtnaajldlloglkaaDoor.W
