/- The plain law of ForeDepth: by each number of tables that there may be. -/
import Derived.Test.YtnaajldlloglkaaHO
import Derived.Test.YtnaajldlloglkaaForeFn
set_option linter.unusedVariables false
set_option linter.unusedSimpArgs false
namespace Go.Proofs.Ytnaajldlloglkaa.W
open Go.H
theorem Within_range {a b : Int} (h0 : 0 < b) (h1 : b < 9223372036854775808) : ∃ v : Nat, hermitagelaw0_Within.f a b = some (v : Int) ∧ (v : Int) < b := by
  unfold hermitagelaw0_Within.f
  have eb : wu64 b = b := wu64_id (by omega) (by omega)
  have ea : 0 ≤ wu64 a := by rw [wu64_mod]; omega
  rw [eb, if_pos (by omega), Int.tmod_eq_emod_of_nonneg ea]
  have l0 := Int.emod_nonneg (wu64 a) (show b ≠ 0 by omega)
  have l1 := Int.emod_lt_of_pos (wu64 a) h0
  rw [w64_id (by omega) (by omega)]
  exact ⟨(wu64 a % b).toNat, by rw [Int.toNat_of_nonneg l0], by rw [Int.toNat_of_nonneg l0]; exact l1⟩
set_option maxRecDepth 100000 in
theorem Depth_all : ∀ v : Fin 12, hermitagelaw11_ForeDepth.l0 100 (v.val : Int) 100 1 [] [] = some true := by decide +kernel
theorem ForeDepth_true {p : hermitagelaw10Script} {G : Prop} (_ : G) : ∃ k, hermitagelaw11_ForeDepth.f k p = some true := by
  refine ⟨100, ?_⟩
  unfold hermitagelaw11_ForeDepth.f
  obtain ⟨v, ev, hv⟩ := Within_range (a := (p.A.length : Int)) (b := 12) (by omega) (by omega)
  rw [ev]
  exact Depth_all ⟨v, by omega⟩
end Go.Proofs.Ytnaajldlloglkaa.W
