/- Plain facts; lines of the claims before, printed by mkfacts.py. -/
import Derived.Test.YtnaajldlloglkaaDoorRoomS5
set_option linter.unusedVariables false
set_option linter.unusedSimpArgs false
namespace Go.Proofs.YtnaajldlloglkaaDoor.W.T
open Go.H
theorem some_no {p : Prop} [Decidable p] (h : ¬ p) : some false = some (decide p) := by rw [decide_eq_false h]
theorem Between_eq {n a b : Int} : hermitageref0_Between.f n a b = some (decide (a ≤ n ∧ n ≤ b)) := by
  unfold hermitageref0_Between.f
  by_cases h : a ≤ n
  · rw [if_pos h]; congr 1; rw [decide_eq_decide]; omega
  · rw [if_neg h]; exact some_no (fun hh => h hh.1)
end Go.Proofs.YtnaajldlloglkaaDoor.W.T
