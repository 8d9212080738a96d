/- Plain facts; lines of the claims before, printed by mkfacts.py. -/
import Derived.Test.YtnaajldlloglkaaDoorRoomD2
set_option linter.unusedVariables false
set_option linter.unusedSimpArgs false
namespace Go.Proofs.YtnaajldlloglkaaDoor.W
open Go.H
theorem num7 {x : Int} : hermitagelaw7_num.f x = some x := rfl
theorem ids_not {P : List Device} (hP : DevsOk P) {j : Nat} (hj : j < P.length) : (rd P (j : Int)).ID ≠ 0 := by
  have := (hP.2 j (by omega) hj).1.id
  omega
structure SizedR (p : Script) : Prop where
  L : p.L.length < 1125899906842624
  Ll : ∀ d ∈ p.L, d.Free.length < 1125899906842624 ∧ d.Late.length < 1125899906842624
  A : p.A.length * 48 ≤ 140737488355328
  Al : ∀ a ∈ p.A, a.P.length < 1125899906842624 ∧ (-9223372036854775808 ≤ a.N ∧ a.N < 9223372036854775808) ∧ (-9223372036854775808 ≤ a.Not ∧ a.Not < 9223372036854775808)
structure LightR (p : Script) : Prop where
  L : p.L.length ≤ 800
  inn : DevsIn p.L
  A : p.A.length ≤ 800
  Al : ∀ a ∈ p.A, a.P.length ≤ 800
theorem HeavyR_eq {p : Script} {k : Nat} (hs : SizedR p) (hd : p.L.length < k) (ha : p.A.length < k) : ∃ h, hermitagelaw7_Heavy.f k p = some h ∧ (h = false → LightR p) := by
  obtain ⟨u, eu, bu, qu⟩ := DevicesWeight_eq hs.L hs.Ll hd
  have h1 := hs.A
  unfold hermitagelaw7_Heavy.f
  rw [eu]
  simp only [Option.bind_some]
  rw [w64_id (by omega) (by omega), show (u : Int) + (p.A.length : Int) = ((u + p.A.length : Nat) : Int) by omega]
  by_cases big : u < 1048576
  · have q := weigh (l := p.A) (g := fun x => x.P.length) (f := hermitagelaw7_Heavy.l0 p) (out := fun t => some (decide (800 < t))) ?_ ?_ ?_ (fun d hd => by have := (hs.Al d hd).1; omega) (Bd := 36028797018963968) (by omega) k 0 (u + p.A.length) (by omega) (by omega) (by omega) (fun x hx => by simp at hx)
    · obtain ⟨t', e, a, b, q⟩ := q
      refine ⟨_, e, fun z => ?_⟩
      have z := of_decide_eq_false z
      obtain ⟨g1, g2⟩ := qu big
      exact ⟨by omega, fun d hd => by have := g2 d hd; omega, by omega, fun x hx => by have := q (by omega) x hx; omega⟩
    · intro n t i c d
      have w := (hs.Al _ (rd_mem c)).1
      rw [hermitagelaw7_Heavy.l0, if_pos (by omega), decide_eq_true (by omega)]
      unfold hermitagelaw7_Heavy.j0
      rw [if_pos rfl, if_pos (by omega), w64_succ c (by omega), w64_id (by omega) (by omega), show (t : Int) + ((rd p.A (i : Int)).P.length : Int) = ((t + (rd p.A (i : Int)).P.length : Nat) : Int) by omega]
    · intro n t i c d
      rw [hermitagelaw7_Heavy.l0, if_pos (by omega), decide_eq_false (by omega)]
      unfold hermitagelaw7_Heavy.j0
      rw [if_neg (by simp)]
    · intro n t i c
      rw [hermitagelaw7_Heavy.l0, if_neg (by omega)]
      unfold hermitagelaw7_Heavy.j0
      rw [if_neg (by simp)]
  · match k with
    | 0 => omega
    | k + 1 =>
      refine ⟨decide ((800 : Int) < ((u + p.A.length : Nat) : Int)), ?_, fun z => by have := of_decide_eq_false z; omega⟩
      rw [hermitagelaw7_Heavy.l0, decide_eq_false (by omega)]
      unfold hermitagelaw7_Heavy.j0
      by_cases c : (0 : Int) < (p.A.length : Int)
      · rw [if_pos c, if_neg (by simp)]
      · rw [if_neg c, if_neg (by simp)]
set_option maxRecDepth 100000 in
theorem wakes7 : hermitagelaw7_wakes.f 1500 = some true := by decide +kernel
end Go.Proofs.YtnaajldlloglkaaDoor.W
