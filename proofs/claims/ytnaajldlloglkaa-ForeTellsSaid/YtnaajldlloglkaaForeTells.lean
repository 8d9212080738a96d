/- ForeTells: whatever the input, the law tells true, and the input reads as it did. No condition. -/
import Derived.Test.YtnaajldlloglkaaForeR
import Derived.Test.YtnaajldlloglkaaForeW4
import Derived.Test.YtnaajldlloglkaaForeG4
set_option linter.unusedVariables false
set_option linter.unusedSimpArgs false
namespace Go.Proofs.Ytnaajldlloglkaa.foreTells
open Go.H Go.Proofs Go.Proofs.Ytnaajldlloglkaa.W Go.ChangeShapes Go.WideShapes Go.ChangeAt Go.WideElems Go.RowKit
theorem own : ownKnob Try.prog.godebug = none := by kernel_rfl
theorem laidOut : laidOutB Try.prog = true := by kernel_rfl
set_option maxRecDepth 100000 in
theorem lifted (os : Os) (started : os.Started) (H : Type) (enc : TypeId × Value → H) :
    ReturnsInHanded {} Try.checked os 9 .any (fun w args => Rows.foreTellsSpec.pre enc Try.prog Try.f9 [] false w args ∧ sizedMet enc Try.prog Try.f9 (OpenSpec.ofChange Rows.foreTellsSpec) false w args)
      (Rows.foreTellsSpec.post enc Try.prog Try.f9 false true false false) := by
  refine returnsInHanded_of_change_sized (C := Try.checked) own started (by kernel_rfl) Try.func9
    (ChangeSpec.witness6 (enc := enc) (C := Try.checked) false ⟨#[], #[.agg #[.slice none 0 0, .slice none 0 0, .int .i64 0, .int .i64 0, .int .i64 0, .int .i64 0, .slice none 0 0, .int .i64 0, .slice none 0 0]], []⟩ 8 (by kernel_rfl) (by kernel_rfl) (by kernel_rfl) (by kernel_rfl)) ?_
  intro W base args ds gs before hval0 hW hcnd hsz0 _
  have hsz : (DataW.weightsEach Try.prog (Try.f9.params.toList ++ Rows.foreTellsSpec.plain.varTypes Try.prog) (ds ++ gs)).all (· ≤ reachBytes) = true := hsz0
  have hval : ∀ (j : Nat) t v, Try.f9.params[j]? = some t → args[j]? = some v → Value.okWide Try.prog W .any base t v := hval0
  have hW' := hW
  obtain ⟨p, q, hA0, hV, rfl, hfz, hnd⟩ := hW
  have hA : DataW.TrodAll enc Try.prog W 0 (fun _ => true) true Try.f9.params.toList args.toList ds p := hA0
  rw [Try.params9] at hA hval hsz
  obtain ⟨v0, d0, hargs, rfl, h0⟩ := trodAll_one hA
  subst hargs
  obtain ⟨rfl, rfl⟩ := trodVars_none hV
  have hw0 : (d0.weights Try.prog 64).all (· ≤ reachBytes) = true := by
    have h1 : (DataW.weightsEach Try.prog (64 :: []) (d0 :: [])).all (· ≤ reachBytes) = true := hsz
    simpa [DataW.weightsEach] using h1
  obtain ⟨x, A1, c1, A2, c2, A3, c3, A4, c4, rfl, l1, s1, l2, s2, l3, s3, l4, s4, hs⟩ := open_script (hval 0 64 v0 rfl rfl) h0 hw0
  obtain ⟨k, hk⟩ := ForeTells_true hs
  have lt0 : ∀ y ∈ p, y.block < W.heap.size := by obtain ⟨m, hm⟩ := h0; exact DataW.trod_lt m _ _ _ hm
  refine (hermitagelaw11_ForeTells.calls k x A1 c1 A2 c2 A3 c3 A4 c4 _ W s1 l1 s2 l2 s3 l3 s4 l4 hk).mono fun e W' ⟨he, hx⟩ => ?_
  have bel := hx.below
  subst he
  exact ⟨_, rfl, _, _, _, [], _, [], hW', trodAll_mk1 (shut_bool Try.underlying4 _), trodAll_cons_mk (Below.trod laidOut (by kernel_rfl) (of_decide_eq_true (by kernel_rfl)) h0 bel lt0) trodAll_mk0, rfl, bel.frame _, fun h => by cases h⟩
theorem over : Rows.ForeTellsSaid :=
  OpenClaim.holds_of_wide 9 Try.f9 rfl rfl rfl rfl rfl rfl rfl ⟨rfl, rfl, rfl, rfl, rfl⟩ rfl rfl rfl rfl rfl (by kernel_rfl) Try.func9 (by kernel_rfl)
    (of_decide_eq_true (by kernel_rfl)) (by unfold Func.isWrapper; first | (rw [if_pos (by decide +kernel)]; kernel_rfl) | (rw [if_neg (by decide +kernel)]; exact ⟨rfl, rfl⟩))
    (fun os started H enc _ => lifted os started H enc)
#print axioms over
end Go.Proofs.Ytnaajldlloglkaa.foreTells
namespace Go.Proofs.Ytnaajldlloglkaa
theorem foreTells_holds : Rows.ForeTellsSaid := foreTells.over
end Go.Proofs.Ytnaajldlloglkaa
