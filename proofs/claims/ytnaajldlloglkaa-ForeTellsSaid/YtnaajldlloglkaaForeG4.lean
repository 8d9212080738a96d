/- ForeTells: the law on an argument that was opened. -/
import Derived.Test.YtnaajldlloglkaaForeR
import Derived.Test.YtnaajldlloglkaaForeG3
set_option linter.unusedVariables false
set_option linter.unusedSimpArgs false
namespace Go.Proofs.Ytnaajldlloglkaa.W
open Go.H Go.Proofs Go.ChangeShapes Go.WideShapes Go.ChangeAt Go.WideElems Go.RowKit
theorem gS.sized {p : hermitagelaw10Script} (h : gS p) : Sized p := by
  have e1 : Try.prog.bytesOf 67 = 64 := by kernel_rfl
  have e2 : Try.prog.bytesOf 24 = 40 := by kernel_rfl
  have e3 : Try.prog.bytesOf 45 = 40 := by kernel_rfl
  have e4 : Try.prog.bytesOf 132 = 16 := by kernel_rfl
  have e5 : Try.prog.bytesOf 74 = 40 := by kernel_rfl
  have e6 : Try.prog.bytesOf 33 = 16 := by kernel_rfl
  obtain ⟨⟨⟨d1, d2⟩, ⟨t1, t2⟩, ⟨j1, j2, j3, j4, j5, j6⟩, _⟩, a1, a2⟩ := h
  rw [e1] at d1
  rw [e2] at t1
  rw [e3] at j5
  rw [e5] at a1
  simp only [reachBytes] at d1 t1 j5 a1
  refine ⟨by omega, fun d hd => ?_, by omega, fun t ht => ?_, by omega, gI_iff j1, by omega, fun a ha => ?_⟩
  · obtain ⟨_, _, ⟨f1, _⟩, l1, _⟩ := d2 d hd
    rw [e4] at f1 l1
    simp only [reachBytes] at f1 l1
    exact ⟨by omega, by omega⟩
  · obtain ⟨_, _, f1, _⟩ := t2 t ht
    rw [e3] at f1
    simp only [reachBytes] at f1
    omega
  · obtain ⟨_, n, f1, _⟩ := a2 a ha
    rw [e6] at f1
    simp only [reachBytes] at f1
    exact ⟨by omega, gI_iff n⟩
theorem ForeTells_true {p : hermitagelaw10Script} (h : gS p) : ∃ k, hermitagelaw11_ForeTells.f k p = some true := ForeTells_plain h.sized
end Go.Proofs.Ytnaajldlloglkaa.W
