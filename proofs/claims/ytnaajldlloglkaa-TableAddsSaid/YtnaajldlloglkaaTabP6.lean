/- The plain laws of TableAdds, TableLoses, TableRanges: acts of some kinds, in turn. -/
import Derived.Test.YtnaajldlloglkaaTabP5
set_option linter.unusedVariables false
set_option linter.unusedSimpArgs false
namespace Go.Proofs.Ytnaajldlloglkaa.W
open Go.H
theorem only_l0 {p : hermitagelaw8Script} (hs : Sized p) {q : List Int} (hq : 0 < q.length) (hq2 : q.length ≤ 100) {k : Nat} (hk : 1000 < k) : ∀ (n i : Nat) (acc : List hermitagelaw8Act), i ≤ p.A.length → p.A.length - i < n → acc.length = i → (∀ a ∈ acc, -9223372036854775808 ≤ a.N ∧ a.N < 9223372036854775808) → hermitagelaw8_only.l0 p q k n i acc = some true
  | 0, i, acc, _, h, _, _ => by omega
  | n + 1, i, acc, hi, hn, ha, hN => by
    have hA := hs.A
    unfold hermitagelaw8_only.l0
    by_cases c : i < p.A.length
    · have hm : ((i : Int).tmod (q.length : Int)) = ((i % q.length : Nat) : Int) := by rw [Int.ofNat_tmod]
      have hlt : i % q.length < q.length := Nat.mod_lt _ hq
      have hel := hs.el _ (List.getElem_mem c)
      rw [if_pos (by omega), if_pos ⟨by omega, by omega⟩, if_pos (by omega), hm, if_pos ⟨by omega, by omega⟩, if_pos (by omega), w64_succ c (by omega), rd_nat c]
      refine only_l0 hs hq hq2 hk n (i + 1) _ (by omega) (by omega) (by rw [List.length_append]; simp; omega) fun a h => ?_
      rcases List.mem_append.1 h with h | h
      · exact hN a h
      · simp only [List.mem_singleton] at h
        subst h
        exact hel
    · rw [if_neg (by omega), Exact_k (p := ⟨p.T, acc⟩) ⟨hs.L, by simp only; omega, hN⟩ hk]
      rfl
theorem only_eq {p : hermitagelaw8Script} (hs : Sized p) {q : List Int} (hq : 0 < q.length) (hq2 : q.length ≤ 100) {k : Nat} (hk : 1000 < k) (hk2 : p.A.length < k) : hermitagelaw8_only.f k p q = some true :=
  only_l0 hs hq hq2 hk k 0 [] (by omega) (by omega) rfl (fun a h => by cases h)
theorem TableAdds_true {p : hermitagelaw8Script} (hs : Sized p) : ∃ k, hermitagelaw8_TableAdds.f k p = some true := ⟨p.A.length + 1001, by
  unfold hermitagelaw8_TableAdds.f
  rw [only_eq hs (by decide) (by decide) (by omega) (by omega)]
  rfl⟩
theorem TableLoses_true {p : hermitagelaw8Script} (hs : Sized p) : ∃ k, hermitagelaw8_TableLoses.f k p = some true := ⟨p.A.length + 1001, by
  unfold hermitagelaw8_TableLoses.f
  rw [only_eq hs (by decide) (by decide) (by omega) (by omega)]
  rfl⟩
theorem TableRanges_true {p : hermitagelaw8Script} (hs : Sized p) : ∃ k, hermitagelaw8_TableRanges.f k p = some true := ⟨p.A.length + 1001, by
  unfold hermitagelaw8_TableRanges.f
  rw [only_eq hs (by decide) (by decide) (by omega) (by omega)]
  rfl⟩
end Go.Proofs.Ytnaajldlloglkaa.W
