/- Plain facts; lines of the claims before, printed by mkfacts.py. -/
import Derived.Test.YtnaajldlloglkaaDoorRoomD1
set_option linter.unusedVariables false
set_option linter.unusedSimpArgs false
namespace Go.Proofs.YtnaajldlloglkaaDoor.W
open Go.H
theorem weigh {R α : Type} [Inhabited α] {l : List α} {g : α → Nat} {f : Nat → Int → Int → Option R} {out : Int → Option R}
    (h1 : ∀ n (t i : Nat), i < l.length → t < 1048576 → f (n + 1) (t : Int) (i : Int) = f n ((t + g (rd l (i : Int)) : Nat) : Int) ((i + 1 : Nat) : Int))
    (h2 : ∀ n (t i : Nat), i < l.length → ¬ t < 1048576 → f (n + 1) (t : Int) (i : Int) = out t)
    (h3 : ∀ n (t i : Nat), ¬ i < l.length → f (n + 1) (t : Int) (i : Int) = out t)
    (hg : ∀ x ∈ l, g x < 4503599627370496) {Bd : Nat} (hB : 4503599628419072 ≤ Bd) : ∀ (n i t : Nat), i ≤ l.length → l.length - i < n → t < Bd → (∀ x ∈ l.take i, g x ≤ t) →
    ∃ t' : Nat, f n (t : Int) (i : Int) = out t' ∧ t ≤ t' ∧ t' < Bd ∧ (t' < 1048576 → ∀ x ∈ l, g x ≤ t')
  | 0, i, t, _, h, _, _ => by omega
  | n + 1, i, t, hi, hn, ht, hx => by
    by_cases c : i < l.length
    · by_cases d : t < 1048576
      · rw [h1 n t i c d]
        have w := hg _ (rd_mem c)
        obtain ⟨t', e, a, b, q⟩ := weigh h1 h2 h3 hg hB n (i + 1) (t + g (rd l (i : Int))) (by omega) (by omega) (by omega) fun x hm => by
          rw [List.take_succ_eq_append_getElem c] at hm
          rcases List.mem_append.1 hm with hm | hm
          · have := hx x hm; omega
          · rw [List.mem_singleton] at hm
            rw [rd_nat c, hm]; omega
        exact ⟨t', e, by omega, b, q⟩
      · rw [h2 n t i c d]
        exact ⟨t, rfl, Nat.le_refl _, ht, fun z => absurd z d⟩
    · rw [h3 n t i c]
      refine ⟨t, rfl, Nat.le_refl _, ht, fun _ x hm => hx x ?_⟩
      rw [List.take_of_length_le (by omega)]; exact hm
theorem DevicesWeight_eq {l : List Device} {k : Nat} (h1 : l.length < 1125899906842624) (h2 : ∀ d ∈ l, d.Free.length < 1125899906842624 ∧ d.Late.length < 1125899906842624) (hk : l.length < k) :
    ∃ t : Nat, hermitagelaw0_DevicesWeight.f k l = some (t : Int) ∧ t < 9007199254740992 ∧ (t < 1048576 → l.length ≤ t ∧ ∀ d ∈ l, d.Free.length ≤ t ∧ d.Late.length ≤ t) := by
  have q := weigh (l := l) (g := fun d => d.Free.length + d.Late.length) (f := hermitagelaw0_DevicesWeight.l0 l) (out := fun t => some t) ?_ ?_ ?_ (fun d hd => by have := h2 d hd; omega) (Bd := 9007199254740992) (by omega) k 0 l.length (by omega) (by omega) (by omega) (fun x hx => by simp at hx)
  · obtain ⟨t', e, a, b, q⟩ := q
    exact ⟨t', e, b, fun z => ⟨a, fun d hd => by have := q z d hd; omega⟩⟩
  · intro n t i c d
    have w := h2 _ (rd_mem c)
    rw [hermitagelaw0_DevicesWeight.l0, if_pos (by omega), decide_eq_true (by omega)]
    unfold hermitagelaw0_DevicesWeight.j0
    rw [if_pos rfl, if_pos (by omega), if_pos (by omega), w64_succ c (by omega), w64_id (x := (t : Int) + ((rd l (i : Int)).Free.length : Int)) (by omega) (by omega), w64_id (by omega) (by omega), show (t : Int) + ((rd l (i : Int)).Free.length : Int) + ((rd l (i : Int)).Late.length : Int) = ((t + ((rd l (i : Int)).Free.length + (rd l (i : Int)).Late.length) : Nat) : Int) by omega]
  · intro n t i c d
    rw [hermitagelaw0_DevicesWeight.l0, if_pos (by omega), decide_eq_false (by omega)]
    unfold hermitagelaw0_DevicesWeight.j0
    rw [if_neg (by simp)]
  · intro n t i c
    rw [hermitagelaw0_DevicesWeight.l0, if_neg (by omega)]
    unfold hermitagelaw0_DevicesWeight.j0
    rw [if_neg (by simp)]
theorem EqD_self {k : Nat} {d : Device} (hk : 1000 < k) (h : d.Free.length ≤ 1000 ∧ d.Late.length ≤ 1000) : hermitageref0_EqDevice.f k d d = some true := by
  unfold hermitageref0_EqDevice.f
  rw [if_pos rfl, if_pos rfl, S.EqSegs_eq (by omega) (by omega), S.EqSegs_eq (by omega) (by omega)]
  simp
theorem EqDs_self {k : Nat} {l : List Device} (hk : 1000 < k) (hl : l.length ≤ 1000) (h : DevsIn l) : hermitageref0_EqDevices.f k l l = some true := by
  unfold hermitageref0_EqDevices.f
  rw [if_pos rfl]
  refine (loop_says (f := hermitageref0_EqDevices.l0 l l k) (len := l.length) (E := some true) (F := some true) (P := fun _ => True) ?_ ?_ ?_ k 0 (by omega) (by omega)).1 fun _ _ _ => trivial
  · intro n i c _
    rw [hermitageref0_EqDevices.l0, if_pos (by omega), if_pos (by omega), if_pos (by omega), EqD_self hk (h _ (rd_mem c))]
    simp only [Option.bind_some, if_true]
    rw [w64_succ c (by omega)]
  · intro n i c a
    exact absurd trivial a
  · intro n
    rw [hermitageref0_EqDevices.l0, if_neg (by omega)]
end Go.Proofs.YtnaajldlloglkaaDoor.W
