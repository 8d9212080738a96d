/- Plain facts; lines of the claims before, printed by mkfacts.py. -/
import Derived.Test.YtnaajldlloglkaaDoorRoomS2
set_option linter.unusedVariables false
set_option linter.unusedSimpArgs false
namespace Go.Proofs.YtnaajldlloglkaaDoor.W.S
open Go.H
def Rise : Nat → List Nat → Prop
  | _, [] => True
  | lo, n :: r => lo ≤ n ∧ n < 64 ∧ Rise (n + 1) r
theorem Rise.low {lo lo' : Nat} (h : lo' ≤ lo) : ∀ {l : List Nat}, Rise lo l → Rise lo' l
  | [], _ => trivial
  | n :: r, k => ⟨by have := k.1; omega, k.2⟩
theorem secFrom_rise (b : Nat → Bool) : ∀ (d lo : Nat), lo + d = 64 → Rise lo (secFrom lo b)
  | 0, lo, e => by obtain rfl : lo = 64 := by omega
                   rw [secFrom_end]; trivial
  | d + 1, lo, e => by
    rw [secFrom_cons (by omega)]
    have ih := secFrom_rise b d (lo + 1) (by omega)
    split
    · exact ⟨by omega, by omega, ih⟩
    · exact ih.low (by omega)
theorem Made.up {l : List Seg} {n m : Nat} (h : Made l n) (hm : n ≤ m) : Made l m := ⟨h.ok, by have := h.next; omega, by have := h.len; omega⟩
/-- The last of segments that may be. -/
theorem Made.last {l : List Seg} {n : Nat} (h : Made l n) (h0 : 0 < l.length) : 0 ≤ (rd l ((l.length - 1 : Nat) : Int)).At ∧ 1 ≤ (rd l ((l.length - 1 : Nat) : Int)).Len ∧ (rd l ((l.length - 1 : Nat) : Int)).At + (rd l ((l.length - 1 : Nat) : Int)).Len ≤ 64 := by
  rw [rd_nat (by omega)]
  exact ok_elem (Int.le_refl 0) h.ok _ (List.getElem_mem _)
theorem push_t {l : List Seg} {n : Nat} (h0 : 0 < l.length) (h : (rd l ((l.length - 1 : Nat) : Int)).At + (rd l ((l.length - 1 : Nat) : Int)).Len = (n : Int)) : push l n = l.set (l.length - 1) ⟨(rd l ((l.length - 1 : Nat) : Int)).At, (rd l ((l.length - 1 : Nat) : Int)).Len + 1⟩ := by
  unfold push
  rw [if_pos ⟨by intro e; rw [e] at h0; simp at h0, h⟩]
theorem push_f {l : List Seg} {n : Nat} (h : 0 < l.length → ¬ (rd l ((l.length - 1 : Nat) : Int)).At + (rd l ((l.length - 1 : Nat) : Int)).Len = (n : Int)) : push l n = l ++ [⟨(n : Int), 1⟩] := by
  unfold push
  rw [if_neg]
  rintro ⟨h1, h2⟩
  exact h (List.length_pos_iff.2 h1) h2
theorem Set_Segs_l0 {L : List Nat} (hL : L.length < 4611686018427387904) : ∀ (n it lo : Nat) (acc : List Seg), it ≤ L.length → L.length - it < n → Rise lo (L.drop it) → lo ≤ 64 → Made acc lo → seg_Set_Segs.l0 (L.map fun (i : Nat) => (i : Int)) n acc it = some ((L.drop it).foldl push acc)
  | 0, it, lo, acc, _, h, _, _, _ => by omega
  | n + 1, it, lo, acc, hit, hn, hr, h64, hm => by
    unfold seg_Set_Segs.l0
    have el : ((L.map fun (i : Nat) => (i : Int)).length : Int) = (L.length : Int) := by simp
    by_cases c : it < L.length
    · rw [if_pos (by omega), if_pos ⟨by omega, by omega⟩]
      have ed := List.drop_eq_getElem_cons c
      rw [ed] at hr ⊢
      have er : rd (L.map fun (i : Nat) => (i : Int)) (it : Int) = ((L[it] : Nat) : Int) := by rw [rd_nat (by simpa using c)]; simp
      rw [er]
      generalize L[it] = m at *
      obtain ⟨hr1, hr2, hr3⟩ := hr
      have hmm := hm.up hr1
      have hp := (hmm.push hr2).1
      have hal := hm.len
      have next : seg_Set_Segs.l0 (L.map fun (i : Nat) => (i : Int)) n (push acc m) (w64 ((it : Int) + 1)) = some ((L.drop (it + 1)).foldl push (push acc m)) := by
        rw [w64_succ c hL]
        exact Set_Segs_l0 hL n (it + 1) (m + 1) _ (by omega) (by omega) hr3 (by omega) hp
      rw [List.foldl_cons]
      by_cases h0 : (0 : Int) < (acc.length : Int)
      · have h0' : 0 < acc.length := by omega
        obtain ⟨l1, l2, l3⟩ := hm.last h0'
        have ew : w64 ((acc.length : Int) - 1) = ((acc.length - 1 : Nat) : Int) := w64_pred (n := acc.length) h0' (Nat.le_refl _) (by omega)
        rw [if_pos h0]
        simp only [ew]
        rw [if_pos ⟨by omega, by omega⟩, if_pos ⟨by omega, by omega⟩, w64_id (by omega) (by omega)]
        unfold seg_Set_Segs.j1
        simp only [ew]
        by_cases h1 : (rd acc ((acc.length - 1 : Nat) : Int)).At + (rd acc ((acc.length - 1 : Nat) : Int)).Len = (m : Int)
        · rw [beq_t h1, if_pos rfl, if_pos ⟨by omega, by omega⟩, if_pos ⟨by omega, by omega⟩, w64_id (by omega) (by omega), Int.toNat_natCast]
          unfold seg_Set_Segs.j0
          rw [← push_t h0' h1]
          exact next
        · rw [beq_f h1, if_neg (by decide), if_pos (by omega), er]
          unfold seg_Set_Segs.j0
          rw [← push_f fun _ => h1]
          exact next
      · rw [if_neg h0]
        unfold seg_Set_Segs.j1
        rw [if_neg (by decide), if_pos (by omega), er]
        unfold seg_Set_Segs.j0
        rw [← push_f fun h => by omega]
        exact next
    · rw [if_neg (by omega), List.drop_eq_nil_of_le (by omega)]
      rfl
theorem secFrom_len (b : Nat → Bool) (lo : Nat) : (secFrom lo b).length ≤ 64 := by
  unfold secFrom
  refine Nat.le_trans (List.length_filter_le _ _) ?_
  simp
theorem Set_Segs_eq {x : Int} {b : Nat → Bool} {k : Nat} (hx : IsSet x b) (hk : 64 < k) : seg_Set_Segs.f k x = some (segsOf b) := by
  unfold seg_Set_Segs.f
  rw [Sectors_eq hx hk]
  simp only [Option.bind_some]
  have hl := secFrom_len b 0
  exact Set_Segs_l0 (by omega) k 0 0 [] (by omega) (by omega) (secFrom_rise b 64 0 (by omega)) (by omega) Made.nil
/-! ### Lists compared -/
theorem EqSegs_l0 {l m : List Seg} (hl : l.length < 4611686018427387904) (e : l.length = m.length) : ∀ (n i : Nat), i ≤ l.length → l.length - i < n → hermitageref0_EqSegs.l0 l m n i = some (decide (l.drop i = m.drop i))
  | 0, i, _, h => by omega
  | n + 1, i, hi, hn => by
    unfold hermitageref0_EqSegs.l0
    by_cases c : i < l.length
    · have c2 : i < m.length := by omega
      rw [if_pos (by omega), if_pos ⟨by omega, by omega⟩, if_pos ⟨by omega, by omega⟩, rd_nat c, rd_nat c2, List.drop_eq_getElem_cons c, List.drop_eq_getElem_cons c2]
      by_cases h : l[i] = m[i]
      · rw [if_pos h, w64_succ c hl, EqSegs_l0 hl e n (i + 1) (by omega) (by omega)]
        congr 1
        rw [decide_eq_decide, List.cons.injEq]
        exact ⟨fun hh => ⟨h, hh⟩, fun hh => hh.2⟩
      · rw [if_neg h]
        congr 1
        symm
        rw [decide_eq_false_iff_not, List.cons.injEq]
        exact fun hh => h hh.1
    · rw [if_neg (by omega), List.drop_eq_nil_of_le (by omega), List.drop_eq_nil_of_le (by omega)]
      simp
theorem EqSegs_eq {l m : List Seg} {k : Nat} (hl : l.length < 4611686018427387904) (hk : l.length < k) : hermitageref0_EqSegs.f k l m = some (decide (l = m)) := by
  unfold hermitageref0_EqSegs.f
  by_cases e : (l.length : Int) = (m.length : Int)
  · rw [if_pos e]
    exact EqSegs_l0 hl (by omega) k 0 (by omega) (by omega)
  · rw [if_neg e]
    have : ¬ l = m := fun h => e (by rw [h])
    simp [this]
/-! ### Joined -/
end Go.Proofs.YtnaajldlloglkaaDoor.W.S
