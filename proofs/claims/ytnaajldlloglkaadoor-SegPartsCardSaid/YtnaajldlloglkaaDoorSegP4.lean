/- Plain facts: what the functions over segments tell. -/
import Derived.Test.YtnaajldlloglkaaDoorSegP3
set_option linter.unusedVariables false
set_option linter.unusedSimpArgs false
namespace Go.Proofs.YtnaajldlloglkaaDoor.W
open Go.H
/-- Rising sectors from lo on. -/
def Rise : Nat → List Nat → Prop
  | _, [] => True
  | lo, n :: r => lo ≤ n ∧ n < 64 ∧ Rise (n + 1) r
theorem Rise.low {lo lo' : Nat} (h : lo' ≤ lo) : ∀ {l : List Nat}, Rise lo l → Rise lo' l
  | [], _ => trivial
  | n :: r, k => ⟨by have := k.1; omega, k.2⟩
theorem secFrom_rise (b : Nat → Bool) : ∀ (d lo : Nat), lo + d = 64 → Rise lo (secFrom lo b)
  | 0, lo, e => by obtain rfl : lo = 64 := by omega
                   rw [secFrom_end]; trivial
  | d + 1, lo, e => by
    rw [secFrom_cons (by omega)]
    have ih := secFrom_rise b d (lo + 1) (by omega)
    split
    · exact ⟨by omega, by omega, ih⟩
    · exact ih.low (by omega)
theorem Made.up {l : List Seg} {n m : Nat} (h : Made l n) (hm : n ≤ m) : Made l m := ⟨h.ok, by have := h.next; omega, by have := h.len; omega⟩
/-- The last of segments that may be. -/
theorem Made.last {l : List Seg} {n : Nat} (h : Made l n) (h0 : 0 < l.length) : 0 ≤ (rd l ((l.length - 1 : Nat) : Int)).At ∧ 1 ≤ (rd l ((l.length - 1 : Nat) : Int)).Len ∧ (rd l ((l.length - 1 : Nat) : Int)).At + (rd l ((l.length - 1 : Nat) : Int)).Len ≤ 64 := by
  rw [rd_nat (by omega)]
  exact ok_elem (Int.le_refl 0) h.ok _ (List.getElem_mem _)
theorem push_t {l : List Seg} {n : Nat} (h0 : 0 < l.length) (h : (rd l ((l.length - 1 : Nat) : Int)).At + (rd l ((l.length - 1 : Nat) : Int)).Len = (n : Int)) : push l n = l.set (l.length - 1) ⟨(rd l ((l.length - 1 : Nat) : Int)).At, (rd l ((l.length - 1 : Nat) : Int)).Len + 1⟩ := by
  unfold push
  rw [if_pos ⟨by intro e; rw [e] at h0; simp at h0, h⟩]
theorem push_f {l : List Seg} {n : Nat} (h : 0 < l.length → ¬ (rd l ((l.length - 1 : Nat) : Int)).At + (rd l ((l.length - 1 : Nat) : Int)).Len = (n : Int)) : push l n = l ++ [⟨(n : Int), 1⟩] := by
  unfold push
  rw [if_neg]
  rintro ⟨h1, h2⟩
  exact h (List.length_pos_iff.2 h1) h2
theorem Set_Segs_l0 {L : List Nat} (hL : L.length < 4611686018427387904) : ∀ (n it lo : Nat) (acc : List Seg), it ≤ L.length → L.length - it < n → Rise lo (L.drop it) → lo ≤ 64 → Made acc lo → seg_Set_Segs.l0 (L.map fun (i : Nat) => (i : Int)) n acc it = some ((L.drop it).foldl push acc)
  | 0, it, lo, acc, _, h, _, _, _ => by omega
  | n + 1, it, lo, acc, hit, hn, hr, h64, hm => by
    unfold seg_Set_Segs.l0
    have el : ((L.map fun (i : Nat) => (i : Int)).length : Int) = (L.length : Int) := by simp
    by_cases c : it < L.length
    · rw [if_pos (by omega), if_pos ⟨by omega, by omega⟩]
      have ed := List.drop_eq_getElem_cons c
      rw [ed] at hr ⊢
      have er : rd (L.map fun (i : Nat) => (i : Int)) (it : Int) = ((L[it] : Nat) : Int) := by rw [rd_nat (by simpa using c)]; simp
      rw [er]
      generalize L[it] = m at *
      obtain ⟨hr1, hr2, hr3⟩ := hr
      have hmm := hm.up hr1
      have hp := (hmm.push hr2).1
      have hal := hm.len
      have next : seg_Set_Segs.l0 (L.map fun (i : Nat) => (i : Int)) n (push acc m) (w64 ((it : Int) + 1)) = some ((L.drop (it + 1)).foldl push (push acc m)) := by
        rw [w64_succ c hL]
        exact Set_Segs_l0 hL n (it + 1) (m + 1) _ (by omega) (by omega) hr3 (by omega) hp
      rw [List.foldl_cons]
      by_cases h0 : (0 : Int) < (acc.length : Int)
      · have h0' : 0 < acc.length := by omega
        obtain ⟨l1, l2, l3⟩ := hm.last h0'
        have ew : w64 ((acc.length : Int) - 1) = ((acc.length - 1 : Nat) : Int) := w64_pred (n := acc.length) h0' (Nat.le_refl _) (by omega)
        rw [if_pos h0]
        simp only [ew]
        rw [if_pos ⟨by omega, by omega⟩, if_pos ⟨by omega, by omega⟩, w64_id (by omega) (by omega)]
        unfold seg_Set_Segs.j1
        simp only [ew]
        by_cases h1 : (rd acc ((acc.length - 1 : Nat) : Int)).At + (rd acc ((acc.length - 1 : Nat) : Int)).Len = (m : Int)
        · rw [beq_t h1, if_pos rfl, if_pos ⟨by omega, by omega⟩, if_pos ⟨by omega, by omega⟩, w64_id (by omega) (by omega), Int.toNat_natCast]
          unfold seg_Set_Segs.j0
          rw [← push_t h0' h1]
          exact next
        · rw [beq_f h1, if_neg (by decide), if_pos (by omega), er]
          unfold seg_Set_Segs.j0
          rw [← push_f fun _ => h1]
          exact next
      · rw [if_neg h0]
        unfold seg_Set_Segs.j1
        rw [if_neg (by decide), if_pos (by omega), er]
        unfold seg_Set_Segs.j0
        rw [← push_f fun h => by omega]
        exact next
    · rw [if_neg (by omega), List.drop_eq_nil_of_le (by omega)]
      rfl
theorem secFrom_len (b : Nat → Bool) (lo : Nat) : (secFrom lo b).length ≤ 64 := by
  unfold secFrom
  refine Nat.le_trans (List.length_filter_le _ _) ?_
  simp
theorem Set_Segs_eq {x : Int} {b : Nat → Bool} {k : Nat} (hx : IsSet x b) (hk : 64 < k) : seg_Set_Segs.f k x = some (segsOf b) := by
  unfold seg_Set_Segs.f
  rw [Sectors_eq hx hk]
  simp only [Option.bind_some]
  have hl := secFrom_len b 0
  exact Set_Segs_l0 (by omega) k 0 0 [] (by omega) (by omega) (secFrom_rise b 64 0 (by omega)) (by omega) Made.nil
/-! ### Lists compared -/
theorem EqSegs_l0 {l m : List Seg} (hl : l.length < 4611686018427387904) (e : l.length = m.length) : ∀ (n i : Nat), i ≤ l.length → l.length - i < n → hermitageref0_EqSegs.l0 l m n i = some (decide (l.drop i = m.drop i))
  | 0, i, _, h => by omega
  | n + 1, i, hi, hn => by
    unfold hermitageref0_EqSegs.l0
    by_cases c : i < l.length
    · have c2 : i < m.length := by omega
      rw [if_pos (by omega), if_pos ⟨by omega, by omega⟩, if_pos ⟨by omega, by omega⟩, rd_nat c, rd_nat c2, List.drop_eq_getElem_cons c, List.drop_eq_getElem_cons c2]
      by_cases h : l[i] = m[i]
      · rw [if_pos h, w64_succ c hl, EqSegs_l0 hl e n (i + 1) (by omega) (by omega)]
        congr 1
        rw [decide_eq_decide, List.cons.injEq]
        exact ⟨fun hh => ⟨h, hh⟩, fun hh => hh.2⟩
      · rw [if_neg h]
        congr 1
        symm
        rw [decide_eq_false_iff_not, List.cons.injEq]
        exact fun hh => h hh.1
    · rw [if_neg (by omega), List.drop_eq_nil_of_le (by omega), List.drop_eq_nil_of_le (by omega)]
      simp
theorem EqSegs_eq {l m : List Seg} {k : Nat} (hl : l.length < 4611686018427387904) (hk : l.length < k) : hermitageref0_EqSegs.f k l m = some (decide (l = m)) := by
  unfold hermitageref0_EqSegs.f
  by_cases e : (l.length : Int) = (m.length : Int)
  · rw [if_pos e]
    exact EqSegs_l0 hl (by omega) k 0 (by omega) (by omega)
  · rw [if_neg e]
    have : ¬ l = m := fun h => e (by rw [h])
    simp [this]
/-! ### Joined -/
def memAll : List (List Seg) → Nat → Bool
  | [], _ => false
  | l :: r, i => mem l i || memAll r i
def okAllL (L : List (List Seg)) : Bool := L.all ok
theorem memAll_append {L M : List (List Seg)} {i : Nat} : memAll (L ++ M) i = (memAll L i || memAll M i) := by
  induction L with
  | nil => simp [memAll]
  | cons l r ih => simp only [List.cons_append, memAll, ih, Bool.or_assoc]
theorem Join_l0 {L : List (List Seg)} {k : Nat} (hL : L.length < 4611686018427387904) (hk : 64 < k) (hel : ∀ l ∈ L, l.length < 4611686018427387904 ∧ l.length < k) : ∀ (n i : Nat) (x : Int) (b : Nat → Bool), i ≤ L.length → L.length - i < n → IsSet x b → seg_Join.l0 L k n x i = some (if okAllL (L.drop i) = true then (segsOf fun j => b j || memAll (L.drop i) j, 0) else ([], 1))
  | 0, i, x, b, _, h, _ => by omega
  | n + 1, i, x, b, hi, hn, hx => by
    unfold seg_Join.l0
    by_cases c : i < L.length
    · rw [if_pos (by omega), if_pos ⟨by omega, by omega⟩, rd_nat c, List.drop_eq_getElem_cons c]
      obtain ⟨h1, h2⟩ := hel L[i] (List.getElem_mem c)
      generalize L[i] = l at *
      rw [May_eq h1 h2]
      simp only [Option.bind_some]
      by_cases ho : ok l = true
      · rw [if_pos ho]
        obtain ⟨y, e, hy⟩ := Make_set h1 h2 ho
        rw [e]
        simp only [Option.bind_some]
        rw [w64_succ c hL, Join_l0 hL hk hel n (i + 1) _ _ (by omega) (by omega) (hx.or hy)]
        simp only [okAllL, List.all_cons, ho, Bool.true_and, memAll, Bool.or_assoc]
      · rw [if_neg ho]
        have : okAllL (l :: L.drop (i + 1)) = false := by simp [okAllL, ho]
        rw [this]
        rfl
    · rw [if_neg (by omega), List.drop_eq_nil_of_le (by omega), Set_Segs_eq hx hk]
      simp [okAllL, memAll]
theorem Join_eq {L : List (List Seg)} {k : Nat} (hL : L.length < 4611686018427387904) (hLk : L.length < k) (hk : 64 < k) (hel : ∀ l ∈ L, l.length < 4611686018427387904 ∧ l.length < k) : seg_Join.f k L = some (if okAllL L = true then (segsOf (memAll L), 0) else ([], 1)) := by
  have := Join_l0 hL hk hel k 0 0 _ (by omega) (by omega) IsSet.zero
  rw [List.drop_zero] at this
  unfold seg_Join.f
  rw [show (0 : Int) = ((0 : Nat) : Int) from rfl]
  refine this.trans ?_
  simp
theorem wakes_eq {k : Nat} (hk : 64 < k) : hermitagelaw1_wakes.f k = some true := by
  unfold hermitagelaw1_wakes.f
  rw [Join_eq (by simp) (by simp; omega) hk (by simp; omega)]
  have h1 : okAllL [[⟨0, 2⟩], [⟨2, 2⟩]] = true := by decide
  have h2 : segsOf (memAll [[⟨0, 2⟩], [⟨2, 2⟩]]) = [⟨0, 4⟩] := by decide +kernel
  rw [if_pos h1, h2]
  simp only [Option.bind_some, hermitagelaw1_num.f, if_true]
  rw [EqSegs_eq (by simp) (by simp; omega)]
  rfl
/-! ### What is played -/
/-- An input of a size that memory has. -/
structure Sized (p : hermitagelaw1Ask) : Prop where
  L : p.L.length < 1125899906842624
  N : p.N.length < 1125899906842624
  el : ∀ l ∈ p.L, l.length < 1125899906842624
theorem Heavy_l0 {p : hermitagelaw1Ask} (hs : Sized p) : ∀ (n i t : Nat), i ≤ p.L.length → p.L.length - i < n → t < 4503599627370496 → (∀ l ∈ p.L.take i, l.length ≤ t) → p.L.length ≤ t → p.N.length ≤ t → ∃ h, hermitagelaw1_Heavy.l0 p n t i = some h ∧ (h = false → p.L.length ≤ 500 ∧ p.N.length ≤ 500 ∧ ∀ l ∈ p.L, l.length ≤ 500)
  | 0, i, t, _, h, _, _, _, _ => by omega
  | n + 1, i, t, hi, hn, ht, hel, h1, h2 => by
    unfold hermitagelaw1_Heavy.l0
    by_cases c : i < p.L.length
    · rw [if_pos (by omega)]
      unfold hermitagelaw1_Heavy.j0
      by_cases h3 : (t : Int) < 1048576
      · rw [decide_eq_true h3, if_pos rfl, if_pos ⟨by omega, by omega⟩, rd_nat c, w64_succ c (by have := hs.L; omega)]
        have h4 := hs.el p.L[i] (List.getElem_mem c)
        have e : w64 ((t : Int) + (p.L[i].length : Int)) = ((t + p.L[i].length : Nat) : Int) := by rw [w64_id (by omega) (by omega)]; omega
        rw [e]
        refine Heavy_l0 hs n (i + 1) _ (by omega) (by omega) (by omega) (fun l hl => ?_) (by omega) (by omega)
        rw [List.take_succ_eq_append_getElem c] at hl
        rcases List.mem_append.1 hl with hl | hl
        · have := hel l hl; omega
        · simp at hl; subst hl; omega
      · rw [decide_eq_false h3, if_neg (by decide)]
        refine ⟨_, rfl, fun h => ?_⟩
        have := of_decide_eq_false h
        omega
    · rw [if_neg (by omega)]
      unfold hermitagelaw1_Heavy.j0
      rw [if_neg (by decide)]
      refine ⟨_, rfl, fun h => ?_⟩
      have h5 := of_decide_eq_false h
      refine ⟨by omega, by omega, fun l hl => ?_⟩
      have := hel l (by rw [List.take_of_length_le (by omega)]; exact hl)
      omega
theorem Heavy_eq {p : hermitagelaw1Ask} {k : Nat} (hs : Sized p) (hk : p.L.length < k) : ∃ h, hermitagelaw1_Heavy.f k p = some h ∧ (h = false → p.L.length ≤ 500 ∧ p.N.length ≤ 500 ∧ ∀ l ∈ p.L, l.length ≤ 500) := by
  unfold hermitagelaw1_Heavy.f
  have h1 := hs.L
  have h2 := hs.N
  have e : w64 ((p.L.length : Int) + (p.N.length : Int)) = ((p.L.length + p.N.length : Nat) : Int) := by rw [w64_id (by omega) (by omega)]; omega
  rw [e]
  exact Heavy_l0 hs k 0 _ (by omega) (by omega) (by omega) (fun l hl => by simp at hl) (by omega) (by omega)
end Go.Proofs.YtnaajldlloglkaaDoor.W
