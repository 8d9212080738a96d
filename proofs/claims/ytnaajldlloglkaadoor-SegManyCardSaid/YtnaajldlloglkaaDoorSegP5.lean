/- The plain law of SegMany: whatever lists of a size that memory has, it tells true. -/
import Derived.Test.YtnaajldlloglkaaDoorSegP4
set_option linter.unusedVariables false
set_option linter.unusedSimpArgs false
namespace Go.Proofs.YtnaajldlloglkaaDoor.W
open Go.H
theorem mem_nil {i : Nat} : mem [] i = false := rfl
theorem Many_l1 {k : Nat} (hk : 1000 < k) {L : List (List Seg)} (hL : L.length ≤ 500) (hel : ∀ l ∈ L, l.length ≤ 500) (hok : okAllL L = true) {y6 : List Seg} (h6 : y6 = segsOf (memAll L)) : ∀ (n i : Nat), i ≤ L.length → L.length - i < n →
    hermitagelaw1_SegMany.l1 k L (segsOf (memAll L), 0) (y6, 0) n (segsOf (memAll (L.take i))) i = some true
  | 0, i, _, h => by omega
  | n + 1, i, hi, hn => by
    unfold hermitagelaw1_SegMany.l1
    by_cases c : i < L.length
    · have hle := hel L[i] (List.getElem_mem c)
      have ho : ok L[i] = true := List.all_eq_true.1 hok _ (List.getElem_mem c)
      have hsl := segsOf_len (memAll (L.take i))
      rw [if_pos (by omega), if_pos ⟨by omega, by omega⟩, rd_nat c, Join_eq (by simp) (by simp; omega) (by omega) (fun l hl => by
        simp only [List.mem_cons, List.not_mem_nil, or_false] at hl
        rcases hl with rfl | rfl <;> omega)]
      have h1 : okAllL [segsOf (memAll (L.take i)), L[i]] = true := by simp [okAllL, segsOf_ok, ho]
      rw [if_pos h1]
      simp only [Option.bind_some, hermitagelaw1_num.f, if_true]
      rw [w64_succ c (by omega)]
      have h2 : segsOf (memAll [segsOf (memAll (L.take i)), L[i]]) = segsOf (memAll (L.take (i + 1))) := segsOf_congr fun j hj => by
        rw [List.take_succ_eq_append_getElem c, memAll_append]
        simp only [memAll, Bool.or_false]
        rw [mem_segsOf hj]
      rw [h2]
      exact Many_l1 hk hL hel hok h6 n (i + 1) (by omega) (by omega)
    · have hsl := segsOf_len (memAll L)
      rw [if_neg (by omega), List.take_of_length_le (by omega)]
      simp only [Option.bind_some, hermitagelaw1_num.f, if_true]
      subst h6
      rw [EqSegs_eq (by omega) (by omega)]
      simp only [Option.bind_some, decide_true, if_true]
      rw [wakes_eq (by omega)]
      rfl
theorem Many_end {p : hermitagelaw1Ask} {k : Nat} (hk : 1000 < k) {L : List (List Seg)} (hL : L.length ≤ 500) (hel : ∀ l ∈ L, l.length ≤ 500) (hok : okAllL L = true) (i : Int) (re : List (List Seg) → Int → Option Bool) : hermitagelaw1_SegMany.j0 p k L i re false = some true := by
  unfold hermitagelaw1_SegMany.j0
  rw [if_neg (by decide), Join_eq (by omega) (by omega) (by omega) (fun l hl => by have := hel l hl; omega), if_pos hok]
  simp only [Option.bind_some, List.nil_append]
  rw [if_pos (by simp; omega), if_pos (by omega), Join_eq (by rw [List.length_append]; omega) (by rw [List.length_append]; omega) (by omega) (fun l hl => by
    rcases List.mem_append.1 hl with h | h <;> (have := hel l h; omega))]
  have h1 : okAllL (L ++ L) = true := by simp only [okAllL, List.all_append, Bool.and_eq_true]; exact ⟨hok, hok⟩
  rw [if_pos h1]
  simp only [Option.bind_some]
  have h2 : segsOf (memAll (L ++ L)) = segsOf (memAll L) := segsOf_congr fun j _ => by rw [memAll_append, Bool.or_self]
  rw [h2]
  exact Many_l1 hk hL hel hok rfl k 0 (by omega) (by omega)
theorem Many_l0 {p : hermitagelaw1Ask} {k : Nat} (hk : 1000 < k) (hp : p.L.length ≤ 500) (hpe : ∀ l ∈ p.L, l.length ≤ 500) : ∀ (n i : Nat) (L : List (List Seg)), i ≤ p.L.length → p.L.length - i < n → L.length ≤ i → (∀ l ∈ L, l.length ≤ 500) → okAllL L = true → hermitagelaw1_SegMany.l0 p k n L i = some true
  | 0, i, L, _, h, _, _, _ => by omega
  | n + 1, i, L, hi, hn, hL, hel, hok => by
    unfold hermitagelaw1_SegMany.l0
    by_cases c : i < p.L.length
    · rw [if_pos (by omega)]
      by_cases h8 : (i : Int) < 8
      · rw [decide_eq_true h8]
        unfold hermitagelaw1_SegMany.j0
        have hle := hpe p.L[i] (List.getElem_mem c)
        rw [if_pos rfl, if_pos ⟨by omega, by omega⟩, rd_nat c, Segs_eq (by omega) (by omega)]
        simp only [Option.bind_some]
        by_cases ho : ok p.L[i] = true
        · rw [if_pos ho, if_pos ⟨by omega, by omega⟩, if_pos (by omega)]
          unfold hermitagelaw1_SegMany.j1
          rw [w64_succ c (by omega)]
          refine Many_l0 hk hp hpe n (i + 1) _ (by omega) (by omega) (by rw [List.length_append]; simp; omega) (fun l hl => ?_) ?_
          · rcases List.mem_append.1 hl with h | h
            · exact hel l h
            · simp at h; subst h; exact hle
          · simp only [okAllL, List.all_append, Bool.and_eq_true, List.all_cons, List.all_nil, and_true]
            exact ⟨hok, ho⟩
        · rw [if_neg ho]
          unfold hermitagelaw1_SegMany.j1
          rw [w64_succ c (by omega)]
          exact Many_l0 hk hp hpe n (i + 1) L (by omega) (by omega) (by omega) hel hok
      · rw [decide_eq_false h8]
        exact Many_end hk (by omega) hel hok _ _
    · rw [if_neg (by omega)]
      exact Many_end hk (by omega) hel hok _ _
theorem SegMany_true {p : hermitagelaw1Ask} (hs : Sized p) : ∃ k, hermitagelaw1_SegMany.f k p = some true := by
  refine ⟨p.L.length + 1001, ?_⟩
  unfold hermitagelaw1_SegMany.f
  obtain ⟨h, e, hh⟩ := Heavy_eq (k := p.L.length + 1001) hs (by omega)
  rw [e]
  simp only [Option.bind_some]
  cases h with
  | true => rw [if_pos rfl]
  | false =>
    rw [if_neg (by decide)]
    obtain ⟨h1, h2, h3⟩ := hh rfl
    exact Many_l0 (by omega) h1 h3 _ 0 [] (by omega) (by omega) (by simp) (by simp) rfl
end Go.Proofs.YtnaajldlloglkaaDoor.W
