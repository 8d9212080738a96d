/- Plain facts: the page's own functions over segments; one set less another, both. -/
import Derived.Test.YtnaajldlloglkaaDoorSegP4
set_option linter.unusedVariables false
set_option linter.unusedSimpArgs false
namespace Go.Proofs.YtnaajldlloglkaaDoor.W
open Go.H
theorem Of_l0 {s : Nat → Bool} : ∀ (n i : Nat) (acc : List Seg), i ≤ 64 → 64 - i < n → Made acc i → hermitageref1_Of.l0 s n acc i = some ((secFrom i s).foldl push acc)
  | 0, i, acc, _, h, _ => by omega
  | n + 1, i, acc, hi, hn, hm => by
    unfold hermitageref1_Of.l0
    by_cases c : i < 64
    · rw [if_pos (by omega), if_pos ⟨by omega, by omega⟩, Int.toNat_natCast, secFrom_cons c]
      have hal := hm.len
      by_cases hs : s i = true
      · rw [if_pos hs, if_pos hs, List.foldl_cons]
        have hp := (hm.push c).1
        have next : hermitageref1_Of.l0 s n (push acc i) (w64 ((i : Int) + 1)) = some ((secFrom (i + 1) s).foldl push (push acc i)) := by
          rw [w64_succ c (by omega)]
          exact Of_l0 n (i + 1) _ (by omega) (by omega) hp
        by_cases h0 : (0 : Int) < (acc.length : Int)
        · have h0' : 0 < acc.length := by omega
          obtain ⟨l1, l2, l3⟩ := hm.last h0'
          have ew : w64 ((acc.length : Int) - 1) = ((acc.length - 1 : Nat) : Int) := w64_pred (n := acc.length) h0' (Nat.le_refl _) (by omega)
          rw [if_pos h0]
          simp only [ew]
          rw [if_pos ⟨by omega, by omega⟩, if_pos ⟨by omega, by omega⟩, w64_id (by omega) (by omega)]
          unfold hermitageref1_Of.j1
          simp only [ew]
          by_cases h1 : (rd acc ((acc.length - 1 : Nat) : Int)).At + (rd acc ((acc.length - 1 : Nat) : Int)).Len = (i : Int)
          · rw [beq_t h1, if_pos rfl, if_pos ⟨by omega, by omega⟩, if_pos ⟨by omega, by omega⟩, w64_id (by omega) (by omega), Int.toNat_natCast]
            unfold hermitageref1_Of.j0
            rw [← push_t h0' h1]
            exact next
          · rw [beq_f h1, if_neg (by decide), if_pos (by omega)]
            unfold hermitageref1_Of.j0
            rw [← push_f fun _ => h1]
            exact next
        · rw [if_neg h0]
          unfold hermitageref1_Of.j1
          rw [if_neg (by decide), if_pos (by omega)]
          unfold hermitageref1_Of.j0
          rw [← push_f fun h => by omega]
          exact next
      · rw [if_neg hs, if_neg hs]
        unfold hermitageref1_Of.j0
        rw [w64_succ c (by omega)]
        exact Of_l0 n (i + 1) _ (by omega) (by omega) (hm.up (by omega))
    · obtain rfl : i = 64 := by omega
      rw [if_neg (by omega)]
      rfl
theorem Of_eq {s : Nat → Bool} {k : Nat} (hk : 64 < k) : hermitageref1_Of.f k s = some (segsOf s) := Of_l0 k 0 [] (by omega) (by omega) Made.nil
theorem Copy_l0 {l : List Seg} (hl : l.length < 1125899906842624) : ∀ (n i : Nat), i ≤ l.length → l.length - i < n → (l.length + 1) * 16 ≤ 140737488355328 → hermitageref0_CopySegs.l0 l n (l.take i) i = some l
  | 0, i, _, h, _ => by omega
  | n + 1, i, hi, hn, hb => by
    unfold hermitageref0_CopySegs.l0
    by_cases c : i < l.length
    · have e : l.take i ++ [l[i]] = l.take (i + 1) := (List.take_succ_eq_append_getElem c).symm
      rw [if_pos (by omega), if_pos ⟨by omega, by omega⟩, rd_nat c, if_pos (by rw [List.length_take]; omega), e, w64_succ c (by omega)]
      exact Copy_l0 hl n (i + 1) (by omega) (by omega) hb
    · rw [if_neg (by omega), List.take_of_length_le (by omega)]
theorem Copy_eq {l : List Seg} {k : Nat} (hl : l.length ≤ 500) (hk : l.length < k) : hermitageref0_CopySegs.f k l = some l := Copy_l0 (by omega) k 0 (by omega) (by omega) (by omega)
theorem Less_eq {l m : List Seg} {k : Nat} (hk : 1000 < k) (hl : l.length ≤ 500) (hm : m.length ≤ 500) : seg_Less.f k l m = some (if (ok l && ok m) = true then (segsOf fun i => mem l i && !mem m i, 0) else ([], 1)) := by
  unfold seg_Less.f
  rw [May_eq (by omega) (by omega)]
  simp only [Option.bind_some]
  cases h1 : ok l with
  | false => rfl
  | true =>
    rw [if_pos rfl, May_eq (by omega) (by omega)]
    simp only [Option.bind_some]
    cases h2 : ok m with
    | false => rfl
    | true =>
      obtain ⟨x, e1, hx⟩ := Make_set (k := k) (by omega) (by omega) h1
      obtain ⟨y, e2, hy⟩ := Make_set (k := k) (by omega) (by omega) h2
      unfold seg_Less.j1
      rw [if_neg (by decide), e1, e2]
      simp only [Option.bind_some, seg_Less_1.f]
      rw [Set_Segs_eq (hx.andn hy) (by omega)]
      rfl
theorem Both_eq {l m : List Seg} {k : Nat} (hk : 1000 < k) (hl : l.length ≤ 500) (hm : m.length ≤ 500) : seg_Both.f k l m = some (if (ok l && ok m) = true then (segsOf fun i => mem l i && mem m i, 0) else ([], 1)) := by
  unfold seg_Both.f
  rw [May_eq (by omega) (by omega)]
  simp only [Option.bind_some]
  cases h1 : ok l with
  | false => rfl
  | true =>
    rw [if_pos rfl, May_eq (by omega) (by omega)]
    simp only [Option.bind_some]
    cases h2 : ok m with
    | false => rfl
    | true =>
      obtain ⟨x, e1, hx⟩ := Make_set (k := k) (by omega) (by omega) h1
      obtain ⟨y, e2, hy⟩ := Make_set (k := k) (by omega) (by omega) h2
      unfold seg_Both.j1
      rw [if_neg (by decide), e1, e2]
      simp only [Option.bind_some, seg_Both_1.f]
      rw [Set_Segs_eq (hx.and hy) (by omega)]
      rfl
end Go.Proofs.YtnaajldlloglkaaDoor.W
