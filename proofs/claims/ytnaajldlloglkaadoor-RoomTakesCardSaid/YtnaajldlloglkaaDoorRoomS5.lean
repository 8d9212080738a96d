/- Plain facts; lines of the claims before, printed by mkfacts.py. -/
import Derived.Test.YtnaajldlloglkaaDoorRoomS4
set_option linter.unusedVariables false
set_option linter.unusedSimpArgs false
namespace Go.Proofs.YtnaajldlloglkaaDoor.W.S
open Go.H
theorem Of_l0 {s : Nat → Bool} : ∀ (n i : Nat) (acc : List Seg), i ≤ 64 → 64 - i < n → Made acc i → hermitageref1_Of.l0 s n acc i = some ((secFrom i s).foldl push acc)
  | 0, i, acc, _, h, _ => by omega
  | n + 1, i, acc, hi, hn, hm => by
    unfold hermitageref1_Of.l0
    by_cases c : i < 64
    · rw [if_pos (by omega), if_pos ⟨by omega, by omega⟩, Int.toNat_natCast, secFrom_cons c]
      have hal := hm.len
      by_cases hs : s i = true
      · rw [if_pos hs, if_pos hs, List.foldl_cons]
        have hp := (hm.push c).1
        have next : hermitageref1_Of.l0 s n (push acc i) (w64 ((i : Int) + 1)) = some ((secFrom (i + 1) s).foldl push (push acc i)) := by
          rw [w64_succ c (by omega)]
          exact Of_l0 n (i + 1) _ (by omega) (by omega) hp
        by_cases h0 : (0 : Int) < (acc.length : Int)
        · have h0' : 0 < acc.length := by omega
          obtain ⟨l1, l2, l3⟩ := hm.last h0'
          have ew : w64 ((acc.length : Int) - 1) = ((acc.length - 1 : Nat) : Int) := w64_pred (n := acc.length) h0' (Nat.le_refl _) (by omega)
          rw [if_pos h0]
          simp only [ew]
          rw [if_pos ⟨by omega, by omega⟩, if_pos ⟨by omega, by omega⟩, w64_id (by omega) (by omega)]
          unfold hermitageref1_Of.j1
          simp only [ew]
          by_cases h1 : (rd acc ((acc.length - 1 : Nat) : Int)).At + (rd acc ((acc.length - 1 : Nat) : Int)).Len = (i : Int)
          · rw [beq_t h1, if_pos rfl, if_pos ⟨by omega, by omega⟩, if_pos ⟨by omega, by omega⟩, w64_id (by omega) (by omega), Int.toNat_natCast]
            unfold hermitageref1_Of.j0
            rw [← push_t h0' h1]
            exact next
          · rw [beq_f h1, if_neg (by decide), if_pos (by omega)]
            unfold hermitageref1_Of.j0
            rw [← push_f fun _ => h1]
            exact next
        · rw [if_neg h0]
          unfold hermitageref1_Of.j1
          rw [if_neg (by decide), if_pos (by omega)]
          unfold hermitageref1_Of.j0
          rw [← push_f fun h => by omega]
          exact next
      · rw [if_neg hs, if_neg hs]
        unfold hermitageref1_Of.j0
        rw [w64_succ c (by omega)]
        exact Of_l0 n (i + 1) _ (by omega) (by omega) (hm.up (by omega))
    · obtain rfl : i = 64 := by omega
      rw [if_neg (by omega)]
      rfl
theorem Of_eq {s : Nat → Bool} {k : Nat} (hk : 64 < k) : hermitageref1_Of.f k s = some (segsOf s) := Of_l0 k 0 [] (by omega) (by omega) Made.nil
theorem Copy_l0 {l : List Seg} (hl : l.length < 1125899906842624) : ∀ (n i : Nat), i ≤ l.length → l.length - i < n → (l.length + 1) * 16 ≤ 140737488355328 → hermitageref0_CopySegs.l0 l n (l.take i) i = some l
  | 0, i, _, h, _ => by omega
  | n + 1, i, hi, hn, hb => by
    unfold hermitageref0_CopySegs.l0
    by_cases c : i < l.length
    · have e : l.take i ++ [l[i]] = l.take (i + 1) := (List.take_succ_eq_append_getElem c).symm
      rw [if_pos (by omega), if_pos ⟨by omega, by omega⟩, rd_nat c, if_pos (by rw [List.length_take]; omega), e, w64_succ c (by omega)]
      exact Copy_l0 hl n (i + 1) (by omega) (by omega) hb
    · rw [if_neg (by omega), List.take_of_length_le (by omega)]
theorem Copy_eq {l : List Seg} {k : Nat} (hl : l.length ≤ 500) (hk : l.length < k) : hermitageref0_CopySegs.f k l = some l := Copy_l0 (by omega) k 0 (by omega) (by omega) (by omega)
theorem Set_l1 {l : List Seg} {i : Nat} (c : i < l.length) (hs : 0 ≤ l[i].At ∧ 1 ≤ l[i].Len ∧ l[i].At + l[i].Len ≤ 64) (re : Int → (Nat → Bool) → Option (Nat → Bool)) : ∀ (n j : Nat) (s : Nat → Bool), l[i].At ≤ (j : Int) → (j : Int) ≤ l[i].At + l[i].Len → (l[i].At + l[i].Len - (j : Int)).toNat < n →
    ∃ s', hermitageref1_Set.l1 l i re n j s = re (w64 ((i : Int) + 1)) s' ∧ ∀ t : Nat, s' t = (s t || (decide ((j : Int) ≤ (t : Int)) && decide ((t : Int) < l[i].At + l[i].Len)))
  | 0, j, s, _, _, h => by omega
  | n + 1, j, s, h1, h2, hn => by
    unfold hermitageref1_Set.l1
    rw [if_pos ⟨by omega, by omega⟩, if_pos ⟨by omega, by omega⟩, rd_nat c, w64_id (by omega) (by omega)]
    by_cases hj : (j : Int) < l[i].At + l[i].Len
    · rw [if_pos hj, if_pos ⟨by omega, by omega⟩, Int.toNat_natCast, w64_succ (show j < 64 by omega) (by omega)]
      obtain ⟨s', e, hs'⟩ := Set_l1 c hs re n (j + 1) (updF s j true) (by omega) (by omega) (by omega)
      refine ⟨s', e, fun t => ?_⟩
      rw [hs' t]
      unfold updF
      by_cases ht : t = j
      · subst ht
        have : (t : Int) < l[i].At + l[i].Len := hj
        simp [this]
      · rw [if_neg ht]
        congr 1
        rw [Bool.eq_iff_iff]
        simp
        omega
    · rw [if_neg hj]
      refine ⟨s, rfl, fun t => ?_⟩
      have : (decide ((j : Int) ≤ (t : Int)) && decide ((t : Int) < l[i].At + l[i].Len)) = false := by
        rw [Bool.eq_false_iff]
        simp
        omega
      rw [this, Bool.or_false]
theorem Set_l0 {l : List Seg} {k : Nat} (hk : 1000 < k) (hl : l.length ≤ 500) (hel : ∀ s ∈ l, 0 ≤ s.At ∧ 1 ≤ s.Len ∧ s.At + s.Len ≤ 64) : ∀ (n i : Nat) (s : Nat → Bool), i ≤ l.length → l.length - i < n → ∃ s', hermitageref1_Set.l0 l k n i s = some s' ∧ ∀ t, s' t = (s t || mem (l.drop i) t)
  | 0, i, s, _, h => by omega
  | n + 1, i, s, hi, hn => by
    unfold hermitageref1_Set.l0
    by_cases c : i < l.length
    · have h0 := hel l[i] (List.getElem_mem c)
      rw [if_pos (by omega), if_pos ⟨by omega, by omega⟩, rd_nat c]
      obtain ⟨a, ha⟩ := Int.eq_ofNat_of_zero_le h0.1
      obtain ⟨s1, e1, hs1⟩ := Set_l1 c h0 (hermitageref1_Set.l0 l k n) k a s (by omega) (by omega) (by omega)
      rw [ha, e1, w64_succ c (by omega)]
      obtain ⟨s2, e2, hs2⟩ := Set_l0 hk hl hel n (i + 1) s1 (by omega) (by omega)
      refine ⟨s2, e2, fun t => ?_⟩
      rw [hs2, hs1, List.drop_eq_getElem_cons c]
      simp only [mem, Bool.or_assoc, ha]
    · rw [if_neg (by omega), List.drop_eq_nil_of_le (by omega)]
      exact ⟨s, rfl, fun t => by simp [mem]⟩
theorem Set_eq {l : List Seg} {k : Nat} (hk : 1000 < k) (hl : l.length ≤ 500) (h : ok l = true) : hermitageref1_Set.f k l = some (mem l) := by
  obtain ⟨s, e, hs⟩ := Set_l0 hk hl (ok_elem (Int.le_refl 0) h) k 0 (fun _ => false) (by omega) (by omega)
  unfold hermitageref1_Set.f
  have : s = mem l := by funext t; rw [hs]; simp
  rw [← this]
  exact e
/-- What the page's choice of two sets is. -/
def pick2 (kind : Int) (a b : Bool) : Bool := if kind = 0 then a || b else if kind = 1 then a && !b else a && b
theorem Two_l0 {kind : Int} {k : Nat} (hk : 64 < k) {a b : Nat → Bool} : ∀ (n i : Nat) (s : Nat → Bool), i ≤ 64 → 64 - i < n → (∀ j, j < i → s j = pick2 kind (a j) (b j)) → hermitageref1_Two.l0 kind k a b n i s = some (segsOf fun j => pick2 kind (a j) (b j))
  | 0, i, s, _, h, _ => by omega
  | n + 1, i, s, hi, hn, hs => by
    unfold hermitageref1_Two.l0
    by_cases c : i < 64
    · have g : (0 : Int) ≤ (i : Int) ∧ (i : Int) < 64 := ⟨by omega, by omega⟩
      have next : ∀ v, v = pick2 kind (a i) (b i) → hermitageref1_Two.j0 (i : Int) (hermitageref1_Two.l0 kind k a b n) (updF s i v) = some (segsOf fun j => pick2 kind (a j) (b j)) := fun v hv => by
        unfold hermitageref1_Two.j0
        rw [w64_succ c (by omega)]
        refine Two_l0 hk n (i + 1) _ (by omega) (by omega) fun j hj => ?_
        unfold updF
        by_cases e : j = i
        · subst e; rw [if_pos rfl, hv]
        · rw [if_neg e]; exact hs j (by omega)
      rw [if_pos (by omega)]
      simp only [if_pos g, Int.toNat_natCast]
      by_cases k0 : kind = 0
      · rw [if_pos k0]
        cases ha : a i with
        | true => rw [if_pos rfl]; exact next _ (by simp [pick2, k0, ha])
        | false => rw [if_neg (by decide)]; exact next _ (by simp [pick2, k0, ha])
      · rw [if_neg k0]
        by_cases k1 : kind = 1
        · rw [if_pos k1]
          cases ha : a i with
          | true => rw [if_pos rfl]; exact next _ (by simp [pick2, k1, ha])
          | false => rw [if_neg (by decide)]; exact next _ (by simp [pick2, k1, ha])
        · rw [if_neg k1]
          cases ha : a i with
          | true => rw [if_pos rfl]; exact next _ (by simp [pick2, k0, k1, ha])
          | false => rw [if_neg (by decide)]; exact next _ (by simp [pick2, k0, k1, ha])
    · obtain rfl : i = 64 := by omega
      rw [if_neg (by omega), Of_eq hk]
      simp only [Option.bind_some]
      rw [segsOf_congr hs]
theorem Two_eq {l m : List Seg} {k : Nat} {kind : Int} (hk : 1000 < k) (hl : l.length ≤ 500) (hm : m.length ≤ 500) (h1 : ok l = true) (h2 : ok m = true) : hermitageref1_Two.f k l m kind = some (segsOf fun j => pick2 kind (mem l j) (mem m j)) := by
  unfold hermitageref1_Two.f
  rw [Set_eq hk hl h1, Set_eq hk hm h2]
  exact Two_l0 (by omega) k 0 _ (by omega) (by omega) fun j hj => by omega
theorem refList_l0 {s : Nat → Bool} : ∀ (n i : Nat) (acc : List Int), i ≤ 64 → 64 - i < n → acc.length ≤ i → hermitageref1_List.l0 s n acc i = some (acc ++ (secFrom i s).map fun (i : Nat) => (i : Int))
  | 0, i, acc, _, h, _ => by omega
  | n + 1, i, acc, hi, hn, ha => by
    unfold hermitageref1_List.l0
    by_cases c : i < 64
    · rw [if_pos (by omega), if_pos ⟨by omega, by omega⟩, Int.toNat_natCast, secFrom_cons c]
      by_cases hs : s i = true
      · rw [if_pos hs, if_pos (by omega), if_pos hs]
        unfold hermitageref1_List.j0
        rw [w64_succ c (by omega), refList_l0 n (i + 1) _ (by omega) (by omega) (by rw [List.length_append]; simp; omega)]
        simp
      · rw [if_neg hs, if_neg hs]
        unfold hermitageref1_List.j0
        rw [w64_succ c (by omega)]
        exact refList_l0 n (i + 1) _ (by omega) (by omega) (by omega)
    · obtain rfl : i = 64 := by omega
      rw [if_neg (by omega), secFrom_end]
      simp
theorem refList_eq {l : List Seg} {k : Nat} (hk : 1000 < k) (hl : l.length ≤ 500) (h : ok l = true) : hermitageref1_List.f k l = some ((secFrom 0 (mem l)).map fun (i : Nat) => (i : Int)) := by
  unfold hermitageref1_List.f
  rw [Set_eq hk hl h]
  exact refList_l0 k 0 [] (by omega) (by omega) (by simp)
theorem refCount_eq {l : List Seg} {k : Nat} (hk : 1000 < k) (hl : l.length ≤ 500) (h : ok l = true) : hermitageref1_Count.f k l = some (((secFrom 0 (mem l)).length : Nat) : Int) := by
  unfold hermitageref1_Count.f
  rw [refList_eq hk hl h]
  simp
theorem Num_eq {a b : Int} : hermitageref0_Num.f a b = some (decide (0 ≤ a) && decide (a ≤ b)) := by
  unfold hermitageref0_Num.f
  by_cases h : 0 ≤ a
  · rw [if_pos h, decide_eq_true h]; rfl
  · rw [if_neg h, decide_eq_false h]; rfl
theorem refHas_eq {l : List Seg} {k : Nat} {n : Int} (hk : 1000 < k) (hl : l.length ≤ 500) (h : ok l = true) : hermitageref1_Has.f k l n = some (inNum n && mem l n.toNat) := by
  unfold hermitageref1_Has.f inNum
  rw [Set_eq hk hl h, Num_eq]
  simp only [Option.bind_some]
  by_cases h0 : 0 ≤ n
  · by_cases h1 : n < 64
    · rw [decide_eq_true h0, decide_eq_true (show n ≤ 63 by omega), decide_eq_true h1, Bool.true_and, if_pos rfl, if_pos ⟨h0, h1⟩]; rfl
    · rw [decide_eq_true h0, decide_eq_false (show ¬ n ≤ 63 by omega), decide_eq_false h1]; rfl
  · rw [decide_eq_false h0]; rfl
def ends : List Seg → Int
  | [] => 0
  | [s] => s.At + s.Len
  | _ :: t :: r => ends (t :: r)
theorem ends_snoc {l : List Seg} {s : Seg} : ends (l ++ [s]) = s.At + s.Len := by
  induction l with
  | nil => rfl
  | cons a r ih =>
    cases r with
    | nil => rfl
    | cons b q => exact ih
theorem Ends_eq {l : List Seg} (hl : l.length ≤ 500) (h : ok l = true) : hermitageref1_Ends.f l = some (ends l) := by
  unfold hermitageref1_Ends.f
  rcases snoc_cases l with rfl | ⟨m, s, rfl⟩
  · rfl
  · have hs := ok_elem (Int.le_refl 0) h s (by simp)
    have e0 : (m ++ [s]).length = m.length + 1 := by simp
    have ew : w64 (((m ++ [s]).length : Int) - 1) = ((m.length : Nat) : Int) := by rw [e0, w64_id (by omega) (by omega)]; omega
    have er : rd (m ++ [s]) ((m.length : Nat) : Int) = s := by rw [rd_nat (by simp)]; simp
    rw [if_neg (by omega), ew, if_pos ⟨by omega, by omega⟩, if_pos ⟨by omega, by omega⟩, er, w64_id (by omega) (by omega), ends_snoc]
theorem mem_ends {lo : Int} : ∀ {l : List Seg}, okFrom lo l = true → ∀ {i : Nat}, mem l i = true → (i : Int) < ends l
  | [], _, i, h => by simp [mem] at h
  | [s], _, i, h => by
    simp [mem] at h
    show (i : Int) < s.At + s.Len
    omega
  | s :: t :: r, hok, i, h => by
    rw [okFrom_cons] at hok
    have ih := fun i => mem_ends (i := i) hok.2.2.2
    have ht := hok.2.2.2
    rw [okFrom_cons] at ht
    show (i : Int) < ends (t :: r)
    rw [mem, Bool.or_eq_true] at h
    rcases h with h | h
    · simp at h
      have := ih (t.At.toNat) (by simp [mem]; omega)
      omega
    · exact ih i h
theorem ends_mem {lo : Int} (h0 : 0 ≤ lo) : ∀ {l : List Seg}, okFrom lo l = true → l ≠ [] → 1 ≤ ends l ∧ ends l ≤ 64 ∧ mem l (ends l - 1).toNat = true
  | [], _, h => absurd rfl h
  | [s], hok, _ => by
    rw [okFrom_cons] at hok
    show 1 ≤ s.At + s.Len ∧ s.At + s.Len ≤ 64 ∧ mem [s] (s.At + s.Len - 1).toNat = true
    refine ⟨by omega, by omega, ?_⟩
    simp [mem]
    omega
  | s :: t :: r, hok, _ => by
    rw [okFrom_cons] at hok
    obtain ⟨h1, h2, h3⟩ := ends_mem (by omega) hok.2.2.2 (by simp)
    refine ⟨h1, h2, ?_⟩
    show mem (s :: t :: r) (ends (t :: r) - 1).toNat = true
    rw [mem, h3, Bool.or_true]
theorem ends_below {l : List Seg} {n : Int} (h : ok l = true) (h0 : 0 ≤ n) : decide (ends l ≤ n) = below l n := by
  rw [Bool.eq_iff_iff, decide_eq_true_iff, below_iff]
  constructor
  · intro h1 i _ hm
    have := mem_ends h hm
    omega
  · intro h1
    by_cases e : l = []
    · subst e; exact h0
    · obtain ⟨a, b, c⟩ := ends_mem (Int.le_refl 0) h e
      have := h1 _ (by omega) c
      omega
end Go.Proofs.YtnaajldlloglkaaDoor.W.S
