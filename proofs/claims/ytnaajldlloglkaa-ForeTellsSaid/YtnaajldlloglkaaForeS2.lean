/- Plain facts; lines of the claims before, printed by mkfacts.py. -/
import Derived.Test.YtnaajldlloglkaaForeS1
set_option linter.unusedVariables false
set_option linter.unusedSimpArgs false
namespace Go.Proofs.Ytnaajldlloglkaa.W.S
open Go.H
def secFrom (lo : Nat) (b : Nat → Bool) : List Nat := (List.range' lo (64 - lo)).filter b
theorem secFrom_end {b : Nat → Bool} : secFrom 64 b = [] := rfl
theorem secFrom_cons {lo : Nat} {b : Nat → Bool} (h : lo < 64) : secFrom lo b = if b lo = true then lo :: secFrom (lo + 1) b else secFrom (lo + 1) b := by
  unfold secFrom
  rw [show 64 - lo = (64 - (lo + 1)) + 1 by omega, List.range'_succ, List.filter_cons]
theorem secFrom_skip {b : Nat → Bool} : ∀ (d lo i : Nat), i = lo + d → i ≤ 64 → (∀ j, lo ≤ j → j < i → b j = false) → secFrom lo b = secFrom i b
  | 0, lo, i, e, _, _ => by rw [show i = lo by omega]
  | d + 1, lo, i, e, hi, h => by
    rw [secFrom_cons (by omega), h lo (by omega) (by omega), if_neg (by decide)]
    exact secFrom_skip d (lo + 1) i (by omega) hi fun j h1 h2 => h j (by omega) h2
theorem secFrom_congr {b c : Nat → Bool} : ∀ (d lo : Nat), 64 - lo = d → (∀ j, lo ≤ j → j < 64 → b j = c j) → secFrom lo b = secFrom lo c := by
  intro d lo _ h
  unfold secFrom
  apply List.filter_congr
  intro j hj
  rw [List.mem_range'_1] at hj
  exact h j hj.1 (by omega)
def push (l : List Seg) (n : Nat) : List Seg :=
  if l ≠ [] ∧ (rd l ((l.length - 1 : Nat) : Int)).At + (rd l ((l.length - 1 : Nat) : Int)).Len = (n : Int) then l.set (l.length - 1) ⟨(rd l ((l.length - 1 : Nat) : Int)).At, (rd l ((l.length - 1 : Nat) : Int)).Len + 1⟩ else l ++ [⟨(n : Int), 1⟩]
def segsOf (b : Nat → Bool) : List Seg := (secFrom 0 b).foldl push []
def nextLo : Int → List Seg → Int
  | lo, [] => lo
  | _, s :: r => nextLo (s.At + s.Len + 1) r
theorem okFrom_append {lo : Int} {l m : List Seg} : okFrom lo (l ++ m) = (okFrom lo l && okFrom (nextLo lo l) m) := by
  induction l generalizing lo with
  | nil => simp [okFrom, nextLo]
  | cons s r ih => simp only [List.cons_append, okFrom, nextLo, ih, Bool.and_assoc]
theorem nextLo_append {lo : Int} {l m : List Seg} : nextLo lo (l ++ m) = nextLo (nextLo lo l) m := by
  induction l generalizing lo with
  | nil => rfl
  | cons s r ih => simp only [List.cons_append, nextLo, ih]
theorem mem_append {l m : List Seg} {i : Nat} : mem (l ++ m) i = (mem l i || mem m i) := by
  induction l with
  | nil => simp [mem]
  | cons s r ih => simp only [List.cons_append, mem, ih, Bool.or_assoc]
theorem push_nil {n : Nat} : push [] n = [⟨(n : Int), 1⟩] := rfl
theorem push_snoc {l : List Seg} {s : Seg} {n : Nat} : push (l ++ [s]) n = if s.At + s.Len = (n : Int) then l ++ [⟨s.At, s.Len + 1⟩] else l ++ [s] ++ [⟨(n : Int), 1⟩] := by
  have e : rd (l ++ [s]) (((l ++ [s]).length - 1 : Nat) : Int) = s := by
    rw [rd_nat (by simp)]
    simp
  unfold push
  rw [e]
  have : l ++ [s] ≠ [] := by simp
  by_cases h : s.At + s.Len = (n : Int)
  · rw [if_pos ⟨this, h⟩, if_pos h]
    simp
  · rw [if_neg (fun hh => h hh.2), if_neg h]
/-- Segments made of sectors below n. -/
structure Made (l : List Seg) (n : Nat) : Prop where
  ok : ok l = true
  next : nextLo 0 l ≤ (n : Int) + 1
  len : l.length ≤ n
theorem Made.nil : Made [] 0 := ⟨rfl, by simp [nextLo], by simp⟩
theorem snoc_cases {α : Type} (l : List α) : l = [] ∨ ∃ m s, l = m ++ [s] := by
  rcases List.eq_nil_or_concat l with h | ⟨m, s, h⟩
  · exact .inl h
  · exact .inr ⟨m, s, by rw [h]; simp⟩
theorem Made.push {l : List Seg} {n : Nat} (h : Made l n) (hn : n < 64) : Made (push l n) (n + 1) ∧ ∀ i, mem (push l n) i = (mem l i || decide (i = n)) := by
  obtain ⟨h1, h2, h3⟩ := h
  rcases snoc_cases l with rfl | ⟨m, s, rfl⟩
  · rw [push_nil]
    refine ⟨⟨?_, ?_, by simp⟩, fun i => ?_⟩
    · rw [S.ok, okFrom_cons]
      exact ⟨by simp only; omega, by simp only; omega, by simp only; omega, rfl⟩
    · simp only [nextLo]; omega
    · simp only [mem, Bool.or_false, Bool.false_or]
      rw [Bool.eq_iff_iff]
      simp
      omega
  · rw [push_snoc]
    unfold S.ok at h1
    rw [okFrom_append, Bool.and_eq_true, okFrom_cons] at h1
    rw [nextLo_append] at h2
    simp only [nextLo] at h2
    have h0 := ok_elem (Int.le_refl 0) (l := m ++ [s]) (by rw [okFrom_append, Bool.and_eq_true, okFrom_cons]; exact h1) s (by simp)
    obtain ⟨h1a, h1b, h1c, h1d, h1e⟩ := h1
    by_cases e : s.At + s.Len = (n : Int)
    · rw [if_pos e]
      refine ⟨⟨?_, ?_, by simpa using Nat.le_succ_of_le h3⟩, fun i => ?_⟩
      · unfold S.ok
        rw [okFrom_append, Bool.and_eq_true, okFrom_cons]
        exact ⟨h1a, h1b, by simp only; omega, by simp only; omega, rfl⟩
      · rw [nextLo_append]
        simp only [nextLo]
        omega
      · rw [mem_append, mem_append]
        simp only [mem, Bool.or_false]
        rw [Bool.or_assoc]
        congr 1
        rw [Bool.eq_iff_iff]
        simp
        omega
    · rw [if_neg e]
      refine ⟨⟨?_, ?_, by simp at h3 ⊢; omega⟩, fun i => ?_⟩
      · unfold S.ok
        rw [okFrom_append, okFrom_append, nextLo_append, Bool.and_eq_true, Bool.and_eq_true, okFrom_cons, okFrom_cons]
        simp only [nextLo]
        exact ⟨⟨h1a, h1b, h1c, h1d, h1e⟩, by omega, by omega, by omega, rfl⟩
      · rw [nextLo_append, nextLo_append]
        simp only [nextLo]
        omega
      · rw [mem_append]
        simp only [mem, Bool.or_false]
        congr 1
        rw [Bool.eq_iff_iff]
        simp
        omega
theorem fold_made {b : Nat → Bool} : ∀ (d lo : Nat) (acc : List Seg), lo + d = 64 → Made acc lo → Made ((secFrom lo b).foldl push acc) 64 ∧ ∀ i, mem ((secFrom lo b).foldl push acc) i = (mem acc i || (decide (lo ≤ i) && (decide (i < 64) && b i)))
  | 0, lo, acc, e, h => by
    obtain rfl : lo = 64 := by omega
    rw [secFrom_end]
    refine ⟨h, fun i => ?_⟩
    simp only [List.foldl_nil]
    cases hm : mem acc i with
    | true => rfl
    | false =>
      by_cases h1 : i < 64
      · have : ¬ 64 ≤ i := by omega
        simp [this]
      · simp [h1]
  | d + 1, lo, acc, e, h => by
    have hlo : lo < 64 := by omega
    rw [secFrom_cons hlo]
    by_cases hb : b lo = true
    · rw [if_pos hb, List.foldl_cons]
      obtain ⟨h1, h2⟩ := h.push hlo
      obtain ⟨h3, h4⟩ := fold_made d (lo + 1) _ (by omega) h1
      refine ⟨h3, fun i => ?_⟩
      rw [h4, h2]
      by_cases ei : i = lo
      · subst ei; simp [hb, hlo]
      · by_cases hi : lo ≤ i
        · have : lo + 1 ≤ i := by omega
          simp [ei, hi, this]
        · have : ¬ lo + 1 ≤ i := by omega
          simp [ei, hi, this]
    · rw [if_neg hb]
      obtain ⟨h3, h4⟩ := fold_made (b := b) d (lo + 1) acc (by omega) ⟨h.ok, by have := h.next; omega, by have := h.len; omega⟩
      refine ⟨h3, fun i => ?_⟩
      rw [h4]
      by_cases ei : i = lo
      · subst ei
        have : ¬ i + 1 ≤ i := by omega
        simp [hb, this]
      · by_cases hi : lo ≤ i
        · have : lo + 1 ≤ i := by omega
          simp [hi, this]
        · have : ¬ lo + 1 ≤ i := by omega
          simp [hi, this]
theorem segsOf_made (b : Nat → Bool) : Made (segsOf b) 64 := (fold_made 64 0 [] (by omega) Made.nil).1
theorem segsOf_ok (b : Nat → Bool) : ok (segsOf b) = true := (segsOf_made b).ok
theorem segsOf_len (b : Nat → Bool) : (segsOf b).length ≤ 64 := (segsOf_made b).len
theorem mem_segsOf {b : Nat → Bool} {i : Nat} (hi : i < 64) : mem (segsOf b) i = b i := by
  have := (fold_made (b := b) 64 0 [] (by omega) Made.nil).2 i
  unfold segsOf
  rw [this]
  simp [mem, hi]
theorem segsOf_congr {b c : Nat → Bool} (h : ∀ i, i < 64 → b i = c i) : segsOf b = segsOf c := by
  unfold segsOf
  rw [secFrom_congr 64 0 rfl fun j _ hj => h j hj]
/-- Segments that may be are told by their sectors. -/
theorem ok_ext : ∀ {l m : List Seg} {lo lo' : Int}, 0 ≤ lo → 0 ≤ lo' → okFrom lo l = true → okFrom lo' m = true → (∀ i, i < 64 → mem l i = mem m i) → l = m
  | [], [], _, _, _, _, _, _, _ => rfl
  | [], s :: r, lo, lo', _, h0, _, h2, h => by
    rw [okFrom_cons] at h2
    have := h s.At.toNat (by omega)
    simp only [mem] at this
    have e : (s.At.toNat : Int) = s.At := by omega
    rw [e] at this
    simp at this
    omega
  | s :: r, [], lo, lo', h0, _, h2, _, h => by
    rw [okFrom_cons] at h2
    have := h s.At.toNat (by omega)
    simp only [mem] at this
    have e : (s.At.toNat : Int) = s.At := by omega
    rw [e] at this
    simp at this
    omega
  | s :: r, t :: q, lo, lo', h0, h0', h1, h2, h => by
    rw [okFrom_cons] at h1 h2
    have hr : ∀ i, mem r i = true → s.At + s.Len + 1 ≤ (i : Int) := fun i hi => (mem_low h1.2.2.2 hi).1
    have hq : ∀ i, mem q i = true → t.At + t.Len + 1 ≤ (i : Int) := fun i hi => (mem_low h2.2.2.2 hi).1
    have key : ∀ i : Nat, i < 64 → ((s.At ≤ (i : Int) ∧ (i : Int) < s.At + s.Len) ∨ mem r i = true ↔ (t.At ≤ (i : Int) ∧ (i : Int) < t.At + t.Len) ∨ mem q i = true) := fun i hi => by
      have := h i hi
      rw [Bool.eq_iff_iff] at this
      simpa [mem] using this
    have eAt : s.At = t.At := by
      have k1 := (key s.At.toNat (by omega)).1 (.inl ⟨by omega, by omega⟩)
      have k2 := (key t.At.toNat (by omega)).2 (.inl ⟨by omega, by omega⟩)
      rcases k1 with k1 | k1
      · rcases k2 with k2 | k2
        · omega
        · have := hr _ k2; omega
      · have := hq _ k1
        rcases k2 with k2 | k2
        · omega
        · have := hr _ k2; omega
    have eLen : s.Len = t.Len := by
      rcases Int.lt_trichotomy s.Len t.Len with hlt | he | hgt
      · have k := (key (s.At + s.Len).toNat (by omega)).2 (.inl ⟨by omega, by omega⟩)
        rcases k with k | k
        · omega
        · have := hr _ k; omega
      · exact he
      · have k := (key (t.At + t.Len).toNat (by omega)).1 (.inl ⟨by omega, by omega⟩)
        rcases k with k | k
        · omega
        · have := hq _ k; omega
    have est : s = t := by cases s; cases t; simp_all
    subst est
    congr 1
    refine ok_ext (by omega) (by omega) h1.2.2.2 h2.2.2.2 fun i hi => ?_
    rw [Bool.eq_iff_iff]
    constructor
    · intro hm
      have h3 := hr i hm
      rcases (key i hi).1 (.inr hm) with k | k
      · omega
      · exact k
    · intro hm
      have h3 := hq i hm
      rcases (key i hi).2 (.inr hm) with k | k
      · omega
      · exact k
theorem segsOf_mem {l : List Seg} (h : ok l = true) : segsOf (mem l) = l := ok_ext (Int.le_refl 0) (Int.le_refl 0) (segsOf_ok _) h fun i hi => mem_segsOf hi
theorem Made.up {l : List Seg} {n m : Nat} (h : Made l n) (hm : n ≤ m) : Made l m := ⟨h.ok, by have := h.next; omega, by have := h.len; omega⟩
/-- The last of segments that may be. -/
theorem Made.last {l : List Seg} {n : Nat} (h : Made l n) (h0 : 0 < l.length) : 0 ≤ (rd l ((l.length - 1 : Nat) : Int)).At ∧ 1 ≤ (rd l ((l.length - 1 : Nat) : Int)).Len ∧ (rd l ((l.length - 1 : Nat) : Int)).At + (rd l ((l.length - 1 : Nat) : Int)).Len ≤ 64 := by
  rw [rd_nat (by omega)]
  exact ok_elem (Int.le_refl 0) h.ok _ (List.getElem_mem _)
theorem push_t {l : List Seg} {n : Nat} (h0 : 0 < l.length) (h : (rd l ((l.length - 1 : Nat) : Int)).At + (rd l ((l.length - 1 : Nat) : Int)).Len = (n : Int)) : push l n = l.set (l.length - 1) ⟨(rd l ((l.length - 1 : Nat) : Int)).At, (rd l ((l.length - 1 : Nat) : Int)).Len + 1⟩ := by
  unfold push
  rw [if_pos ⟨by intro e; rw [e] at h0; simp at h0, h⟩]
theorem push_f {l : List Seg} {n : Nat} (h : 0 < l.length → ¬ (rd l ((l.length - 1 : Nat) : Int)).At + (rd l ((l.length - 1 : Nat) : Int)).Len = (n : Int)) : push l n = l ++ [⟨(n : Int), 1⟩] := by
  unfold push
  rw [if_neg]
  rintro ⟨h1, h2⟩
  exact h (List.length_pos_iff.2 h1) h2
theorem secFrom_len (b : Nat → Bool) (lo : Nat) : (secFrom lo b).length ≤ 64 := by
  unfold secFrom
  refine Nat.le_trans (List.length_filter_le _ _) ?_
  simp
theorem EqSegs_l0 {l m : List Seg} (hl : l.length < 4611686018427387904) (e : l.length = m.length) : ∀ (n i : Nat), i ≤ l.length → l.length - i < n → hermitageref0_EqSegs.l0 l m n i = some (decide (l.drop i = m.drop i))
  | 0, i, _, h => by omega
  | n + 1, i, hi, hn => by
    unfold hermitageref0_EqSegs.l0
    by_cases c : i < l.length
    · have c2 : i < m.length := by omega
      rw [if_pos (by omega), if_pos ⟨by omega, by omega⟩, if_pos ⟨by omega, by omega⟩, rd_nat c, rd_nat c2, List.drop_eq_getElem_cons c, List.drop_eq_getElem_cons c2]
      by_cases h : l[i] = m[i]
      · rw [if_pos h, w64_succ c hl, EqSegs_l0 hl e n (i + 1) (by omega) (by omega)]
        congr 1
        rw [decide_eq_decide, List.cons.injEq]
        exact ⟨fun hh => ⟨h, hh⟩, fun hh => hh.2⟩
      · rw [if_neg h]
        congr 1
        symm
        rw [decide_eq_false_iff_not, List.cons.injEq]
        exact fun hh => h hh.1
    · rw [if_neg (by omega), List.drop_eq_nil_of_le (by omega), List.drop_eq_nil_of_le (by omega)]
      simp
theorem EqSegs_eq {l m : List Seg} {k : Nat} (hl : l.length < 4611686018427387904) (hk : l.length < k) : hermitageref0_EqSegs.f k l m = some (decide (l = m)) := by
  unfold hermitageref0_EqSegs.f
  by_cases e : (l.length : Int) = (m.length : Int)
  · rw [if_pos e]
    exact EqSegs_l0 hl (by omega) k 0 (by omega) (by omega)
  · rw [if_neg e]
    have : ¬ l = m := fun h => e (by rw [h])
    simp [this]
/-! ### Joined -/
theorem Of_l0 {s : Nat → Bool} : ∀ (n i : Nat) (acc : List Seg), i ≤ 64 → 64 - i < n → Made acc i → hermitageref1_Of.l0 s n acc i = some ((secFrom i s).foldl push acc)
  | 0, i, acc, _, h, _ => by omega
  | n + 1, i, acc, hi, hn, hm => by
    unfold hermitageref1_Of.l0
    by_cases c : i < 64
    · rw [if_pos (by omega), if_pos ⟨by omega, by omega⟩, Int.toNat_natCast, secFrom_cons c]
      have hal := hm.len
      by_cases hs : s i = true
      · rw [if_pos hs, if_pos hs, List.foldl_cons]
        have hp := (hm.push c).1
        have next : hermitageref1_Of.l0 s n (push acc i) (w64 ((i : Int) + 1)) = some ((secFrom (i + 1) s).foldl push (push acc i)) := by
          rw [w64_succ c (by omega)]
          exact Of_l0 n (i + 1) _ (by omega) (by omega) hp
        by_cases h0 : (0 : Int) < (acc.length : Int)
        · have h0' : 0 < acc.length := by omega
          obtain ⟨l1, l2, l3⟩ := hm.last h0'
          have ew : w64 ((acc.length : Int) - 1) = ((acc.length - 1 : Nat) : Int) := w64_pred (n := acc.length) h0' (Nat.le_refl _) (by omega)
          rw [if_pos h0]
          simp only [ew]
          rw [if_pos ⟨by omega, by omega⟩, if_pos ⟨by omega, by omega⟩, w64_id (by omega) (by omega)]
          unfold hermitageref1_Of.j1
          simp only [ew]
          by_cases h1 : (rd acc ((acc.length - 1 : Nat) : Int)).At + (rd acc ((acc.length - 1 : Nat) : Int)).Len = (i : Int)
          · rw [beq_t h1, if_pos rfl, if_pos ⟨by omega, by omega⟩, if_pos ⟨by omega, by omega⟩, w64_id (by omega) (by omega), Int.toNat_natCast]
            unfold hermitageref1_Of.j0
            rw [← push_t h0' h1]
            exact next
          · rw [beq_f h1, if_neg (by decide), if_pos (by omega)]
            unfold hermitageref1_Of.j0
            rw [← push_f fun _ => h1]
            exact next
        · rw [if_neg h0]
          unfold hermitageref1_Of.j1
          rw [if_neg (by decide), if_pos (by omega)]
          unfold hermitageref1_Of.j0
          rw [← push_f fun h => by omega]
          exact next
      · rw [if_neg hs, if_neg hs]
        unfold hermitageref1_Of.j0
        rw [w64_succ c (by omega)]
        exact Of_l0 n (i + 1) _ (by omega) (by omega) (hm.up (by omega))
    · obtain rfl : i = 64 := by omega
      rw [if_neg (by omega)]
      rfl
theorem Of_eq {s : Nat → Bool} {k : Nat} (hk : 64 < k) : hermitageref1_Of.f k s = some (segsOf s) := Of_l0 k 0 [] (by omega) (by omega) Made.nil
theorem Copy_l0 {l : List Seg} (hl : l.length < 1125899906842624) : ∀ (n i : Nat), i ≤ l.length → l.length - i < n → (l.length + 1) * 16 ≤ 140737488355328 → hermitageref0_CopySegs.l0 l n (l.take i) i = some l
  | 0, i, _, h, _ => by omega
  | n + 1, i, hi, hn, hb => by
    unfold hermitageref0_CopySegs.l0
    by_cases c : i < l.length
    · have e : l.take i ++ [l[i]] = l.take (i + 1) := (List.take_succ_eq_append_getElem c).symm
      rw [if_pos (by omega), if_pos ⟨by omega, by omega⟩, rd_nat c, if_pos (by rw [List.length_take]; omega), e, w64_succ c (by omega)]
      exact Copy_l0 hl n (i + 1) (by omega) (by omega) hb
    · rw [if_neg (by omega), List.take_of_length_le (by omega)]
theorem Copy_eq {l : List Seg} {k : Nat} (hl : l.length ≤ 500) (hk : l.length < k) : hermitageref0_CopySegs.f k l = some l := Copy_l0 (by omega) k 0 (by omega) (by omega) (by omega)
theorem Set_l1 {l : List Seg} {i : Nat} (c : i < l.length) (hs : 0 ≤ l[i].At ∧ 1 ≤ l[i].Len ∧ l[i].At + l[i].Len ≤ 64) (re : Int → (Nat → Bool) → Option (Nat → Bool)) : ∀ (n j : Nat) (s : Nat → Bool), l[i].At ≤ (j : Int) → (j : Int) ≤ l[i].At + l[i].Len → (l[i].At + l[i].Len - (j : Int)).toNat < n →
    ∃ s', hermitageref1_Set.l1 l i re n j s = re (w64 ((i : Int) + 1)) s' ∧ ∀ t : Nat, s' t = (s t || (decide ((j : Int) ≤ (t : Int)) && decide ((t : Int) < l[i].At + l[i].Len)))
  | 0, j, s, _, _, h => by omega
  | n + 1, j, s, h1, h2, hn => by
    unfold hermitageref1_Set.l1
    rw [if_pos ⟨by omega, by omega⟩, if_pos ⟨by omega, by omega⟩, rd_nat c, w64_id (by omega) (by omega)]
    by_cases hj : (j : Int) < l[i].At + l[i].Len
    · rw [if_pos hj, if_pos ⟨by omega, by omega⟩, Int.toNat_natCast, w64_succ (show j < 64 by omega) (by omega)]
      obtain ⟨s', e, hs'⟩ := Set_l1 c hs re n (j + 1) (updF s j true) (by omega) (by omega) (by omega)
      refine ⟨s', e, fun t => ?_⟩
      rw [hs' t]
      unfold updF
      by_cases ht : t = j
      · subst ht
        have : (t : Int) < l[i].At + l[i].Len := hj
        simp [this]
      · rw [if_neg ht]
        congr 1
        rw [Bool.eq_iff_iff]
        simp
        omega
    · rw [if_neg hj]
      refine ⟨s, rfl, fun t => ?_⟩
      have : (decide ((j : Int) ≤ (t : Int)) && decide ((t : Int) < l[i].At + l[i].Len)) = false := by
        rw [Bool.eq_false_iff]
        simp
        omega
      rw [this, Bool.or_false]
theorem Set_l0 {l : List Seg} {k : Nat} (hk : 1000 < k) (hl : l.length ≤ 500) (hel : ∀ s ∈ l, 0 ≤ s.At ∧ 1 ≤ s.Len ∧ s.At + s.Len ≤ 64) : ∀ (n i : Nat) (s : Nat → Bool), i ≤ l.length → l.length - i < n → ∃ s', hermitageref1_Set.l0 l k n i s = some s' ∧ ∀ t, s' t = (s t || mem (l.drop i) t)
  | 0, i, s, _, h => by omega
  | n + 1, i, s, hi, hn => by
    unfold hermitageref1_Set.l0
    by_cases c : i < l.length
    · have h0 := hel l[i] (List.getElem_mem c)
      rw [if_pos (by omega), if_pos ⟨by omega, by omega⟩, rd_nat c]
      obtain ⟨a, ha⟩ := Int.eq_ofNat_of_zero_le h0.1
      obtain ⟨s1, e1, hs1⟩ := Set_l1 c h0 (hermitageref1_Set.l0 l k n) k a s (by omega) (by omega) (by omega)
      rw [ha, e1, w64_succ c (by omega)]
      obtain ⟨s2, e2, hs2⟩ := Set_l0 hk hl hel n (i + 1) s1 (by omega) (by omega)
      refine ⟨s2, e2, fun t => ?_⟩
      rw [hs2, hs1, List.drop_eq_getElem_cons c]
      simp only [mem, Bool.or_assoc, ha]
    · rw [if_neg (by omega), List.drop_eq_nil_of_le (by omega)]
      exact ⟨s, rfl, fun t => by simp [mem]⟩
theorem Set_eq {l : List Seg} {k : Nat} (hk : 1000 < k) (hl : l.length ≤ 500) (h : ok l = true) : hermitageref1_Set.f k l = some (mem l) := by
  obtain ⟨s, e, hs⟩ := Set_l0 hk hl (ok_elem (Int.le_refl 0) h) k 0 (fun _ => false) (by omega) (by omega)
  unfold hermitageref1_Set.f
  have : s = mem l := by funext t; rw [hs]; simp
  rw [← this]
  exact e
/-- What the page's choice of two sets is. -/
def pick2 (kind : Int) (a b : Bool) : Bool := if kind = 0 then a || b else if kind = 1 then a && !b else a && b
theorem Two_l0 {kind : Int} {k : Nat} (hk : 64 < k) {a b : Nat → Bool} : ∀ (n i : Nat) (s : Nat → Bool), i ≤ 64 → 64 - i < n → (∀ j, j < i → s j = pick2 kind (a j) (b j)) → hermitageref1_Two.l0 kind k a b n i s = some (segsOf fun j => pick2 kind (a j) (b j))
  | 0, i, s, _, h, _ => by omega
  | n + 1, i, s, hi, hn, hs => by
    unfold hermitageref1_Two.l0
    by_cases c : i < 64
    · have g : (0 : Int) ≤ (i : Int) ∧ (i : Int) < 64 := ⟨by omega, by omega⟩
      have next : ∀ v, v = pick2 kind (a i) (b i) → hermitageref1_Two.j0 (i : Int) (hermitageref1_Two.l0 kind k a b n) (updF s i v) = some (segsOf fun j => pick2 kind (a j) (b j)) := fun v hv => by
        unfold hermitageref1_Two.j0
        rw [w64_succ c (by omega)]
        refine Two_l0 hk n (i + 1) _ (by omega) (by omega) fun j hj => ?_
        unfold updF
        by_cases e : j = i
        · subst e; rw [if_pos rfl, hv]
        · rw [if_neg e]; exact hs j (by omega)
      rw [if_pos (by omega)]
      simp only [if_pos g, Int.toNat_natCast]
      by_cases k0 : kind = 0
      · rw [if_pos k0]
        cases ha : a i with
        | true => rw [if_pos rfl]; exact next _ (by simp [pick2, k0, ha])
        | false => rw [if_neg (by decide)]; exact next _ (by simp [pick2, k0, ha])
      · rw [if_neg k0]
        by_cases k1 : kind = 1
        · rw [if_pos k1]
          cases ha : a i with
          | true => rw [if_pos rfl]; exact next _ (by simp [pick2, k1, ha])
          | false => rw [if_neg (by decide)]; exact next _ (by simp [pick2, k1, ha])
        · rw [if_neg k1]
          cases ha : a i with
          | true => rw [if_pos rfl]; exact next _ (by simp [pick2, k0, k1, ha])
          | false => rw [if_neg (by decide)]; exact next _ (by simp [pick2, k0, k1, ha])
    · obtain rfl : i = 64 := by omega
      rw [if_neg (by omega), Of_eq hk]
      simp only [Option.bind_some]
      rw [segsOf_congr hs]
theorem Two_eq {l m : List Seg} {k : Nat} {kind : Int} (hk : 1000 < k) (hl : l.length ≤ 500) (hm : m.length ≤ 500) (h1 : ok l = true) (h2 : ok m = true) : hermitageref1_Two.f k l m kind = some (segsOf fun j => pick2 kind (mem l j) (mem m j)) := by
  unfold hermitageref1_Two.f
  rw [Set_eq hk hl h1, Set_eq hk hm h2]
  exact Two_l0 (by omega) k 0 _ (by omega) (by omega) fun j hj => by omega
end Go.Proofs.Ytnaajldlloglkaa.W.S
