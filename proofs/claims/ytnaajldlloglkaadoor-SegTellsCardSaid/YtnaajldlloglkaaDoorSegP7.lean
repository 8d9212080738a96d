/- Plain facts: the page's set of segments, of two. -/
import Derived.Test.YtnaajldlloglkaaDoorSegP6
set_option linter.unusedVariables false
set_option linter.unusedSimpArgs false
namespace Go.Proofs.YtnaajldlloglkaaDoor.W
open Go.H
theorem Set_l1 {l : List Seg} {i : Nat} (c : i < l.length) (hs : 0 ≤ l[i].At ∧ 1 ≤ l[i].Len ∧ l[i].At + l[i].Len ≤ 64) (re : Int → (Nat → Bool) → Option (Nat → Bool)) : ∀ (n j : Nat) (s : Nat → Bool), l[i].At ≤ (j : Int) → (j : Int) ≤ l[i].At + l[i].Len → (l[i].At + l[i].Len - (j : Int)).toNat < n →
    ∃ s', hermitageref1_Set.l1 l i re n j s = re (w64 ((i : Int) + 1)) s' ∧ ∀ t : Nat, s' t = (s t || (decide ((j : Int) ≤ (t : Int)) && decide ((t : Int) < l[i].At + l[i].Len)))
  | 0, j, s, _, _, h => by omega
  | n + 1, j, s, h1, h2, hn => by
    unfold hermitageref1_Set.l1
    rw [if_pos ⟨by omega, by omega⟩, if_pos ⟨by omega, by omega⟩, rd_nat c, w64_id (by omega) (by omega)]
    by_cases hj : (j : Int) < l[i].At + l[i].Len
    · rw [if_pos hj, if_pos ⟨by omega, by omega⟩, Int.toNat_natCast, w64_succ (show j < 64 by omega) (by omega)]
      obtain ⟨s', e, hs'⟩ := Set_l1 c hs re n (j + 1) (updF s j true) (by omega) (by omega) (by omega)
      refine ⟨s', e, fun t => ?_⟩
      rw [hs' t]
      unfold updF
      by_cases ht : t = j
      · subst ht
        have : (t : Int) < l[i].At + l[i].Len := hj
        simp [this]
      · rw [if_neg ht]
        congr 1
        rw [Bool.eq_iff_iff]
        simp
        omega
    · rw [if_neg hj]
      refine ⟨s, rfl, fun t => ?_⟩
      have : (decide ((j : Int) ≤ (t : Int)) && decide ((t : Int) < l[i].At + l[i].Len)) = false := by
        rw [Bool.eq_false_iff]
        simp
        omega
      rw [this, Bool.or_false]
theorem Set_l0 {l : List Seg} {k : Nat} (hk : 1000 < k) (hl : l.length ≤ 500) (hel : ∀ s ∈ l, 0 ≤ s.At ∧ 1 ≤ s.Len ∧ s.At + s.Len ≤ 64) : ∀ (n i : Nat) (s : Nat → Bool), i ≤ l.length → l.length - i < n → ∃ s', hermitageref1_Set.l0 l k n i s = some s' ∧ ∀ t, s' t = (s t || mem (l.drop i) t)
  | 0, i, s, _, h => by omega
  | n + 1, i, s, hi, hn => by
    unfold hermitageref1_Set.l0
    by_cases c : i < l.length
    · have h0 := hel l[i] (List.getElem_mem c)
      rw [if_pos (by omega), if_pos ⟨by omega, by omega⟩, rd_nat c]
      obtain ⟨a, ha⟩ := Int.eq_ofNat_of_zero_le h0.1
      obtain ⟨s1, e1, hs1⟩ := Set_l1 c h0 (hermitageref1_Set.l0 l k n) k a s (by omega) (by omega) (by omega)
      rw [ha, e1, w64_succ c (by omega)]
      obtain ⟨s2, e2, hs2⟩ := Set_l0 hk hl hel n (i + 1) s1 (by omega) (by omega)
      refine ⟨s2, e2, fun t => ?_⟩
      rw [hs2, hs1, List.drop_eq_getElem_cons c]
      simp only [mem, Bool.or_assoc, ha]
    · rw [if_neg (by omega), List.drop_eq_nil_of_le (by omega)]
      exact ⟨s, rfl, fun t => by simp [mem]⟩
theorem Set_eq {l : List Seg} {k : Nat} (hk : 1000 < k) (hl : l.length ≤ 500) (h : ok l = true) : hermitageref1_Set.f k l = some (mem l) := by
  obtain ⟨s, e, hs⟩ := Set_l0 hk hl (ok_elem (Int.le_refl 0) h) k 0 (fun _ => false) (by omega) (by omega)
  unfold hermitageref1_Set.f
  have : s = mem l := by funext t; rw [hs]; simp
  rw [← this]
  exact e
/-- What the page's choice of two sets is. -/
def pick2 (kind : Int) (a b : Bool) : Bool := if kind = 0 then a || b else if kind = 1 then a && !b else a && b
theorem Two_l0 {kind : Int} {k : Nat} (hk : 64 < k) {a b : Nat → Bool} : ∀ (n i : Nat) (s : Nat → Bool), i ≤ 64 → 64 - i < n → (∀ j, j < i → s j = pick2 kind (a j) (b j)) → hermitageref1_Two.l0 kind k a b n i s = some (segsOf fun j => pick2 kind (a j) (b j))
  | 0, i, s, _, h, _ => by omega
  | n + 1, i, s, hi, hn, hs => by
    unfold hermitageref1_Two.l0
    by_cases c : i < 64
    · have g : (0 : Int) ≤ (i : Int) ∧ (i : Int) < 64 := ⟨by omega, by omega⟩
      have next : ∀ v, v = pick2 kind (a i) (b i) → hermitageref1_Two.j0 (i : Int) (hermitageref1_Two.l0 kind k a b n) (updF s i v) = some (segsOf fun j => pick2 kind (a j) (b j)) := fun v hv => by
        unfold hermitageref1_Two.j0
        rw [w64_succ c (by omega)]
        refine Two_l0 hk n (i + 1) _ (by omega) (by omega) fun j hj => ?_
        unfold updF
        by_cases e : j = i
        · subst e; rw [if_pos rfl, hv]
        · rw [if_neg e]; exact hs j (by omega)
      rw [if_pos (by omega)]
      simp only [if_pos g, Int.toNat_natCast]
      by_cases k0 : kind = 0
      · rw [if_pos k0]
        cases ha : a i with
        | true => rw [if_pos rfl]; exact next _ (by simp [pick2, k0, ha])
        | false => rw [if_neg (by decide)]; exact next _ (by simp [pick2, k0, ha])
      · rw [if_neg k0]
        by_cases k1 : kind = 1
        · rw [if_pos k1]
          cases ha : a i with
          | true => rw [if_pos rfl]; exact next _ (by simp [pick2, k1, ha])
          | false => rw [if_neg (by decide)]; exact next _ (by simp [pick2, k1, ha])
        · rw [if_neg k1]
          cases ha : a i with
          | true => rw [if_pos rfl]; exact next _ (by simp [pick2, k0, k1, ha])
          | false => rw [if_neg (by decide)]; exact next _ (by simp [pick2, k0, k1, ha])
    · obtain rfl : i = 64 := by omega
      rw [if_neg (by omega), Of_eq hk]
      simp only [Option.bind_some]
      rw [segsOf_congr hs]
theorem Two_eq {l m : List Seg} {k : Nat} {kind : Int} (hk : 1000 < k) (hl : l.length ≤ 500) (hm : m.length ≤ 500) (h1 : ok l = true) (h2 : ok m = true) : hermitageref1_Two.f k l m kind = some (segsOf fun j => pick2 kind (mem l j) (mem m j)) := by
  unfold hermitageref1_Two.f
  rw [Set_eq hk hl h1, Set_eq hk hm h2]
  exact Two_l0 (by omega) k 0 _ (by omega) (by omega) fun j hj => by omega
end Go.Proofs.YtnaajldlloglkaaDoor.W
