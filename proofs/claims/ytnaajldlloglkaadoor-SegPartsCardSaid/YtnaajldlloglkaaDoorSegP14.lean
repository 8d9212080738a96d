/- The plain law of SegParts. -/
import Derived.Test.YtnaajldlloglkaaDoorSegP13
set_option linter.unusedVariables false
set_option linter.unusedSimpArgs false
namespace Go.Proofs.YtnaajldlloglkaaDoor.W
open Go.H
section
variable {p : hermitagelaw1Ask} {k : Nat} {i : Nat}
theorem Parts_j2 (hk : 1000 < k) (ci : i + 1 < p.L.length) (hp : p.L.length ≤ 500) (hel : ∀ l ∈ p.L, l.length ≤ 500) (h1 : ok (p.L[i]'(by omega)) = true) (h2 : ok p.L[i + 1] = true) (re0 : Int → Option Bool) : hermitagelaw1_SegParts.j2 p k i re0 false = re0 (w64 ((i : Int) + 1)) := by
  have ci0 : i < p.L.length := by omega
  have ha := hel p.L[i] (List.getElem_mem ci0)
  have hb := hel p.L[i + 1] (List.getElem_mem ci)
  unfold hermitagelaw1_SegParts.j2
  rw [if_neg (by decide), w64_succ ci0 (by omega), rd_nat ci0, rd_nat ci]
  generalize p.L[i] = a at *
  generalize p.L[i + 1] = b at *
  have hab : (ok a && ok b) = true := by rw [h1, h2]; rfl
  rw [Less_eq hk ha hb, Both_eq hk ha hb, if_pos hab, if_pos hab]
  simp only [Option.bind_some]
  have hxl := segsOf_len fun i => mem a i && !mem b i
  have hxo := segsOf_ok fun i => mem a i && !mem b i
  have hxm : ∀ t, t < 64 → mem (segsOf fun i => mem a i && !mem b i) t = (mem a t && !mem b t) := fun t ht => mem_segsOf ht
  generalize (segsOf fun i => mem a i && !mem b i) = x at *
  have hyl := segsOf_len fun i => mem a i && mem b i
  have hyo := segsOf_ok fun i => mem a i && mem b i
  have hym : ∀ t, t < 64 → mem (segsOf fun i => mem a i && mem b i) t = (mem a t && mem b t) := fun t ht => mem_segsOf ht
  generalize (segsOf fun i => mem a i && mem b i) = y at *
  rw [Join_eq (by simp) (by simp; omega) (by omega) (fun l hl => by
    simp only [List.mem_cons, List.not_mem_nil, or_false] at hl
    rcases hl with rfl | rfl <;> omega), if_pos (by simp [okAllL, hxo, hyo])]
  simp only [Option.bind_some]
  have ew : segsOf (memAll [y, x]) = a := by
    refine Eq.trans ?_ (segsOf_mem h1)
    refine segsOf_congr fun t ht => ?_
    simp only [memAll, Bool.or_false]
    rw [hxm t ht, hym t ht]
    cases mem a t <;> cases mem b t <;> rfl
  rw [ew, Both_eq hk (by omega) hb, if_pos (by rw [hxo, h2]; rfl)]
  simp only [Option.bind_some]
  have eu : (segsOf fun i => mem x i && mem b i) = [] := by
    rw [← segsOf_none]
    refine segsOf_congr fun t ht => ?_
    rw [hxm t ht]
    cases mem b t <;> simp
  have hsl := secFrom_len (mem a) 0
  rw [eu, segList_eq hk ha, if_pos h1]
  simp only [Option.bind_some]
  rw [segOf_eq (by rw [List.length_map]; omega) hk, if_pos sec_in]
  simp only [Option.bind_some]
  have et : (segsOf fun t => decide ((t : Int) ∈ (secFrom 0 (mem a)).map fun (i : Nat) => (i : Int))) = a := by
    rw [segsOf_congr fun t ht => mem_sec (b := mem a) ht, segsOf_mem h1]
  rw [et, segCount_eq hk (by omega), segCount_eq hk (by omega), if_pos hxo, if_pos hyo]
  simp only [Option.bind_some, hermitagelaw1_num.f]
  have hc : (secFrom 0 (mem x)).length + (secFrom 0 (mem y)).length = (secFrom 0 (mem a)).length := by
    rw [secFrom_congr 64 0 rfl fun t _ ht => hxm t ht, secFrom_congr 64 0 rfl fun t _ ht => hym t ht]
    exact sec_split 0
  have hcx := secFrom_len (mem x) 0
  have hcy := secFrom_len (mem y) 0
  rw [if_pos (by decide), EqSegs_eq (by omega) (by omega)]
  simp only [Option.bind_some, decide_true, if_true, List.length_nil]
  rw [if_neg (by decide), List.length_map, w64_id (by omega) (by omega), bne_f (by omega)]
  unfold hermitagelaw1_SegParts.j3
  rw [if_neg (by decide)]
  unfold hermitagelaw1_SegParts.j1
  rw [w64_succ ci0 (by omega)]
theorem Parts_end (hk : 1000 < k) (re0 : Int → Option Bool) (it : Int) : hermitagelaw1_SegParts.j0 p k it re0 false = some true := by
  unfold hermitagelaw1_SegParts.j0
  rw [if_neg (by decide), wakes_eq (by omega)]
  rfl
theorem Parts_l0 (hk : 1000 < k) (hp : p.L.length ≤ 500) (hel : ∀ l ∈ p.L, l.length ≤ 500) : ∀ (n i : Nat), i ≤ p.L.length → p.L.length - i < n → hermitagelaw1_SegParts.l0 p k n i = some true
  | 0, i, _, h => by omega
  | n + 1, i, hi, hn => by
    unfold hermitagelaw1_SegParts.l0
    have ew : w64 ((i : Int) + 1) = ((i + 1 : Nat) : Int) := w64_succ (n := 501) (by omega) (by omega)
    by_cases c : i + 1 < p.L.length
    · have ci0 : i < p.L.length := by omega
      have ha := hel p.L[i] (List.getElem_mem ci0)
      have hb := hel p.L[i + 1] (List.getElem_mem c)
      rw [ew, if_pos (by omega)]
      by_cases h5 : (i : Int) < 5
      · rw [decide_eq_true h5]
        have next : hermitagelaw1_SegParts.l0 p k n (w64 ((i : Int) + 1)) = some true := by
          rw [ew]
          exact Parts_l0 hk hp hel n (i + 1) (by omega) (by omega)
        unfold hermitagelaw1_SegParts.j0
        rw [if_pos rfl, ew, if_pos ⟨by omega, by omega⟩, if_pos ⟨by omega, by omega⟩, rd_nat ci0, rd_nat c, Check_eq ha hk, Check_eq hb hk]
        simp only [Option.bind_some, hermitagelaw1_num.f]
        cases h1 : ok p.L[i] with
        | false => exact next
        | true =>
          cases h2 : ok p.L[i + 1] with
          | false => exact next
          | true => exact (Parts_j2 hk c hp hel h1 h2 _).trans next
      · rw [decide_eq_false h5]; exact Parts_end hk _ _
    · rw [ew, if_neg (by omega)]; exact Parts_end hk _ _
end
theorem SegParts_true {p : hermitagelaw1Ask} (hs : Sized p) : ∃ k, hermitagelaw1_SegParts.f k p = some true := by
  refine ⟨p.L.length + 1001, ?_⟩
  unfold hermitagelaw1_SegParts.f
  obtain ⟨h, e, hh⟩ := Heavy_eq (k := p.L.length + 1001) hs (by omega)
  rw [e]
  simp only [Option.bind_some]
  cases h with
  | true => rw [if_pos rfl]
  | false =>
    rw [if_neg (by decide)]
    obtain ⟨h1, h2, h3⟩ := hh rfl
    exact Parts_l0 (by omega) h1 h3 _ 0 (by omega) (by omega)
end Go.Proofs.YtnaajldlloglkaaDoor.W
