/- The plain law of TableBack. -/
import Derived.Test.YtnaajldlloglkaaTabP7
set_option linter.unusedVariables false
set_option linter.unusedSimpArgs false
namespace Go.Proofs.Ytnaajldlloglkaa.W
open Go.H
theorem rd_set {α : Type} [Inhabited α] {l : List α} {i s : Nat} {v : α} (hi : i < l.length) (hs : s < l.length) : rd (l.set i v) (s : Int) = if s = i then v else rd l (s : Int) := by
  rw [rd_nat (by rw [List.length_set]; exact hs), rd_nat hs, List.getElem_set]
  by_cases h : s = i
  · rw [if_pos h.symm, if_pos h]
  · rw [if_neg (fun e => h e.symm), if_neg h]
/-- What was laid: where each sector lies, and which sectors are laid. -/
structure Laid (S : Nat) (L : List Entry) (P : List Ptr) (B : List Bool) : Prop where
  ok : tabOk' ⟨1, (S : Int), L⟩ = true
  fresh : ∀ x ∈ L, x.Stale = 0
  len : L.length ≤ 64
  pl : P.length = S
  bl : B.length = S
  look : ∀ s : Nat, s < S → lookL L (s : Int) = if rd B (s : Int) = true then some (rd P (s : Int)) else none
section
variable {k S : Nat} {L : List Entry} {P : List Ptr} {B : List Bool}
theorem Laid.tab (h : Laid S L P B) : tabFrom 1 (S : Int) 0 L = true := (tabOk_iff.1 h.ok).2
theorem Laid.size (h : Laid S L P B) : S ≤ 64 := by have := (tabOk_iff.1 h.ok).1; simp only at this; omega
theorem Laid.all (h : Laid S L P B) : ∀ x ∈ L, EntOk 1 (S : Int) x := tab_elem h.tab
theorem stL_len {s : Int} : (stL s L).length = L.length := by simp [stL]
theorem Laid.st (h : Laid S L P B) (s : Int) : tabOk' ⟨1, (S : Int), stL s L⟩ = true := by
  have h1 := tabOk_iff.1 h.ok
  rw [tabOk_iff]
  exact ⟨h1.1, tabFrom_st h1.2⟩
theorem Back_l2 (hk : 1000 < k) (h : Laid S L P B) {s j : Nat} (hs : s < S) (hj : j < L.length) (hin : inE L[j] (s : Int)) (e : Int) (re4 : Int → Int → Int → Int → List Entry → Option Bool) : ∀ (n a : Nat), a ≤ j → j - a < n → hermitagelaw8_TableBack.l2 k (L, 0) s 1 S (stL s L) (atE L[j] s, e) re4 n a = re4 j (w64 ((s : Int) + 1)) 1 S (stL ((s : Int) + 1) L)
  | 0, a, _, hh => by omega
  | n + 1, a, ha, hn => by
    have hS := h.size
    have hLl := h.len
    have ca : a < L.length := by omega
    have hxa := h.all _ (List.getElem_mem ca)
    have hxj := h.all _ (List.getElem_mem hj)
    unfold EntOk at hxa hxj
    have g : (0 : Int) ≤ (a : Int) ∧ (a : Int) < (L.length : Int) := ⟨by omega, by omega⟩
    unfold hermitagelaw8_TableBack.l2
    rw [if_pos (by simp only; omega), if_pos g, if_pos g]
    simp only
    rw [rd_nat ca, w64_id (x := L[a].From + L[a].Len) (by omega) (by omega)]
    have hap := tab_apart hj h.tab hin a ca
    unfold inE at hin
    by_cases c : a < j
    · have := hap.1 c
      rw [decide_eq_true this]
      unfold hermitagelaw8_TableBack.j5
      rw [if_pos rfl, w64_succ ca (by omega)]
      exact Back_l2 hk h hs hj hin e re4 n (a + 1) (by omega) (by omega)
    · obtain rfl : a = j := by omega
      rw [decide_eq_false (by omega)]
      unfold hermitagelaw8_TableBack.j5
      simp only [Bool.false_eq_true, if_false, if_pos g]
      rw [if_neg (by omega), rd_nat ca, if_neg (by omega), w64_id (x := L[a].To + (s : Int)) (by omega) (by omega), w64_id (x := L[a].To + (s : Int) - L[a].From) (by omega) (by omega)]
      have e1 : (!(decide (atE L[a] (s : Int) = (⟨L[a].Dev, L[a].To + (s : Int) - L[a].From⟩ : Ptr)))) = false := by
        rw [show (⟨L[a].Dev, L[a].To + (s : Int) - L[a].From⟩ : Ptr) = atE L[a] (s : Int) from rfl]; simp
      rw [e1]
      unfold hermitagelaw8_TableBack.j6
      rw [if_neg (by decide), Lose_eq (by simp only [stL_len]; omega) hk, if_pos (h.st _)]
      have hfind : findE (stL (s : Int) L) (s : Int) 0 = (a : Int) := by
        rw [findE_st]
        rcases look_find (l := L) (s := (s : Int)) (i := 0) (by omega) with ⟨e1, e2⟩ | ⟨b, e1, hb, h2, e2⟩
        · exfalso
          have : ∃ q, lookL L (s : Int) = some q := by
            cases hq : lookL L (s : Int) with
            | some q => exact ⟨q, rfl⟩
            | none =>
              exfalso
              have hno : ∀ {l : List Entry}, lookL l (s : Int) = none → ∀ x ∈ l, ¬ inE x (s : Int) := by
                intro l
                induction l with
                | nil => intro _ x hx; simp at hx
                | cons y r ih =>
                  intro hl x hx
                  unfold lookL at hl
                  by_cases hc : inE y (s : Int)
                  · rw [if_pos hc] at hl; cases hl
                  · rw [if_neg hc] at hl
                    rcases List.mem_cons.1 hx with rfl | hx
                    · exact hc
                    · exact ih hl x hx
              exact hno hq _ (List.getElem_mem ca) hin
          obtain ⟨q, hq⟩ := this
          rw [hq] at e2
          cases e2
        · have hab := tab_apart ca h.tab hin b hb
          unfold inE at h2
          have : b = a := by
            rcases Nat.lt_trichotomy b a with h' | h' | h'
            · have := hab.1 h'; omega
            · exact h'
            · have := hab.2 h'; omega
          rw [e1, this]
          omega
      have hrd : rd (stL (s : Int) L) (a : Int) = stE (s : Int) L[a] := by rw [rd_nat (by rw [stL_len]; exact ca), stL_get _ ca]
      have hlose : loseT ⟨1, (S : Int), stL (s : Int) L⟩ (s : Int) = (⟨1, (S : Int), stL ((s : Int) + 1) L⟩, 0) := by
        unfold loseT
        simp only [hfind, hrd]
        rw [if_neg (by omega), if_neg (by unfold stE; simp only; omega), Int.toNat_natCast, stL_lose ca h.tab hin]
      rw [hlose]
      simp only [Option.bind_some, hermitagelaw8_num.f, if_true]
      rfl
theorem Back_l1 (hk : 1000 < k) (h : Laid S L P B) {v : Int} (hv : w64 (1 + v) = (S : Int)) : ∀ (n s a : Nat), s ≤ S → S - s < n → (∀ (i : Nat) (hi : i < L.length), i < a → L[i].From + L[i].Len ≤ (s : Int)) → hermitagelaw8_TableBack.l1 k v P B (L, 0) n a s 1 S (stL s L) = some true
  | 0, s, a, _, hh, _ => by omega
  | n + 1, s, a, hs, hn, ha => by
    have hS := h.size
    have hLl := h.len
    have hpl := h.pl
    have hbl := h.bl
    have ht := (tabOk_iff.1 h.ok).1
    simp only at ht
    unfold hermitagelaw8_TableBack.l1
    rw [hv]
    by_cases c : s < S
    · have gB : (0 : Int) ≤ (s : Int) ∧ (s : Int) < (B.length : Int) := ⟨by omega, by omega⟩
      have gP : (0 : Int) ≤ (s : Int) ∧ (s : Int) < (P.length : Int) := ⟨by omega, by omega⟩
      rw [if_pos (by omega), Look_eq (by simp only [stL_len]; omega) hk, if_pos (h.st _), lookT_L]
      simp only [lookL_st, Option.bind_some, if_pos gB, if_pos gP, hermitagelaw8_num.f]
      have hl := h.look s c
      by_cases hb : rd B (s : Int) = true
      · rw [if_pos hb] at hl
        rw [hl, hb]
        simp only [BEq.rfl, if_true, decide_true, Bool.not_true]
        unfold hermitagelaw8_TableBack.j4
        rw [if_neg (by decide), if_pos gB, if_pos hb]
        rcases look_find (l := L) (s := (s : Int)) (i := 0) (by omega) with ⟨_, e2⟩ | ⟨j, _, hj, h2, e2⟩
        · rw [hl] at e2; cases e2
        · rw [hl] at e2
          have e3 := Option.some.inj e2
          rw [e3]
          have haj : a ≤ j := by
            rcases Nat.lt_or_ge j a with h' | h'
            · have := ha j hj h'
              unfold inE at h2
              omega
            · exact h'
          refine (Back_l2 hk h c hj h2 _ _ k a haj (by omega)).trans ?_
          rw [w64_succ c (by omega)]
          have := Back_l1 hk h hv n (s + 1) j (by omega) (by omega) fun i hi hij => by
            have := (tab_apart hj h.tab h2 i hi).1 hij
            omega
          exact this
      · have hb' : rd B (s : Int) = false := by simpa using hb
        rw [if_neg hb] at hl
        rw [hl, hb']
        have e1 : (((3 : Int) == 0) == false) = true := by decide
        simp only [e1, if_true, Bool.false_eq_true, if_false]
        unfold hermitagelaw8_TableBack.j4
        rw [if_neg (by decide), if_pos gB, if_neg hb]
        unfold hermitagelaw8_TableBack.j3
        rw [w64_succ c (by omega), ← stL_skip h.all hl]
        exact Back_l1 hk h hv n (s + 1) a (by omega) (by omega) fun i hi hia => by
          have := ha i hi hia
          omega
    · obtain rfl : s = S := by omega
      rw [if_neg (by omega), Tidy_eq (by simp only [stL_len]; omega) hk, if_pos (h.st _), Live_eq (by simp only [stL_len]; omega) hk, if_pos (h.st _)]
      have hend : ∀ x ∈ L, (stE (s : Int) x).Stale = (stE (s : Int) x).Len := fun x hx => by
        have := h.all x hx
        unfold EntOk at this
        unfold stE
        simp only
        omega
      have e1 : (stL (s : Int) L).filter keep = [] := by
        rw [List.filter_eq_nil_iff]
        intro y hy
        unfold stL at hy
        obtain ⟨x, hx, rfl⟩ := List.mem_map.1 hy
        rw [keep_f (beq_iff_eq.2 (hend x hx))]
        decide
      have e2 : ∀ l : List Entry, (∀ x ∈ l, (stE (s : Int) x).Stale = (stE (s : Int) x).Len) → liveL (stL (s : Int) l) = 0 := by
        intro l
        induction l with
        | nil => intro _; rfl
        | cons x r ih =>
          intro hh
          show ((stE (s : Int) x).Len - (stE (s : Int) x).Stale) + liveL (stL (s : Int) r) = 0
          rw [ih fun y hy => hh y (by simp [hy]), hh x (by simp)]
          omega
      simp only [Option.bind_some, hermitagelaw8_num.f, if_true, tidyT, e1, e2 L hend, List.length_nil]
      rw [if_pos (by rfl), refTable_eq (by simp) (by simp; omega)]
      have e3 : tabOk' ⟨1, (s : Int), []⟩ = true := by
        rw [tabOk_iff]
        exact ⟨ht, rfl⟩
      rw [e3]
      simp only [Option.bind_some, if_true]
      rw [wakes_eq hk]
      rfl
theorem Back_j0 (hk : 1000 < k) (h : Laid S L P B) {v : Int} (hv : w64 (1 + v) = (S : Int)) : hermitagelaw8_TableBack.j0 k v P B 1 S L = some true := by
  have hS := h.size
  have hLl := h.len
  unfold hermitagelaw8_TableBack.j0
  rw [hv, Range_eq (by simp only; omega) hk]
  have e1 : rangeOk ⟨1, (S : Int), L⟩ (S : Int) = true := by
    unfold rangeOk
    rw [h.ok, decide_eq_true (show (0 : Int) ≤ (S : Int) ∧ (S : Int) ≤ 64 by omega)]
    rfl
  rw [if_pos e1, range_all h.all h.fresh]
  simp only [Option.bind_some, hermitagelaw8_num.f, if_true]
  have := Back_l1 hk h hv k 0 0 (by omega) (by omega) fun i hi hh => by omega
  rw [show ((0 : Nat) : Int) = 0 from rfl, stL_zero h.all h.fresh] at this
  exact this
theorem Back_l0 {p : hermitagelaw8Script} (hk : 1000 < k) (hA : p.A.length ≤ 200) {v : Int} (hv : w64 (1 + v) = (S : Int)) : ∀ (n i m : Nat) (L : List Entry) (P : List Ptr) (B : List Bool), i ≤ p.A.length → p.A.length - i < n → Laid S L P B → endOf L ≤ (m : Int) → m ≤ S → L.length ≤ m → hermitagelaw8_TableBack.l0 p k v n P B m i 1 S L = some true
  | 0, i, m, L, P, B, _, hh, _, _, _, _ => by omega
  | n + 1, i, m, L, P, B, hi, hn, h, he, hm, hl => by
    have hS := h.size
    have hLl := h.len
    have hpl := h.pl
    have hbl := h.bl
    have ht := (tabOk_iff.1 h.ok).1
    simp only at ht
    have last : ∀ re, hermitagelaw8_TableBack.j1 p k v m i P B 1 S L re false = some true := fun re => by
      unfold hermitagelaw8_TableBack.j1
      rw [if_neg (by decide)]
      exact Back_j0 hk h hv
    unfold hermitagelaw8_TableBack.l0
    by_cases c : i < p.A.length
    · rw [if_pos (by omega), hv]
      by_cases cm : (m : Int) < (S : Int)
      · rw [decide_eq_true cm]
        unfold hermitagelaw8_TableBack.j1
        have g : (0 : Int) ≤ (i : Int) ∧ (i : Int) < (p.A.length : Int) := ⟨by omega, by omega⟩
        simp only [if_true, if_pos g]
        obtain ⟨w, ew, hw⟩ := Within_range (a := (rd p.A (i : Int)).M) (b := 3) (by omega) (by omega)
        rw [ew]
        simp only [Option.bind_some]
        have e1 : w64 ((m : Int) + (w : Int)) = ((m + w : Nat) : Int) := by rw [w64_id (by omega) (by omega)]; omega
        rw [hv, e1]
        by_cases cw : (S : Int) ≤ ((m + w : Nat) : Int)
        · rw [if_pos cw]
          exact Back_j0 hk h hv
        · rw [if_neg cw]
          obtain ⟨x, ex, hx⟩ := Within_range (a := (rd p.A (i : Int)).N) (b := 2) (by omega) (by omega)
          obtain ⟨y, ey, hy⟩ := Within_range (a := w64 (((m + w : Nat) : Int) + (w64 (((rd p.A (i : Int)).Do).tdiv 3)))) (b := 64) (by omega) (by omega)
          rw [ex, ey]
          simp only [Option.bind_some]
          have e2 : w64 (2 + (x : Int)) = ((2 + x : Nat) : Int) := by rw [w64_id (by omega) (by omega)]; omega
          rw [e2]
          unfold hermitagelaw8_TableBack.j2
          rw [e1, Add_eq (by simp only; omega) hk]
          have e3 : addOk ⟨1, (S : Int), L⟩ ((m + w : Nat) : Int) ⟨((2 + x : Nat) : Int), (y : Int)⟩ = true := by
            unfold addOk
            simp only [Bool.and_eq_true, decide_eq_true_eq]
            refine ⟨h.ok, by omega, by omega, ?_⟩
            unfold EntOk entNew
            simp only
            omega
          rw [if_pos e3]
          simp only [Option.bind_some, hermitagelaw8_num.f, if_true]
          rw [if_pos ⟨by omega, by omega⟩, if_pos ⟨by omega, by omega⟩, Int.toNat_natCast, w64_succ (n := 65) (by omega) (by omega), w64_succ c (by omega)]
          have hlen := putL_len (l := L) (n := ((m + w : Nat) : Int)) (p := ⟨((2 + x : Nat) : Int), (y : Int)⟩)
          refine Back_l0 hk hA hv n (i + 1) (m + w + 1) _ _ _ (by omega) (by omega) ?_ ?_ (by omega) (by omega)
          · refine ⟨tab_put e3, put_fresh h.fresh, by omega, by rw [List.length_set]; exact hpl, by rw [List.length_set]; exact hbl, fun s hs => ?_⟩
            rw [look_put h.tab (by omega), rd_set (by omega) (by omega), rd_set (by omega) (by omega)]
            by_cases cs : s = m + w
            · rw [if_pos (by omega), if_pos cs, if_pos cs, if_pos rfl]
            · rw [if_neg (by omega), if_neg cs, if_neg cs]
              exact h.look s hs
          · rw [endOf_put (by omega)]
            omega
      · rw [decide_eq_false cm]; exact last _
    · rw [if_neg (by omega)]; exact last _
end
theorem TableBack_true {p : hermitagelaw8Script} (hs : Sized p) : ∃ k, hermitagelaw8_TableBack.f k p = some true := by
  refine ⟨1001, ?_⟩
  unfold hermitagelaw8_TableBack.f
  rw [Heavy_eq]
  simp only [Option.bind_some]
  by_cases h : 300 < p.T.List_.length ∨ 200 < p.A.length
  · rw [decide_eq_true h, if_pos rfl]
  · rw [decide_eq_false h, if_neg (by decide)]
    obtain ⟨v, ev, hv⟩ := Within_range (a := p.T.Size) (b := 64) (by omega) (by omega)
    rw [ev]
    simp only [Option.bind_some]
    have e1 : w64 (1 + (v : Int)) = ((v + 1 : Nat) : Int) := by rw [w64_id (by omega) (by omega)]; omega
    rw [e1, if_pos ⟨by omega, by omega⟩, if_pos ⟨by omega, by omega⟩, Int.toNat_natCast]
    refine Back_l0 (S := v + 1) (by omega) (by omega) e1 1001 0 0 [] _ _ (by omega) (by omega) ⟨?_, by simp, by simp, by simp, by simp, fun s hs => ?_⟩ (by simp [endOf]) (by omega) (by simp)
    · rw [tabOk_iff]
      exact ⟨by simp only; omega, rfl⟩
    · have : rd (List.replicate (v + 1) false) (s : Int) = false := by
        rw [rd_nat (by simpa using hs), List.getElem_replicate]
      rw [this]
      rfl
end Go.Proofs.Ytnaajldlloglkaa.W
