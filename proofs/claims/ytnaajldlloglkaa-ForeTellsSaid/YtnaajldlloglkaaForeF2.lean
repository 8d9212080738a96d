/- Plain facts: marks on what names what; heights. No program in sight. -/
import Derived.Test.YtnaajldlloglkaaHN
set_option linter.unusedVariables false
set_option linter.unusedSimpArgs false
namespace Go.Proofs.Ytnaajldlloglkaa.W
open Go.H
open Classical
namespace M
noncomputable def cnt (P : Nat → Prop) : Nat → Nat
  | 0 => 0
  | n + 1 => if P n then cnt P n + 1 else cnt P n
theorem cnt_le (P : Nat → Prop) : ∀ n, cnt P n ≤ n
  | 0 => Nat.le_refl 0
  | n + 1 => by
    have := cnt_le P n
    unfold cnt
    split <;> omega
theorem cnt_mono {P Q : Nat → Prop} : ∀ n, (∀ i, i < n → P i → Q i) → cnt P n ≤ cnt Q n
  | 0, _ => Nat.le_refl 0
  | n + 1, h => by
    have := cnt_mono n fun i hi => h i (by omega)
    unfold cnt
    by_cases c : P n
    · rw [if_pos c, if_pos (h n (by omega) c)]; omega
    · rw [if_neg c]
      split <;> omega
theorem cnt_lt {P Q : Nat → Prop} : ∀ n, (∀ i, i < n → P i → Q i) → (∃ i, i < n ∧ ¬ P i ∧ Q i) → cnt P n < cnt Q n
  | 0, _, ⟨i, h, _⟩ => by omega
  | n + 1, h, ⟨i, hi, hp, hq⟩ => by
    have m := cnt_mono n fun i hi => h i (by omega)
    by_cases e : i = n
    · subst e
      unfold cnt
      rw [if_neg hp, if_pos hq]; omega
    · have := cnt_lt n (fun i hi => h i (by omega)) ⟨i, by omega, hp, hq⟩
      unfold cnt
      by_cases c : P n
      · rw [if_pos c, if_pos (h n (by omega) c)]; omega
      · rw [if_neg c]
        split <;> omega
theorem cnt_zero {P : Nat → Prop} : ∀ n, cnt P n = 0 → ∀ i, i < n → ¬ P i
  | 0, _, i, h => by omega
  | n + 1, e, i, h => by
    unfold cnt at e
    by_cases c : P n
    · rw [if_pos c] at e; omega
    · rw [if_neg c] at e
      by_cases d : i = n
      · rw [d]; exact c
      · exact cnt_zero n e i (by omega)
variable {N : Nat} {E : Nat → Nat → Prop} {B : Nat → Prop}
/-- Nothing leads back to itself, nothing names what is none's. -/
def Good (N : Nat) (E : Nat → Nat → Prop) (B : Nat → Prop) : Prop := ∃ rank : Nat → Nat, ∀ i, i < N → ¬ B i ∧ ∀ m, m < N → E i m → rank m < rank i
def Ready (N : Nat) (E : Nat → Nat → Prop) (B : Nat → Prop) (G : Nat → Bool) (i : Nat) : Prop := ¬ B i ∧ ∀ m, m < N → E i m → G m = true
noncomputable def step (N : Nat) (E : Nat → Nat → Prop) (B : Nat → Prop) (G : Nat → Bool) (i : Nat) : Nat → Bool := fun j => if j = i then G i || decide (Ready N E B G i) else G j
noncomputable def pass (N : Nat) (E : Nat → Nat → Prop) (B : Nat → Prop) (G : Nat → Bool) : Nat → Nat → Bool
  | 0 => G
  | i + 1 => step N E B (pass N E B G i) i
theorem step_mono {G : Nat → Bool} {i j : Nat} (h : G j = true) : step N E B G i j = true := by
  unfold step
  by_cases c : j = i
  · subst c; simp [h]
  · rw [if_neg c]; exact h
theorem step_ready {G : Nat → Bool} {i : Nat} (h : Ready N E B G i) : step N E B G i i = true := by
  unfold step
  rw [if_pos rfl, decide_eq_true h]
  simp
theorem step_not {G : Nat → Bool} {i : Nat} (h : ¬ Ready N E B G i) : step N E B G i i = G i := by
  unfold step
  rw [if_pos rfl, decide_eq_false h]
  simp
theorem pass_mono {G : Nat → Bool} {j : Nat} (h : G j = true) : ∀ i, pass N E B G i j = true
  | 0 => h
  | i + 1 => step_mono (pass_mono h i)
theorem pass_later {G : Nat → Bool} {j : Nat} : ∀ i, i ≤ j → pass N E B G i j = G j
  | 0, _ => rfl
  | i + 1, h => by
    show step N E B (pass N E B G i) i j = G j
    unfold step
    rw [if_neg (by omega)]
    exact pass_later i (by omega)
theorem pass_done {G : Nat → Bool} {j : Nat} : ∀ d i, i = j + 1 + d → pass N E B G i j = pass N E B G (j + 1) j
  | 0, i, e => by rw [e]
  | d + 1, i, e => by
    have : i = (j + 1 + d) + 1 := by omega
    rw [this]
    show step N E B (pass N E B G (j + 1 + d)) (j + 1 + d) j = _
    unfold step
    rw [if_neg (by omega)]
    exact pass_done d _ rfl
structure Inv (N : Nat) (E : Nat → Nat → Prop) (B : Nat → Prop) (G : Nat → Bool) (rank : Nat → Nat) (R : Nat) : Prop where
  all : ∀ i, i < N → G i = true → ¬ B i ∧ rank i < R ∧ ∀ m, m < N → E i m → G m = true ∧ rank m < rank i
theorem inv_step {G : Nat → Bool} {i : Nat} (hi : i < N) (h : ∃ rank R, Inv N E B G rank R) : ∃ rank R, Inv N E B (step N E B G i) rank R := by
  obtain ⟨rank, R, h⟩ := h
  by_cases g : G i = true
  · refine ⟨rank, R, ⟨fun j hj gj => ?_⟩⟩
    have gj' : G j = true := by
      unfold step at gj
      by_cases c : j = i
      · rw [c]; exact g
      · rw [if_neg c] at gj; exact gj
    have q := h.all j hj gj'
    exact ⟨q.1, q.2.1, fun m hm e => ⟨step_mono (q.2.2 m hm e).1, (q.2.2 m hm e).2⟩⟩
  · by_cases r : Ready N E B G i
    · refine ⟨fun j => if j = i then R else rank j, R + 1, ⟨fun j hj gj => ?_⟩⟩
      by_cases c : j = i
      · subst c
        refine ⟨r.1, by simp, fun m hm e => ?_⟩
        have gm := r.2 m hm e
        have c : ¬ m = j := fun c => g (c ▸ gm)
        refine ⟨step_mono gm, ?_⟩
        simp only [if_neg c, if_true]
        exact (h.all m hm gm).2.1
      · have gj' : G j = true := by
          unfold step at gj
          rw [if_neg c] at gj; exact gj
        have q := h.all j hj gj'
        refine ⟨q.1, by simp only [if_neg c]; omega, fun m hm e => ?_⟩
        have w := q.2.2 m hm e
        have d : ¬ m = i := fun d => g (d ▸ w.1)
        exact ⟨step_mono w.1, by simp only [if_neg c, if_neg d]; exact w.2⟩
    · refine ⟨rank, R, ⟨fun j hj gj => ?_⟩⟩
      have gj' : G j = true := by
        unfold step at gj
        by_cases c : j = i
        · subst c
          rw [if_pos rfl, decide_eq_false r] at gj
          simpa using gj
        · rw [if_neg c] at gj; exact gj
      have q := h.all j hj gj'
      exact ⟨q.1, q.2.1, fun m hm e => ⟨step_mono (q.2.2 m hm e).1, (q.2.2 m hm e).2⟩⟩
theorem inv_pass {G : Nat → Bool} (h : ∃ rank R, Inv N E B G rank R) : ∀ i, i ≤ N → ∃ rank R, Inv N E B (pass N E B G i) rank R
  | 0, _ => h
  | i + 1, hi => inv_step (by omega) (inv_pass h i (by omega))
theorem inv_none : ∃ rank R, Inv N E B (fun _ => false) rank R := ⟨fun _ => 0, 0, ⟨fun i _ h => by simp at h⟩⟩
theorem inv_good {G : Nat → Bool} (h : ∃ rank R, Inv N E B G rank R) (a : ∀ i, i < N → G i = true) : Good N E B := by
  obtain ⟨rank, R, h⟩ := h
  exact ⟨rank, fun i hi => ⟨(h.all i hi (a i hi)).1, fun m hm e => ((h.all i hi (a i hi)).2.2 m hm e).2⟩⟩
theorem least_undone {G : Nat → Bool} {rank : Nat → Nat} (hr : ∀ i, i < N → ¬ B i ∧ ∀ m, m < N → E i m → rank m < rank i) : ∀ (r i : Nat), rank i ≤ r → i < N → G i = false → ∃ j, j < N ∧ G j = false ∧ Ready N E B G j
  | r, i, h, hi, g => by
    by_cases c : Ready N E B G i
    · exact ⟨i, hi, g, c⟩
    · have : ∃ m, m < N ∧ E i m ∧ G m = false := Classical.byContradiction fun a => c ⟨(hr i hi).1, fun m hm e => by
        cases x : G m
        · exact absurd ⟨m, hm, e, x⟩ a
        · rfl⟩
      obtain ⟨m, hm, e, x⟩ := this
      have lt := (hr i hi).2 m hm e
      match r with
      | 0 => omega
      | r + 1 => exact least_undone hr r m (by omega) hm x
theorem progress {G : Nat → Bool} (w : Good N E B) (h : ∃ i, i < N ∧ G i = false) : ∃ i, i < N ∧ G i = false ∧ pass N E B G N i = true := by
  obtain ⟨rank, hr⟩ := w
  obtain ⟨i, hi, g⟩ := h
  obtain ⟨j, hj, gj, rj⟩ := least_undone (G := G) hr (rank i) i (Nat.le_refl _) hi g
  refine ⟨j, hj, gj, ?_⟩
  rw [pass_done (N - (j + 1)) N (by omega)]
  show step N E B (pass N E B G j) j j = true
  unfold step
  rw [if_pos rfl, decide_eq_true ⟨rj.1, fun m hm e => pass_mono (rj.2 m hm e) j⟩]
  simp
noncomputable def undone (N : Nat) (G : Nat → Bool) : Nat := cnt (fun i => G i = false) N
theorem undone_less {G : Nat → Bool} (h : ∃ i, i < N ∧ G i = false ∧ pass N E B G N i = true) : undone N (pass N E B G N) < undone N G := by
  obtain ⟨i, hi, a, b⟩ := h
  refine cnt_lt N (fun j _ f => ?_) ⟨i, hi, by rw [b]; simp, a⟩
  cases x : G j
  · rfl
  · rw [pass_mono x] at f; simp at f
/-! ### heights -/
noncomputable def mx (f : Nat → Nat) (P : Nat → Prop) : Nat → Nat
  | 0 => 0
  | n + 1 => if P n then max (mx f P n) (f n) else mx f P n
theorem mx_le {f : Nat → Nat} {P : Nat → Prop} : ∀ n i, i < n → P i → f i ≤ mx f P n
  | 0, i, h, _ => by omega
  | n + 1, i, h, p => by
    unfold mx
    by_cases e : i = n
    · rw [if_pos (e ▸ p), e]; omega
    · have := mx_le (f := f) (P := P) n i (by omega) p
      split <;> omega
theorem mx_bound {f : Nat → Nat} {P : Nat → Prop} {b : Nat} : ∀ n, (∀ i, i < n → P i → f i ≤ b) → mx f P n ≤ b
  | 0, _ => Nat.zero_le b
  | n + 1, h => by
    have := mx_bound n fun i hi => h i (by omega)
    unfold mx
    by_cases c : P n
    · rw [if_pos c]
      have := h n (by omega) c
      omega
    · rw [if_neg c]; exact this
theorem mx_at {f : Nat → Nat} {P : Nat → Prop} : ∀ n, mx f P n = 0 ∨ ∃ i, i < n ∧ P i ∧ mx f P n = f i
  | 0 => .inl rfl
  | n + 1 => by
    unfold mx
    by_cases c : P n
    · rw [if_pos c]
      rcases Nat.le_total (mx f P n) (f n) with d | d
      · exact .inr ⟨n, by omega, c, Nat.max_eq_right d⟩
      · rw [Nat.max_eq_left d]
        rcases mx_at n with e | ⟨i, hi, p, e⟩
        · exact .inl e
        · exact .inr ⟨i, by omega, p, e⟩
    · rw [if_neg c]
      rcases mx_at n with e | ⟨i, hi, p, e⟩
      · exact .inl e
      · exact .inr ⟨i, by omega, p, e⟩
theorem mx_congr {f g : Nat → Nat} {P : Nat → Prop} : ∀ n, (∀ i, i < n → P i → f i = g i) → mx f P n = mx g P n
  | 0, _ => rfl
  | n + 1, h => by
    have := mx_congr n fun i hi => h i (by omega)
    unfold mx
    by_cases c : P n
    · rw [if_pos c, if_pos c, this, h n (by omega) c]
    · rw [if_neg c, if_neg c, this]
noncomputable def hgt (N : Nat) (E : Nat → Nat → Prop) : Nat → Nat → Nat
  | 0, _ => 0
  | n + 1, i => 1 + mx (hgt N E n) (E i) N
theorem hgt_next {rank : Nat → Nat} (hr : ∀ i, i < N → ¬ B i ∧ ∀ m, m < N → E i m → rank m < rank i) : ∀ n i, i < N → rank i < n → hgt N E n i = hgt N E (n + 1) i
  | 0, i, _, h => by omega
  | n + 1, i, hi, h => by
    show 1 + mx (hgt N E n) (E i) N = 1 + mx (hgt N E (n + 1)) (E i) N
    rw [mx_congr N fun m hm e => hgt_next hr n m hm (by have := (hr i hi).2 m hm e; omega)]
/-- Heights: as the depth asks. -/
theorem heights (w : Good N E B) : ∃ h : Nat → Nat, ∀ i, i < N → h i = 1 + mx h (E i) N := by
  obtain ⟨rank, hr⟩ := w
  refine ⟨hgt N E (1 + mx rank (fun _ => True) N), fun i hi => ?_⟩
  have := mx_le (f := rank) (P := fun _ => True) N i hi trivial
  rw [hgt_next hr _ i hi (by omega)]
  rfl
theorem h_below {h : Nat → Nat} (hh : ∀ i, i < N → h i = 1 + mx h (E i) N) : ∀ (c i v : Nat), i < N → h i ≤ c → 1 ≤ v → v ≤ h i → ∃ m, m < N ∧ h m = v
  | c, i, v, hi, hc, h1, h2 => by
    by_cases e : h i = v
    · exact ⟨i, hi, e⟩
    · have := hh i hi
      rcases mx_at (f := h) (P := E i) N with z | ⟨m, hm, _, q⟩
      · omega
      · match c with
        | 0 => omega
        | c + 1 => exact h_below hh c m v hm (by omega) h1 (by omega)
theorem h_cnt {h : Nat → Nat} (hh : ∀ i, i < N → h i = 1 + mx h (E i) N) {i : Nat} (hi : i < N) : ∀ v, v ≤ h i → v ≤ cnt (fun m => h m ≤ v) N
  | 0, _ => Nat.zero_le _
  | v + 1, hv => by
    have a := h_cnt hh hi v (by omega)
    obtain ⟨m, hm, e⟩ := h_below hh (h i) i (v + 1) hi (Nat.le_refl _) (by omega) hv
    have := cnt_lt (P := fun m => h m ≤ v) (Q := fun m => h m ≤ v + 1) N (fun j _ q => by omega) ⟨m, hm, by omega, by omega⟩
    omega
theorem h_le {h : Nat → Nat} (hh : ∀ i, i < N → h i = 1 + mx h (E i) N) {i : Nat} (hi : i < N) : h i ≤ N := by
  have := h_cnt hh hi (h i) (Nat.le_refl _)
  have := cnt_le (fun m => h m ≤ h i) N
  omega
end M
end Go.Proofs.Ytnaajldlloglkaa.W
