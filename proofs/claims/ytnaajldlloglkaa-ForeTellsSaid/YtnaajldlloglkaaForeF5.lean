/- Plain facts: no table leads back to itself, as the page asks it. -/
import Derived.Test.YtnaajldlloglkaaForeF4
set_option linter.unusedVariables false
set_option linter.unusedSimpArgs false
namespace Go.Proofs.Ytnaajldlloglkaa.W
open Go.H
variable {p : Pool} {k : Nat}
theorem ref_Table_spot (hk : 1000 < k) (hp : PIn p) (id : Int) :
    (∃ m : Nat, m < p.Tables.length ∧ dv p m = id ∧ hermitageref9_Table.f k p id = some (m : Int)) ∨ ((∀ m : Nat, m < p.Tables.length → dv p m ≠ id) ∧ hermitageref9_Table.f k p id = some (-1)) :=
  ref_Table_l0 hp.tabs_len k 0 (by have := hp.tabs_len; omega) (by have := hp.tabs_len; omega) fun m h => by omega
structure RelL (p : Pool) (lt : List Bool) (G : Nat → Bool) : Prop where
  len : lt.length = p.Tables.length
  all : ∀ j : Nat, j < p.Tables.length → rd lt (j : Int) = G j
theorem rd_setB {α : Type} [Inhabited α] {l : List α} {i s : Nat} {v : α} (hi : i < l.length) (hs : s < l.length) : rd (l.set i v) (s : Int) = if s = i then v else rd l (s : Int) := by
  rw [rd_nat (by rw [List.length_set]; exact hs), rd_nat hs, List.getElem_set]
  by_cases c : i = s
  · rw [if_pos c, if_pos c.symm]
  · rw [if_neg c, if_neg fun e => c e.symm]
def Qe (p : Pool) (lt : List Bool) (d : Int) : Prop := ∀ m : Nat, m < p.Tables.length → dv p m = d → rd lt (m : Int) = true
theorem round_l2 (hk : 1000 < k) (hp : PIn p) (h : IdsOk p) {i : Nat} (hi : i < p.Tables.length) {lt : List Bool} (hlt : lt.length = p.Tables.length) (bt : Bool) (re : List Bool → Bool → Int → Option Bool) : ∀ (n j : Nat) (b : Bool), j ≤ (ls p i).length → (ls p i).length - j < n → (b = true ↔ ∀ x ∈ (ls p i).take j, Qe p lt x.Dev) →
    ((∀ x ∈ ls p i, Qe p lt x.Dev) → hermitageref9_round.l2 p k bt i lt re n b j = re (lt.set i true) true (w64 ((i : Int) + 1))) ∧ (¬ (∀ x ∈ ls p i, Qe p lt x.Dev) → hermitageref9_round.l2 p k bt i lt re n b j = re lt bt (w64 ((i : Int) + 1)))
  | 0, j, b, _, h, _ => by omega
  | n + 1, j, b, hj, hn, hb => by
    have hl : (ls p i).length ≤ 1000 := hp.tabs _ (rd_mem hi)
    rw [hermitageref9_round.l2, if_pos (by omega)]
    by_cases c : j < (ls p i).length
    · rw [if_pos (show (j : Int) < ((ls p i).length : Int) by omega), if_pos (by omega), if_pos (show 0 ≤ (j : Int) ∧ (j : Int) < ((ls p i).length : Int) by omega)]
      have tk : (ls p i).take (j + 1) = (ls p i).take j ++ [rd (ls p i) (j : Int)] := by rw [List.take_succ_eq_append_getElem c, rd_nat c]
      have go : ∀ b' : Bool, (b' = true ↔ b = true ∧ Qe p lt (rd (ls p i) (j : Int)).Dev) → ((∀ x ∈ ls p i, Qe p lt x.Dev) → hermitageref9_round.j1 (j : Int) (hermitageref9_round.l2 p k bt i lt re n) b' = re (lt.set i true) true (w64 ((i : Int) + 1))) ∧ (¬ (∀ x ∈ ls p i, Qe p lt x.Dev) → hermitageref9_round.j1 (j : Int) (hermitageref9_round.l2 p k bt i lt re n) b' = re lt bt (w64 ((i : Int) + 1))) := by
        intro b' hb'
        unfold hermitageref9_round.j1
        rw [w64_succ c (by omega)]
        refine round_l2 hk hp h hi hlt bt re n (j + 1) b' (by omega) (by omega) ?_
        rw [hb', hb, tk]
        simp only [List.mem_append, List.mem_singleton]
        constructor
        · intro ⟨a1, a2⟩ x hx
          rcases hx with hx | hx
          · exact a1 x hx
          · rw [hx]; exact a2
        · intro a
          exact ⟨fun x hx => a x (.inl hx), a _ (.inr rfl)⟩
      rcases ref_Table_spot hk hp (rd (ls p i) (j : Int)).Dev with ⟨m, hm, e, f⟩ | ⟨a, f⟩
      · have f : hermitageref9_Table.f k p (rd ((rd p.Tables (i : Int)).List_) (j : Int)).Dev = some (m : Int) := f
        rw [f]
        simp only [Option.bind_some]
        have qe : Qe p lt (rd (ls p i) (j : Int)).Dev ↔ rd lt (m : Int) = true := by
          constructor
          · intro q; exact q m hm e
          · intro q m' hm' e'
            rw [dv_inj h hm' hm (e'.trans e.symm)]; exact q
        cases b
        · rw [if_neg (by simp)]
          exact go false (by simp)
        · rw [if_pos rfl, if_neg (by omega), if_pos (by omega)]
          exact go _ (by rw [qe]; simp)
      · have f : hermitageref9_Table.f k p (rd ((rd p.Tables (i : Int)).List_) (j : Int)).Dev = some (-1) := f
        rw [f]
        simp only [Option.bind_some]
        have qe : Qe p lt (rd (ls p i) (j : Int)).Dev := fun m hm e => absurd e (a m hm)
        cases b
        · rw [if_neg (by simp)]
          exact go false (by simp)
        · rw [if_pos rfl, if_pos (by omega)]
          exact go true (by simp [qe])
    · rw [if_neg (show ¬ (j : Int) < ((ls p i).length : Int) by omega)]
      have : j = (ls p i).length := by omega
      subst this
      rw [List.take_length] at hb
      unfold hermitageref9_round.j0
      constructor
      · intro a
        rw [if_pos (hb.2 a), if_pos (by omega), Int.toNat_natCast]
      · intro a
        rw [if_neg fun z => a (hb.1 z)]
theorem ready_L (h : IdsOk p) (known : ∀ i, i < p.Tables.length → ¬ B p i) {lt : List Bool} {G : Nat → Bool} (hr : RelL p lt G) {i : Nat} (hi : i < p.Tables.length) : M.Ready p.Tables.length (E p) (B p) G i ↔ ∀ x ∈ ls p i, Qe p lt x.Dev := by
  constructor
  · intro ⟨_, a⟩ x hx m hm e
    rw [hr.all m hm]
    exact a m hm ⟨x, hx, e.symm⟩
  · intro a
    refine ⟨known i hi, fun m hm ⟨x, hx, e⟩ => ?_⟩
    rw [← hr.all m hm]
    exact a x hx m hm e.symm
theorem round_l1 (hk : 1000 < k) (hp : PIn p) (h : IdsOk p) (known : ∀ i, i < p.Tables.length → ¬ B p i) {G : Nat → Bool} (re : List Bool → Bool → Option Bool) : ∀ (n i : Nat) (lt : List Bool) (bt : Bool), i ≤ p.Tables.length → p.Tables.length - i < n → RelL p lt (M.pass p.Tables.length (E p) (B p) G i) → (bt = true ↔ ∃ j, j < p.Tables.length ∧ G j = false ∧ M.pass p.Tables.length (E p) (B p) G i j = true) →
    ∃ lt' bt', RelL p lt' (M.pass p.Tables.length (E p) (B p) G p.Tables.length) ∧ (bt' = true ↔ ∃ j, j < p.Tables.length ∧ G j = false ∧ M.pass p.Tables.length (E p) (B p) G p.Tables.length j = true) ∧ hermitageref9_round.l1 p k re n lt bt i = re lt' bt'
  | 0, i, lt, bt, _, h, _, _ => by omega
  | n + 1, i, lt, bt, hi, hn, hr, hb => by
    have hl := hp.tabs_len
    have hlt := hr.len
    rw [hermitageref9_round.l1]
    by_cases c : i < p.Tables.length
    · rw [if_pos (by omega), if_pos (by omega)]
      have same : M.step p.Tables.length (E p) (B p) (M.pass p.Tables.length (E p) (B p) G i) i i = M.pass p.Tables.length (E p) (B p) G i i → ∀ j, M.pass p.Tables.length (E p) (B p) G (i + 1) j = M.pass p.Tables.length (E p) (B p) G i j := by
        intro s j
        by_cases d : j = i
        · rw [d]; exact s
        · show M.step p.Tables.length (E p) (B p) (M.pass p.Tables.length (E p) (B p) G i) i j = _
          unfold M.step
          rw [if_neg d]
      by_cases g : rd lt (i : Int) = true
      · rw [if_pos g]
        unfold hermitageref9_round.j0
        rw [w64_succ c (by omega)]
        rw [hr.all i c] at g
        have s := same ((M.step_mono g).trans g.symm)
        exact round_l1 hk hp h known re n (i + 1) lt bt (by omega) (by omega) ⟨hlt, fun j hj => (hr.all j hj).trans (s j).symm⟩ (by simp only [s]; exact hb)
      · rw [if_neg g]
        have q := round_l2 hk hp h c hlt bt (hermitageref9_round.l1 p k re n) k 0 true (by omega) (by have : (ls p i).length ≤ 1000 := hp.tabs _ (rd_mem c); omega) (by simp)
        have q : ((∀ x ∈ ls p i, Qe p lt x.Dev) → hermitageref9_round.l2 p k bt i lt (hermitageref9_round.l1 p k re n) k true 0 = hermitageref9_round.l1 p k re n (lt.set i true) true (w64 ((i : Int) + 1))) ∧ (¬ (∀ x ∈ ls p i, Qe p lt x.Dev) → hermitageref9_round.l2 p k bt i lt (hermitageref9_round.l1 p k re n) k true 0 = hermitageref9_round.l1 p k re n lt bt (w64 ((i : Int) + 1))) := q
        rw [← ready_L h known hr c] at q
        by_cases r : M.Ready p.Tables.length (E p) (B p) (M.pass p.Tables.length (E p) (B p) G i) i
        · rw [q.1 r, w64_succ c (by omega)]
          have gi : G i = false := by
            rw [hr.all i c, M.pass_later i (Nat.le_refl _)] at g
            simpa using g
          refine round_l1 hk hp h known re n (i + 1) _ true (by omega) (by omega) ⟨by rw [List.length_set]; exact hlt, fun j hj => ?_⟩ ?_
          · rw [rd_setB (by omega) (by omega)]
            by_cases d : j = i
            · rw [if_pos d, d]; exact (M.step_ready r).symm
            · rw [if_neg d, hr.all j hj]
              show _ = M.step p.Tables.length (E p) (B p) (M.pass p.Tables.length (E p) (B p) G i) i j
              unfold M.step
              rw [if_neg d]
          · simp only [true_iff]
            exact ⟨i, c, gi, M.step_ready r⟩
        · rw [q.2 r, w64_succ c (by omega)]
          have s := same (M.step_not r)
          exact round_l1 hk hp h known re n (i + 1) lt bt (by omega) (by omega) ⟨hlt, fun j hj => (hr.all j hj).trans (s j).symm⟩ (by simp only [s]; exact hb)
    · rw [if_neg (by omega)]
      have : i = p.Tables.length := by omega
      subst this
      exact ⟨lt, bt, hr, hb, rfl⟩
theorem round_l3 (hk : 1000 < k) (hp : PIn p) {G : Nat → Bool} {lt : List Bool} (hr : RelL p lt G) : Says (hermitageref9_round.l3 lt k 0) (¬ ∀ i, i < p.Tables.length → G i = true) := by
  have hl := hp.tabs_len
  have hlt := hr.len
  have q := loop_says (f := hermitageref9_round.l3 lt) (len := lt.length) (E := some false) (F := some true) (P := fun j => G j = true) ?_ ?_ ?_ k 0 (by omega) (by omega)
  · refine ⟨fun a => q.2 fun b => a fun j hj => b j (by omega) (by omega), fun a => q.1 fun j _ hj => Classical.byContradiction fun g => a fun b => g (b j (by omega))⟩
  · intro n j hj g
    rw [hermitageref9_round.l3, if_pos (by omega), if_pos (by omega), if_pos (by rw [hr.all j (by omega)]; exact g), w64_succ hj (by omega)]
  · intro n j hj g
    rw [hermitageref9_round.l3, if_pos (by omega), if_pos (by omega), if_neg (by rw [hr.all j (by omega)]; exact g)]
  · intro n
    rw [hermitageref9_round.l3, if_neg (by omega)]
theorem round_l0 (hk : 1000 < k) (hp : PIn p) (h : IdsOk p) (known : ∀ i, i < p.Tables.length → ¬ B p i) : ∀ (n : Nat) (lt : List Bool) (G : Nat → Bool), M.undone p.Tables.length G + 1 < n → RelL p lt G → (∃ rank R, M.Inv p.Tables.length (E p) (B p) G rank R) → Says (hermitageref9_round.l0 p k n lt true) (¬ Fine p)
  | 0, lt, G, h, _, _ => by omega
  | n + 1, lt, G, hn, hr, hi => by
    have hl := hp.tabs_len
    rw [hermitageref9_round.l0, if_pos rfl]
    obtain ⟨lt', bt', hr', hb', e⟩ := round_l1 hk hp h known (G := G) (hermitageref9_round.l0 p k n) k 0 lt false (by omega) (by omega) hr (by
      simp only [Bool.false_eq_true, false_iff]
      intro ⟨j, hj, a, b⟩
      have b : G j = true := b
      rw [a] at b; simp at b)
    have e : hermitageref9_round.l1 p k (hermitageref9_round.l0 p k n) k lt false 0 = hermitageref9_round.l0 p k n lt' bt' := e
    rw [e]
    cases bt'
    · match n with
      | 0 => omega
      | n + 1 =>
        rw [hermitageref9_round.l0, if_neg (by simp)]
        refine Says.iff (round_l3 hk hp hr') ⟨fun a w => ?_, fun w a => w (M.inv_good (M.inv_pass hi _ (Nat.le_refl _)) a)⟩
        by_cases b : ∃ i, i < p.Tables.length ∧ G i = false
        · have := hb'.2 (M.progress w b)
          simp at this
        · refine a fun i hil => M.pass_mono ?_ _
          cases x : G i
          · exact absurd ⟨i, hil, x⟩ b
          · rfl
    · have := M.undone_less (hb'.1 rfl)
      exact round_l0 hk hp h known n lt' _ (by omega) hr' (M.inv_pass hi _ (Nat.le_refl _))
theorem round_says (hk : 1100 < k) (hp : PIn p) (h : IdsOk p) (known : ∀ i, i < p.Tables.length → ¬ B p i) : Says (hermitageref9_round.f k p) (¬ Fine p) := by
  have hl := hp.tabs_len
  unfold hermitageref9_round.f
  rw [if_pos (by omega), Int.toNat_natCast]
  have := M.cnt_le (fun i => (fun _ => false : Nat → Bool) i = false) p.Tables.length
  refine round_l0 (by omega) hp h known k _ (fun _ => false) (by unfold M.undone; omega) ⟨by simp, fun j hj => ?_⟩ M.inv_none
  rw [rd_nat (by simpa using hj)]
  simp
end Go.Proofs.Ytnaajldlloglkaa.W
