/- Plain facts: no table leads back to itself: as the program asks it, and as the page does. -/
import Derived.Test.YtnaajldlloglkaaForeF3
set_option linter.unusedVariables false
set_option linter.unusedSimpArgs false
namespace Go.Proofs.Ytnaajldlloglkaa.W
open Go.H
theorem mget_mset {β : Type} {k : Int} {v : β} : ∀ {m : List (Int × β)} {d : Int}, mget (mset m k v) d = if k = d then some v else mget m d
  | [], d => by simp [mset, mget]
  | (a, x) :: r, d => by
    unfold mset
    by_cases c : a = k
    · rw [if_pos c]
      unfold mget
      by_cases e : a = d
      · rw [if_pos e, if_pos (c ▸ e)]
      · rw [if_neg e, if_neg (c ▸ e), if_neg e]
    · rw [if_neg c]
      unfold mget
      by_cases e : a = d
      · rw [if_pos e, if_neg (fun f => c (e.trans f.symm)), if_pos e]
      · rw [if_neg e, if_neg e]
        exact mget_mset
abbrev dv (p : Pool) (m : Nat) : Int := (rd p.Tables (m : Int)).Dev
abbrev ls (p : Pool) (m : Nat) : List Entry := (rd p.Tables (m : Int)).List_
/-- A table's entry names a table. -/
def E (p : Pool) (i m : Nat) : Prop := ∃ x ∈ ls p i, x.Dev = dv p m
/-- A table's entry names what is neither a device nor a table. -/
def B (p : Pool) (i : Nat) : Prop := ∃ x ∈ ls p i, ¬ IsDev p x.Dev ∧ ¬ IsTab p x.Dev
theorem dv_asc {p : Pool} (h : IdsOk p) : ∀ j : Nat, j < p.Tables.length → 0 < j → dv p (j - 1) < dv p j := fun j hj z => (h.tabs j (by omega) hj).asc z
theorem dv_inj {p : Pool} (h : IdsOk p) {i j : Nat} (hi : i < p.Tables.length) (hj : j < p.Tables.length) (e : dv p i = dv p j) : i = j := asc_inj (dv_asc h) hi hj e
/-- The marks of a map. -/
def Rel (p : Pool) (mb : List (Int × Bool)) (G : Nat → Bool) : Prop := ∀ d, (mget mb d).getD false = true ↔ ∃ m, m < p.Tables.length ∧ dv p m = d ∧ G m = true
theorem ready_iff {p : Pool} (h : IdsOk p) {G : Nat → Bool} {mb : List (Int × Bool)} (hr : Rel p mb G) {i : Nat} : M.Ready p.Tables.length (E p) (B p) G i ↔ ∀ x ∈ ls p i, (mget mb x.Dev).getD false = true ∨ IsDev p x.Dev := by
  constructor
  · intro ⟨a, b⟩ x hx
    by_cases d : IsDev p x.Dev
    · exact .inr d
    · by_cases t : IsTab p x.Dev
      · obtain ⟨m, hm, e⟩ := t
        exact .inl ((hr _).2 ⟨m, hm, e, b m hm ⟨x, hx, e.symm⟩⟩)
      · exact absurd ⟨x, hx, d, t⟩ a
  · intro a
    refine ⟨fun ⟨x, hx, d, t⟩ => ?_, fun m hm ⟨x, hx, e⟩ => ?_⟩
    · rcases a x hx with b | b
      · obtain ⟨m, hm, e, _⟩ := (hr _).1 b
        exact t ⟨m, hm, e⟩
      · exact d b
    · rcases a x hx with b | b
      · obtain ⟨m', hm', e', g⟩ := (hr _).1 b
        have := dv_inj h hm' hm (e'.trans e)
        rw [← this]; exact g
      · exact absurd (show IsDev p (dv p m) by rw [← e]; exact b) (h.tabs m (by omega) hm).dev
theorem rel_step {p : Pool} (h : IdsOk p) {G : Nat → Bool} {mb : List (Int × Bool)} (hr : Rel p mb G) {i : Nat} (hi : i < p.Tables.length) {v : Bool} (hv : v = M.step p.Tables.length (E p) (B p) G i i) : Rel p (mset mb (dv p i) v) (M.step p.Tables.length (E p) (B p) G i) := by
  intro d
  rw [mget_mset]
  by_cases c : dv p i = d
  · rw [if_pos c]
    simp only [Option.getD_some]
    constructor
    · intro q
      exact ⟨i, hi, c, hv ▸ q⟩
    · intro ⟨m, hm, e, g⟩
      have : m = i := dv_inj h hm hi (e.trans c.symm)
      subst this
      rw [hv]; exact g
  · rw [if_neg c, hr d]
    constructor
    · intro ⟨m, hm, e, g⟩
      exact ⟨m, hm, e, M.step_mono g⟩
    · intro ⟨m, hm, e, g⟩
      refine ⟨m, hm, e, ?_⟩
      have : ¬ m = i := fun z => c (z ▸ e)
      unfold M.step at g
      rw [if_neg this] at g
      exact g
variable {p : Pool} {k : Nat}
theorem ent_dev (h : IdsOk p) {i : Nat} (hi : i < p.Tables.length) {x : Entry} (hx : x ∈ ls p i) : 1 ≤ x.Dev ∧ x.Dev ≤ 40 := by
  have := T.tab_elem (T.tabOk_iff.1 (h.tabs i (by omega) hi).ok).2 x hx
  unfold T.EntOk at this
  omega
theorem tables_l2 (hk : 1000 < k) (hp : PIn p) (hd : DevsOk p.Devices) (h : IdsOk p) {G : Nat → Bool} {mb : List (Int × Bool)} (hr : Rel p mb G) {i : Nat} (hi : i < p.Tables.length) (re : Int → List (Int × Bool) → Option Bool) :
    (M.Ready p.Tables.length (E p) (B p) G i → chain_tables.l2 p k i mb re k 0 = re (w64 ((i : Int) + 1)) (mset mb (dv p i) true)) ∧ (¬ M.Ready p.Tables.length (E p) (B p) G i → chain_tables.l2 p k i mb re k 0 = re (w64 ((i : Int) + 1)) (mset mb (dv p i) false)) := by
  have hl : (ls p i).length ≤ 1000 := hp.tabs _ (rd_mem hi)
  have q := loop_says (f := chain_tables.l2 p k i mb re) (len := (ls p i).length) (E := re (w64 ((i : Int) + 1)) (mset mb (dv p i) true)) (F := re (w64 ((i : Int) + 1)) (mset mb (dv p i) false)) (P := fun j => (mget mb (rd (ls p i) (j : Int)).Dev).getD false = true ∨ IsDev p (rd (ls p i) (j : Int)).Dev) ?_ ?_ ?_ k 0 (by omega) (by omega)
  · have e : M.Ready p.Tables.length (E p) (B p) G i ↔ ∀ j : Nat, 0 ≤ j → j < (ls p i).length → (mget mb (rd (ls p i) (j : Int)).Dev).getD false = true ∨ IsDev p (rd (ls p i) (j : Int)).Dev := by
      rw [ready_iff h hr]
      constructor
      · intro a j _ hj
        exact a _ (rd_mem hj)
      · intro a x hx
        obtain ⟨j, hj, ex⟩ := List.getElem_of_mem hx
        have := a j (by omega) hj
        rw [rd_nat hj, ex] at this
        exact this
    exact ⟨fun r => q.1 (e.1 r), fun r => q.2 fun a => r (e.2 a)⟩
  · intro n j hj ho
    have de := ent_dev h hi (rd_mem hj)
    rw [chain_tables.l2, if_pos (show (j : Int) < ((ls p i).length : Int) by omega), if_pos (show 0 ≤ (j : Int) ∧ (j : Int) < ((ls p i).length : Int) by omega)]
    by_cases a : (mget mb (rd (ls p i) (j : Int)).Dev).getD false = true
    · rw [if_pos a]
      unfold chain_tables.j2
      rw [if_neg (by simp), w64_succ hj (by omega)]
    · rw [if_neg a, (device_says hk hd (by omega) (by omega)).1 (ho.resolve_left a)]
      unfold chain_tables.j2
      simp only [Option.bind_some]
      rw [if_neg (by simp), w64_succ hj (by omega)]
  · intro n j hj ho
    have de := ent_dev h hi (rd_mem hj)
    rw [chain_tables.l2, if_pos (show (j : Int) < ((ls p i).length : Int) by omega), if_pos (show 0 ≤ (j : Int) ∧ (j : Int) < ((ls p i).length : Int) by omega), if_neg fun g => ho (.inl g), (device_says hk hd (by omega) (by omega)).2 fun g => ho (.inr g)]
    unfold chain_tables.j2
    simp only [Option.bind_some]
    rw [if_pos (by simp)]
    unfold chain_tables.j1 chain_tables.j0
    rw [decide_eq_true (by omega : (0 : Int) ≤ (j : Int))]
    rfl
  · intro n
    rw [chain_tables.l2, if_neg (show ¬ ((ls p i).length : Int) < ((ls p i).length : Int) by omega)]
    unfold chain_tables.j1 chain_tables.j0
    rfl
theorem tables_l1 (hk : 1000 < k) (hp : PIn p) (hd : DevsOk p.Devices) (h : IdsOk p) {G : Nat → Bool} (it : Int) (re : Int → List (Int × Bool) → Option Bool) : ∀ (n i : Nat) (mb : List (Int × Bool)), i ≤ p.Tables.length → p.Tables.length - i < n → Rel p mb (M.pass p.Tables.length (E p) (B p) G i) →
    ∃ mb', Rel p mb' (M.pass p.Tables.length (E p) (B p) G p.Tables.length) ∧ chain_tables.l1 p k it re n i mb = re (w64 (it + 1)) mb'
  | 0, i, mb, _, h, _ => by omega
  | n + 1, i, mb, hi, hn, hr => by
    have hl := hp.tabs_len
    rw [chain_tables.l1]
    by_cases c : i < p.Tables.length
    · rw [if_pos (by omega), if_pos (by omega)]
      by_cases g : (mget mb (dv p i)).getD false = true
      · rw [if_pos g]
        unfold chain_tables.j0
        rw [w64_succ c (by omega)]
        refine tables_l1 hk hp hd h it re n (i + 1) _ (by omega) (by omega) (rel_step h hr c ?_)
        obtain ⟨m, hm, e, gm⟩ := (hr _).1 g
        have := dv_inj h hm c e
        subst this
        exact (M.step_mono gm).symm
      · rw [if_neg g]
        have g' : ¬ M.pass p.Tables.length (E p) (B p) G i i = true := fun a => g ((hr _).2 ⟨i, c, rfl, a⟩)
        have q := tables_l2 hk hp hd h hr c (chain_tables.l1 p k it re n)
        by_cases r : M.Ready p.Tables.length (E p) (B p) (M.pass p.Tables.length (E p) (B p) G i) i
        · rw [q.1 r, w64_succ c (by omega)]
          refine tables_l1 hk hp hd h it re n (i + 1) _ (by omega) (by omega) (rel_step h hr c ?_)
          exact (M.step_ready r).symm
        · rw [q.2 r, w64_succ c (by omega)]
          refine tables_l1 hk hp hd h it re n (i + 1) _ (by omega) (by omega) (rel_step h hr c ?_)
          rw [M.step_not r]; simpa using g'
    · rw [if_neg (by omega)]
      have : i = p.Tables.length := by omega
      subst this
      exact ⟨mb, hr, rfl⟩
abbrev Fine (p : Pool) : Prop := M.Good p.Tables.length (E p) (B p)
theorem tables_l3 (hk : 1000 < k) (hp : PIn p) {G : Nat → Bool} {mb : List (Int × Bool)} (h : IdsOk p) (hr : Rel p mb G) : Says (chain_tables.l3 p mb k 0) (∀ i, i < p.Tables.length → G i = true) := by
  have hl := hp.tabs_len
  have q := loop_says (f := chain_tables.l3 p mb) (len := p.Tables.length) (E := some true) (F := some false) (P := fun j => G j = true) ?_ ?_ ?_ k 0 (by omega) (by omega)
  · exact ⟨fun a => q.1 fun j _ hj => a j hj, fun a => q.2 fun b => a fun j hj => b j (by omega) hj⟩
  · intro n j hj g
    rw [chain_tables.l3, if_pos (by omega), if_pos (by omega), if_pos ((hr _).2 ⟨j, hj, rfl, g⟩), w64_succ hj (by omega)]
  · intro n j hj g
    rw [chain_tables.l3, if_pos (by omega), if_pos (by omega), if_neg fun a => ?_]
    · unfold chain_tables.j3
      simp
    · obtain ⟨m, hm, e, gm⟩ := (hr _).1 a
      exact g (dv_inj h hm hj e ▸ gm)
  · intro n
    rw [chain_tables.l3, if_neg (by omega)]
    unfold chain_tables.j3
    simp
theorem tables_l0 (hk : 1000 < k) (hp : PIn p) (hd : DevsOk p.Devices) (h : IdsOk p) : ∀ (n t : Nat) (mb : List (Int × Bool)) (G : Nat → Bool), t ≤ p.Tables.length → p.Tables.length - t < n → Rel p mb G → (∃ rank R, M.Inv p.Tables.length (E p) (B p) G rank R) → (Fine p → M.undone p.Tables.length G ≤ p.Tables.length - t) → Says (chain_tables.l0 p k n t mb) (Fine p)
  | 0, t, mb, G, _, h, _, _, _ => by omega
  | n + 1, t, mb, G, ht, hn, hr, hi, hu => by
    have hl := hp.tabs_len
    rw [chain_tables.l0]
    by_cases c : t < p.Tables.length
    · rw [if_pos (by omega)]
      obtain ⟨mb', hr', e⟩ := tables_l1 hk hp hd h (G := G) t (chain_tables.l0 p k n) k 0 mb (by omega) (by omega) hr
      have e : chain_tables.l1 p k (t : Int) (chain_tables.l0 p k n) k 0 mb = chain_tables.l0 p k n (w64 ((t : Int) + 1)) mb' := e
      rw [e, w64_succ c (by omega)]
      refine tables_l0 hk hp hd h n (t + 1) mb' _ (by omega) (by omega) hr' (M.inv_pass hi _ (Nat.le_refl _)) fun w => ?_
      have hu := hu w
      by_cases a : ∃ i, i < p.Tables.length ∧ G i = false
      · have := M.undone_less (M.progress w a)
        omega
      · have : M.undone p.Tables.length (M.pass p.Tables.length (E p) (B p) G p.Tables.length) = 0 := by
          have q : M.undone p.Tables.length (M.pass p.Tables.length (E p) (B p) G p.Tables.length) ≤ M.cnt (fun _ => False) p.Tables.length := M.cnt_mono (P := fun i => M.pass p.Tables.length (E p) (B p) G p.Tables.length i = false) (Q := fun _ => False) p.Tables.length fun i hi q => a ⟨i, hi, by
            cases x : G i
            · rfl
            · rw [M.pass_mono x] at q; simp at q⟩
          have z : ∀ n, M.cnt (fun _ => False) n = 0 := fun n => by
            induction n with
            | zero => rfl
            | succ n ih => unfold M.cnt; simp [ih]
          rw [z] at q
          omega
        omega
    · rw [if_neg (by omega)]
      refine Says.iff (tables_l3 hk hp h hr) ⟨fun a => M.inv_good hi a, fun w i hil => ?_⟩
      have := hu w
      have z : M.undone p.Tables.length G = 0 := by omega
      have := M.cnt_zero (P := fun i => G i = false) p.Tables.length z i hil
      simpa using this
theorem tables_says (hk : 1000 < k) (hp : PIn p) (hd : DevsOk p.Devices) (h : IdsOk p) : Says (chain_tables.f k p) (Fine p) := by
  have hl := hp.tabs_len
  refine tables_l0 hk hp hd h k 0 [] (fun _ => false) (by omega) (by omega) (fun d => ?_) M.inv_none fun _ => M.cnt_le _ _
  simp [mget]
end Go.Proofs.Ytnaajldlloglkaa.W
