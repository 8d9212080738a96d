/- Plain facts: how many tables there are on a way. -/
import Derived.Test.YtnaajldlloglkaaForeF7
set_option linter.unusedVariables false
set_option linter.unusedSimpArgs false
namespace Go.Proofs.Ytnaajldlloglkaa.W
open Go.H
namespace M
variable {N : Nat} {E : Nat → Nat → Prop}
theorem mx_eq {f : Nat → Nat} {P : Nat → Prop} {a n : Nat} (h1 : ∀ m, m < n → P m → f m ≤ a) (h2 : a = 0 ∨ ∃ m, m < n ∧ P m ∧ a = f m) : a = mx f P n := by
  have := mx_bound (f := f) (P := P) n h1
  rcases h2 with z | ⟨m, hm, p, e⟩
  · omega
  · have := mx_le (f := f) (P := P) n m hm p
    omega
structure Near (N : Nat) (h : Nat → Nat) (t i : Nat) (a : Nat → Nat) : Prop where
  all : ∀ j, j < N → a j ≤ h j ∧ min t (h j) ≤ a j ∧ (j < i → min (t + 1) (h j) ≤ a j)
theorem near_step {h a : Nat → Nat} {t i : Nat} (hh : ∀ i, i < N → h i = 1 + mx h (E i) N) (hi : i < N) (g : Near N h t i a) {v : Nat} (hv : v = 1 + mx a (E i) N) : Near N h t (i + 1) (fun j => if j = i then v else a j) := by
  refine ⟨fun j hj => ?_⟩
  by_cases c : j = i
  · subst c
    simp only [if_true]
    have e := hh j hj
    have up : mx a (E j) N ≤ mx h (E j) N := mx_bound N fun m hm q => by
      have := mx_le (f := h) (P := E j) N m hm q
      have := (g.all m hm).1
      omega
    have low : min (t + 1) (h j) ≤ 1 + mx a (E j) N := by
      rcases mx_at (f := h) (P := E j) N with z | ⟨m, hm, q, z⟩
      · omega
      · have := (g.all m hm).2.1
        have := mx_le (f := a) (P := E j) N m hm q
        omega
    exact ⟨by omega, by omega, fun _ => by omega⟩
  · simp only [if_neg c]
    have q := g.all j hj
    exact ⟨q.1, q.2.1, fun z => q.2.2 (by omega)⟩
theorem near_next {h a : Nat → Nat} {t : Nat} (g : Near N h t N a) : Near N h (t + 1) 0 a :=
  ⟨fun j hj => ⟨(g.all j hj).1, (g.all j hj).2.2 hj, fun z => by omega⟩⟩
end M
variable {p : Pool} {k : Nat}
theorem dv_range (h : IdsOk p) {m : Nat} (hm : m < p.Tables.length) : 1 ≤ dv p m ∧ dv p m ≤ 40 := by
  have := tab_dev (h.tabs m (by omega) hm).ok
  exact ⟨this.1, this.2.1⟩
theorem cfind_spot (hk : 1000 < k) (hp : PIn p) (h : IdsOk p) {id : Int} (i0 : -9223372036854775808 ≤ id) (i1 : id < 9223372036854775808) : Spot (fun m => dv p m) p.Tables.length id (chain_Find.f k p id) := by
  have := hp.tabs_len
  exact chain_Find_l0 (by omega) (fun j hj => by have : 1 ≤ (rd p.Tables (j : Int)).Dev ∧ (rd p.Tables (j : Int)).Dev ≤ 40 := dv_range h hj; exact ⟨by omega, by omega⟩) (fun j hj z => (h.tabs j (by omega) hj).asc z) i0 i1 k 0 p.Tables.length (by omega) (by omega) (by omega) fun m hm _ => ⟨by omega, by omega⟩
def KInv (p : Pool) (h : Nat → Nat) (kn : List (Int × Int)) : Prop := ∀ d v, mget kn d = some v → ∃ m, m < p.Tables.length ∧ dv p m = d ∧ v = (h m : Int)
theorem imax_nat {a b : Nat} : imax (a : Int) (b : Int) = ((max a b : Nat) : Int) := by
  unfold imax
  split <;> omega
def DeepAt (p : Pool) (h : Nat → Nat) (rc : Pool → Int → List (Int × Int) → Option (Int × List (Int × Int))) (d : Int) : Prop :=
  ∀ kn, KInv p h kn → ∃ (kn' : List (Int × Int)) (v : Nat), KInv p h kn' ∧ rc p d kn = some ((v : Int), kn') ∧ (∀ m, m < p.Tables.length → dv p m = d → v = h m) ∧ ((∀ m, m < p.Tables.length → dv p m ≠ d) → v = 0)
theorem max_ent {h : Nat → Nat} {i a v : Nat} {x : Entry} {l : List Entry} (hx : x ∈ ls p i) (h1 : ∀ m, m < p.Tables.length → (∃ y ∈ l, y.Dev = dv p m) → h m ≤ a) (h2 : a = 0 ∨ ∃ m, m < p.Tables.length ∧ E p i m ∧ a = h m)
    (v1 : ∀ m, m < p.Tables.length → dv p m = x.Dev → v = h m) (v2 : (∀ m, m < p.Tables.length → dv p m ≠ x.Dev) → v = 0) :
    (∀ m, m < p.Tables.length → (∃ y ∈ l ++ [x], y.Dev = dv p m) → h m ≤ max a v) ∧ (max a v = 0 ∨ ∃ m, m < p.Tables.length ∧ E p i m ∧ max a v = h m) := by
  refine ⟨fun m hm ⟨y, hy, e⟩ => ?_, ?_⟩
  · rw [List.mem_append, List.mem_singleton] at hy
    rcases hy with hy | hy
    · have := h1 m hm ⟨y, hy, e⟩
      omega
    · have := v1 m hm (by rw [← e, hy])
      omega
  · by_cases t : IsTab p x.Dev
    · obtain ⟨m, hm, e⟩ := t
      have ev := v1 m hm e
      rcases Nat.le_total a v with c | c
      · exact .inr ⟨m, hm, ⟨x, hx, e.symm⟩, by omega⟩
      · rw [Nat.max_eq_left c]; exact h2
    · have := v2 fun m hm e => t ⟨m, hm, e⟩
      rw [this, Nat.max_eq_left (Nat.zero_le a)]; exact h2
theorem deep_l0 {h : Nat → Nat} (hh : ∀ i, i < p.Tables.length → h i = 1 + M.mx h (E p i) p.Tables.length) (hp : PIn p) (hs : IdsOk p) {i : Nat} (hi : i < p.Tables.length) (rc : Pool → Int → List (Int × Int) → Option (Int × List (Int × Int))) (hrc : ∀ x ∈ ls p i, DeepAt p h rc x.Dev) (b : Bool) :
    ∀ (n j a : Nat) (kn : List (Int × Int)), j ≤ (ls p i).length → (ls p i).length - j < n → KInv p h kn → (∀ m, m < p.Tables.length → (∃ y ∈ (ls p i).take j, y.Dev = dv p m) → h m ≤ a) → (a = 0 ∨ ∃ m, m < p.Tables.length ∧ E p i m ∧ a = h m) →
    ∃ kn', KInv p h kn' ∧ fore_deep.l0 p (dv p i) rc ((i : Int), b) n a j kn = some ((h i : Int), kn')
  | 0, j, a, kn, _, h, _, _, _ => by omega
  | n + 1, j, a, kn, hj, hn, hk, h1, h2 => by
    have hl : (ls p i).length ≤ 1000 := hp.tabs _ (rd_mem hi)
    rw [fore_deep.l0]
    by_cases c : j < (ls p i).length
    · rw [if_pos (show (j : Int) < ((ls p i).length : Int) by omega), if_pos (show 0 ≤ (j : Int) ∧ (j : Int) < ((ls p i).length : Int) by omega)]
      obtain ⟨kn1, v, k1, e, v1, v2⟩ := hrc _ (rd_mem c) kn hk
      have e : rc p (rd ((rd p.Tables (i : Int)).List_) (j : Int)).Dev kn = some ((v : Int), kn1) := e
      rw [e]
      simp only [Option.bind_some]
      rw [imax_nat, w64_succ c (by omega)]
      have tk : (ls p i).take (j + 1) = (ls p i).take j ++ [rd (ls p i) (j : Int)] := by rw [List.take_succ_eq_append_getElem c, rd_nat c]
      have q := max_ent (rd_mem c) h1 h2 v1 v2
      exact deep_l0 hh hp hs hi rc hrc b n (j + 1) _ kn1 (by clear q h2; omega) (by clear q h2; omega) k1 (by rw [tk]; exact q.1) q.2
    · rw [if_neg (show ¬ (j : Int) < ((ls p i).length : Int) by omega)]
      rw [List.take_of_length_le (by omega)] at h1
      have ea : a = M.mx h (E p i) p.Tables.length := M.mx_eq h1 h2
      have eh := hh i hi
      have := M.h_le hh hi
      have := hp.tabs_len
      rw [w64_id (by omega) (by omega)]
      refine ⟨_, ?_, by rw [show ((a : Int) + 1) = ((h i : Nat) : Int) by omega]⟩
      intro d v hm
      rw [mget_mset] at hm
      by_cases ed : dv p i = d
      · rw [if_pos ed] at hm
        injection hm with hm
        exact ⟨i, hi, ed, by omega⟩
      · rw [if_neg ed] at hm
        exact hk d v hm
theorem deep_at {h : Nat → Nat} (hh : ∀ i, i < p.Tables.length → h i = 1 + M.mx h (E p i) p.Tables.length) (hp : PIn p) (hs : IdsOk p) : ∀ (c K : Nat), 1001 + c < K → ∀ d : Int, -9223372036854775808 ≤ d → d < 9223372036854775808 → (∀ m, m < p.Tables.length → dv p m = d → h m ≤ c) → DeepAt p h (fore_deep.f K) d
  | c, 0, hK, d, _, _, _ => by omega
  | c, K + 1, hK, d, d0, d1, hc => by
    intro kn hkn
    show ∃ (kn' : List (Int × Int)) (v : Nat), KInv p h kn' ∧ fore_deep.b K (fore_deep.f K) p d kn = some ((v : Int), kn') ∧ _
    unfold fore_deep.b
    rcases cfind_spot (k := K) (by omega) hp hs d0 d1 with ⟨m, hm, e, f⟩ | ⟨a, m, f⟩
    · rw [f]
      simp only [Option.bind_some, if_true]
      have e : dv p m = d := e
      have uniq : ∀ m', m' < p.Tables.length → dv p m' = d → h m = h m' := fun m' hm' e' => by rw [dv_inj hs hm' hm (e'.trans e.symm)]
      cases g : mget kn d with
      | some v =>
        obtain ⟨m', hm', e', ev⟩ := hkn d v g
        refine ⟨kn, h m', hkn, ?_, fun m2 hm2 e2 => ?_, fun no => absurd e (no m hm)⟩
        · simp [ev]
        · rw [dv_inj hs hm2 hm' (e2.trans e'.symm)]
      | none =>
        simp only [Option.isSome_none]
        rw [if_neg (by simp), if_pos (by omega)]
        match c with
        | 0 =>
          have := hc m hm e
          have := hh m hm
          omega
        | c + 1 =>
          have lens : (ls p m).length ≤ 1000 := hp.tabs _ (rd_mem hm)
          obtain ⟨kn', k', e'⟩ := deep_l0 hh hp hs hm (fore_deep.f K) (fun x hx => deep_at hh hp hs c K (by omega) x.Dev (by have := ent_dev hs hm hx; omega) (by have := ent_dev hs hm hx; omega) fun m' hm' ex => by
            have := hc m hm e
            have := hh m hm
            have := M.mx_le (f := h) (P := E p m) p.Tables.length m' hm' ⟨x, hx, ex.symm⟩
            omega) true K 0 0 kn (by omega) (by omega) hkn (fun m' _ ⟨y, hy, _⟩ => by simp at hy) (.inl rfl)
          rw [e] at e'
          exact ⟨kn', h m, k', e', fun m2 hm2 e2 => uniq m2 hm2 e2, fun no => absurd e (no m hm)⟩
    · rw [f]
      simp only [Option.bind_some]
      rw [if_neg (by simp)]
      exact ⟨kn, 0, hkn, rfl, fun m2 hm2 e2 => absurd e2 (a m2 hm2), fun _ => rfl⟩
noncomputable abbrev top (p : Pool) (h : Nat → Nat) : Nat := M.mx h (fun _ => True) p.Tables.length
theorem Depth_l0 {h : Nat → Nat} (hk : 2100 < k) (hh : ∀ i, i < p.Tables.length → h i = 1 + M.mx h (E p i) p.Tables.length) (hp : PIn p) (hs : IdsOk p) :
    ∀ (n i a : Nat) (kn : List (Int × Int)), i ≤ p.Tables.length → p.Tables.length - i < n → KInv p h kn → (∀ m, m < i → h m ≤ a) → a ≤ top p h →
    fore_Depth.l0 p k n a i kn = some ((top p h : Int), 0)
  | 0, i, a, kn, _, h, _, _, _ => by omega
  | n + 1, i, a, kn, hi, hn, hkn, h1, h2 => by
    have hl := hp.tabs_len
    rw [fore_Depth.l0]
    by_cases c : i < p.Tables.length
    · rw [if_pos (by omega), if_pos (by omega)]
      have dr := dv_range hs c
      obtain ⟨kn1, v, k1, e, v1, _⟩ := deep_at hh hp hs 1000 k (by omega) (dv p i) (by omega) (by omega) (fun m hm _ => by have := M.h_le hh hm; omega) kn hkn
      rw [e]
      simp only [Option.bind_some]
      rw [imax_nat, w64_succ c (by omega)]
      have ev := v1 i c rfl
      have := M.mx_le (f := h) (P := fun _ => True) p.Tables.length i c trivial
      have this : h i ≤ top p h := this
      refine Depth_l0 hk hh hp hs n (i + 1) _ kn1 (by omega) (by omega) k1 (fun m hm => ?_) (by omega)
      by_cases d : m = i
      · subst d; omega
      · have := h1 m (by omega)
        omega
    · rw [if_neg (by omega)]
      have : top p h ≤ a := M.mx_bound _ fun m hm _ => h1 m (by omega)
      rw [show a = top p h by omega]
theorem Depth_eq (hk : 2100 < k) (hp : PIn p) : ∃ d : Int, (PoolOk p → ∀ h : Nat → Nat, (∀ i, i < p.Tables.length → h i = 1 + M.mx h (E p i) p.Tables.length) → d = (top p h : Int)) ∧ (PoolOk p → fore_Depth.f k p = some (d, 0)) ∧ (¬ PoolOk p → fore_Depth.f k p = some (0, 1)) := by
  unfold fore_Depth.f
  by_cases c : PoolOk p
  · obtain ⟨h, hh⟩ := M.heights c.fine
    have hl := hp.tabs_len
    rw [(May_says (by omega) hp).1 c]
    simp only [Option.bind_some, if_true]
    have all : ∀ g : Nat → Nat, (∀ i, i < p.Tables.length → g i = 1 + M.mx g (E p i) p.Tables.length) → fore_Depth.l0 p k k 0 0 [] = some ((top p g : Int), 0) := fun g hg => by
      have := Depth_l0 (h := g) hk hg hp c.ids k 0 0 [] (by omega) (by omega) (fun d v hm => by simp [mget] at hm) (fun m hm => by omega) (Nat.zero_le _)
      exact this
    refine ⟨(top p h : Int), fun _ g hg => ?_, fun _ => all h hh, fun n => absurd c n⟩
    have a := (all h hh).symm.trans (all g hg)
    injection a with a
    exact (Prod.mk.injEq .. ▸ a : _ ∧ _).1
  · rw [(May_says (by omega) hp).2 c]
    exact ⟨0, fun g => absurd g c, fun g => absurd g c, fun _ => rfl⟩
end Go.Proofs.Ytnaajldlloglkaa.W
