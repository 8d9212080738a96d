/- Plain facts: the depth as the page counts it. -/
import Derived.Test.YtnaajldlloglkaaForeF8
set_option linter.unusedVariables false
set_option linter.unusedSimpArgs false
namespace Go.Proofs.Ytnaajldlloglkaa.W
open Go.H
variable {p : Pool} {k : Nat}
structure RelI (p : Pool) (lt : List Int) (a : Nat → Nat) : Prop where
  len : lt.length = p.Tables.length
  all : ∀ j : Nat, j < p.Tables.length → rd lt (j : Int) = (a j : Int)
theorem refDepth_l2 (hk : 1000 < k) (hp : PIn p) (hs : IdsOk p) {i : Nat} (hi : i < p.Tables.length) {a : Nat → Nat} {lt : List Int} (hr : RelI p lt a) (hb : ∀ j, j < p.Tables.length → a j ≤ 1000) (m4 : Int) (re : List Int → Int → Int → Option Int) :
    ∀ (n j b : Nat), j ≤ (ls p i).length → (ls p i).length - j < n → (∀ m, m < p.Tables.length → (∃ y ∈ (ls p i).take j, y.Dev = dv p m) → a m ≤ b) → (b = 0 ∨ ∃ m, m < p.Tables.length ∧ E p i m ∧ b = a m) →
    hermitageref9_Depth.l2 p k m4 i lt re n b j = re (lt.set i ((1 + M.mx a (E p i) p.Tables.length : Nat) : Int)) (imax m4 ((1 + M.mx a (E p i) p.Tables.length : Nat) : Int)) (w64 ((i : Int) + 1))
  | 0, j, b, _, h, _, _ => by omega
  | n + 1, j, b, hj, hn, h1, h2 => by
    have hl : (ls p i).length ≤ 1000 := hp.tabs _ (rd_mem hi)
    have hlt := hr.len
    rw [hermitageref9_Depth.l2, if_pos (by omega)]
    by_cases c : j < (ls p i).length
    · rw [if_pos (show (j : Int) < ((ls p i).length : Int) by omega), if_pos (by omega), if_pos (show 0 ≤ (j : Int) ∧ (j : Int) < ((ls p i).length : Int) by omega)]
      have f1 : (ls p i).length - (j + 1) < n := by clear h2; omega
      have tk : (ls p i).take (j + 1) = (ls p i).take j ++ [rd (ls p i) (j : Int)] := by rw [List.take_succ_eq_append_getElem c, rd_nat c]
      rcases ref_Table_spot hk hp (rd (ls p i) (j : Int)).Dev with ⟨m, hm, e, f⟩ | ⟨no, f⟩
      · have f : hermitageref9_Table.f k p (rd ((rd p.Tables (i : Int)).List_) (j : Int)).Dev = some (m : Int) := f
        rw [f]
        simp only [Option.bind_some]
        rw [if_pos (by omega), if_pos (by omega), hr.all m hm, imax_nat]
        unfold hermitageref9_Depth.j0
        rw [w64_succ c (by omega)]
        have q := max_ent (h := a) (rd_mem c) h1 h2 (v := a m) (fun m' hm' e' => by rw [dv_inj hs hm' hm (e'.trans e.symm)]) (fun no => absurd e (no m hm))
        exact refDepth_l2 hk hp hs hi hr hb m4 re n (j + 1) _ c f1 (by rw [tk]; exact q.1) q.2
      · have f : hermitageref9_Table.f k p (rd ((rd p.Tables (i : Int)).List_) (j : Int)).Dev = some (-1) := f
        rw [f]
        simp only [Option.bind_some]
        rw [if_neg (by omega)]
        unfold hermitageref9_Depth.j0
        rw [w64_succ c (by omega)]
        have q := max_ent (h := a) (rd_mem c) h1 h2 (v := 0) (fun m' hm' e' => absurd e' (no m' hm')) (fun _ => rfl)
        rw [Nat.max_eq_left (Nat.zero_le b)] at q
        exact refDepth_l2 hk hp hs hi hr hb m4 re n (j + 1) _ c f1 (by rw [tk]; exact q.1) q.2
    · rw [if_neg (show ¬ (j : Int) < ((ls p i).length : Int) by omega)]
      rw [List.take_of_length_le (by clear h2; omega)] at h1
      have eb : b = M.mx a (E p i) p.Tables.length := M.mx_eq h1 h2
      have bb : M.mx a (E p i) p.Tables.length ≤ 1000 := M.mx_bound _ fun m hm _ => hb m hm
      clear h2
      rw [w64_id (by omega) (by omega), Int.toNat_natCast, show ((b : Int) + 1) = ((1 + M.mx a (E p i) p.Tables.length : Nat) : Int) by omega]
      rw [if_pos (by omega), if_pos (by rw [List.length_set]; omega), rd_setB (by omega) (by omega), if_pos rfl]
theorem refDepth_l1 {h : Nat → Nat} (hk : 1000 < k) (hp : PIn p) (hs : IdsOk p) (hh : ∀ i, i < p.Tables.length → h i = 1 + M.mx h (E p i) p.Tables.length) {t : Nat} (it : Int) (re : List Int → Int → Int → Option Int) :
    ∀ (n i m4 : Nat) (lt : List Int) (a : Nat → Nat), i ≤ p.Tables.length → p.Tables.length - i < n → RelI p lt a → M.Near p.Tables.length h t i a → (∀ j, j < i → a j ≤ m4) → m4 ≤ top p h →
    ∃ lt' a' m4', RelI p lt' a' ∧ M.Near p.Tables.length h t p.Tables.length a' ∧ (∀ j, j < p.Tables.length → a' j ≤ m4') ∧ m4' ≤ top p h ∧ hermitageref9_Depth.l1 p k it re n lt (m4 : Nat) i = re lt' (m4' : Nat) (w64 (it + 1))
  | 0, i, m4, lt, a, _, h, _, _, _, _ => by omega
  | n + 1, i, m4, lt, a, hi, hn, hr, hne, hm, ht => by
    have hl := hp.tabs_len
    have hlt := hr.len
    rw [hermitageref9_Depth.l1]
    by_cases c : i < p.Tables.length
    · rw [if_pos (by omega)]
      have hb : ∀ j, j < p.Tables.length → a j ≤ 1000 := fun j hj => by
        have := (hne.all j hj).1
        have := M.h_le hh hj
        omega
      have q := refDepth_l2 hk hp hs c hr hb (m4 : Int) (hermitageref9_Depth.l1 p k it re n) k 0 0 (by omega) (by have : (ls p i).length ≤ 1000 := hp.tabs _ (rd_mem c); omega) (fun m _ ⟨y, hy, _⟩ => by simp at hy) (.inl rfl)
      have q : hermitageref9_Depth.l2 p k (m4 : Int) i lt (hermitageref9_Depth.l1 p k it re n) k 0 0 = hermitageref9_Depth.l1 p k it re n (lt.set i ((1 + M.mx a (E p i) p.Tables.length : Nat) : Int)) (imax m4 ((1 + M.mx a (E p i) p.Tables.length : Nat) : Int)) (w64 ((i : Int) + 1)) := q
      rw [q, imax_nat, w64_succ c (by omega)]
      have near := M.near_step hh c hne rfl
      have up : 1 + M.mx a (E p i) p.Tables.length ≤ top p h := by
        have w := (near.all i c).1
        simp only [if_true] at w
        have : h i ≤ top p h := M.mx_le (f := h) (P := fun _ => True) p.Tables.length i c trivial
        omega
      refine refDepth_l1 hk hp hs hh it re n (i + 1) _ _ _ (by omega) (by omega) ⟨by rw [List.length_set]; exact hlt, fun j hj => ?_⟩ near (fun j hj => ?_) (by omega)
      · rw [rd_setB (by omega) (by omega)]
        by_cases d : j = i
        · rw [if_pos d, if_pos d]
        · rw [if_neg d, if_neg d, hr.all j hj]
      · by_cases d : j = i
        · rw [if_pos d]; omega
        · rw [if_neg d]
          have := hm j (by omega)
          omega
    · rw [if_neg (by omega)]
      have : i = p.Tables.length := by omega
      subst this
      exact ⟨lt, a, m4, hr, hne, hm, ht, rfl⟩
theorem refDepth_l0 {h : Nat → Nat} (hk : 1000 < k) (hp : PIn p) (hs : IdsOk p) (hh : ∀ i, i < p.Tables.length → h i = 1 + M.mx h (E p i) p.Tables.length) :
    ∀ (n t m4 : Nat) (lt : List Int) (a : Nat → Nat), t ≤ p.Tables.length → p.Tables.length - t < n → RelI p lt a → M.Near p.Tables.length h t 0 a → (0 < t → ∀ j, j < p.Tables.length → a j ≤ m4) → m4 ≤ top p h →
    hermitageref9_Depth.l0 p k n lt (m4 : Nat) t = some (top p h : Int)
  | 0, t, m4, lt, a, _, h, _, _, _, _ => by omega
  | n + 1, t, m4, lt, a, hi, hn, hr, hne, hm, ht => by
    have hl := hp.tabs_len
    rw [hermitageref9_Depth.l0]
    by_cases c : t < p.Tables.length
    · rw [if_pos (by omega)]
      obtain ⟨lt', a', m4', r1, r2, r3, r4, e⟩ := refDepth_l1 hk hp hs hh (t := t) (t : Int) (hermitageref9_Depth.l0 p k n) k 0 m4 lt a (by omega) (by omega) hr hne (fun j hj => by omega) ht
      have e : hermitageref9_Depth.l1 p k (t : Int) (hermitageref9_Depth.l0 p k n) k lt (m4 : Nat) 0 = hermitageref9_Depth.l0 p k n lt' (m4' : Nat) (w64 ((t : Int) + 1)) := e
      rw [e, w64_succ c (by omega)]
      exact refDepth_l0 hk hp hs hh n (t + 1) m4' lt' a' (by omega) (by omega) r1 (M.near_next r2) (fun _ => r3) r4
    · rw [if_neg (by omega)]
      have : top p h ≤ m4 := M.mx_bound _ fun j hj _ => by
        have q := (hne.all j hj).2.1
        have := M.h_le hh hj
        have := hm (by omega) j hj
        omega
      rw [show m4 = top p h by omega]
theorem refDepth_eq {h : Nat → Nat} (hk : 1000 < k) (hp : PIn p) (hs : IdsOk p) (hh : ∀ i, i < p.Tables.length → h i = 1 + M.mx h (E p i) p.Tables.length) : hermitageref9_Depth.f k p = some (top p h : Int) := by
  have hl := hp.tabs_len
  unfold hermitageref9_Depth.f
  rw [if_pos (by omega), Int.toNat_natCast]
  refine refDepth_l0 hk hp hs hh k 0 0 _ (fun _ => 0) (by omega) (by omega) ⟨by simp, fun j hj => ?_⟩ ⟨fun j hj => ⟨by omega, by omega, fun z => by omega⟩⟩ (fun z => by omega) (Nat.zero_le _)
  rw [rd_nat (by simpa using hj)]
  simp
theorem Depth_yes (hk : 2100 < k) (hp : PIn p) (c : PoolOk p) : ∃ d : Int, fore_Depth.f k p = some (d, 0) ∧ hermitageref9_Depth.f k p = some d := by
  obtain ⟨h, hh⟩ := M.heights c.fine
  have hl := hp.tabs_len
  refine ⟨(top p h : Int), ?_, refDepth_eq (by omega) hp c.ids hh⟩
  unfold fore_Depth.f
  rw [(May_says (by omega) hp).1 c]
  simp only [Option.bind_some, if_true]
  exact Depth_l0 (h := h) hk hh hp c.ids k 0 0 [] (by omega) (by omega) (fun d v hm => by simp [mget] at hm) (fun m hm => by omega) (Nat.zero_le _)
theorem Depth_no (hk : 2100 < k) (hp : PIn p) (c : ¬ PoolOk p) : fore_Depth.f k p = some (0, 1) := by
  unfold fore_Depth.f
  rw [(May_says (by omega) hp).2 c]
  rfl
end Go.Proofs.Ytnaajldlloglkaa.W
