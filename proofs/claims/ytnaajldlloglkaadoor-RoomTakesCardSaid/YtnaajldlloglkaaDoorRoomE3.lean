/- Plain facts: places taken one by one. -/
import Derived.Test.YtnaajldlloglkaaDoorRoomE2
set_option linter.unusedVariables false
set_option linter.unusedSimpArgs false
namespace Go.Proofs.YtnaajldlloglkaaDoor.W
open Go.H
abbrev Pl := Nat × Nat
def place (P : List Device) (t : Pl) : Ptr := ⟨(rd P (t.1 : Int)).ID, (t.2 : Int)⟩
/-- What is left of sets when places are taken. -/
def left (F : Nat → Nat → Bool) (T : List Pl) : Nat → Nat → Bool := fun j i => F j i && !decide ((j, i) ∈ T)
structure Took (P : List Device) (no : Int) (F : Nat → Nat → Bool) (T : List Pl) : Prop where
  nd : T.Nodup
  in_ : ∀ t ∈ T, t.1 < P.length ∧ t.2 < 64 ∧ F t.1 t.2 = true ∧ (rd P (t.1 : Int)).ID ≠ no
  cnt : tot P no (left F T) P.length + T.length = tot P no F P.length
theorem num_one : ∀ a : Fin 64, num (fun i => decide (i = a.val)) = 1 := by decide +kernel
theorem num_less {b : Nat → Bool} {a : Nat} (ha : a < 64) (h : b a = true) : num b = num (fun i => b i && !decide (i = a)) + 1 := by
  have q := S.sec_split (b := b) (c := fun i => decide (i = a)) 0
  have e : num (fun i => b i && decide (i = a)) = 1 := by
    rw [num_congr (c := fun i => decide (i = a)) fun i hi => by
      by_cases c : i = a
      · subst c; simp [h]
      · simp [c]]
    exact num_one ⟨a, ha⟩
  unfold num at e ⊢
  omega
theorem left_nil {F : Nat → Nat → Bool} : left F [] = F := by
  funext j i
  simp [left]
theorem left_snoc {F : Nat → Nat → Bool} {T : List Pl} {m a : Nat} (j i : Nat) : left F (T ++ [(m, a)]) j i = (left F T j i && !decide (j = m ∧ i = a)) := by
  unfold left
  rw [Bool.and_assoc]
  congr 1
  by_cases c : (j, i) ∈ T <;> by_cases d : j = m ∧ i = a
  · simp [c]
  · simp [c]
  · simp [d]
  · have : ¬ (j, i) ∈ T ++ [(m, a)] := fun z => by
      rcases List.mem_append.1 z with z | z
      · exact c z
      · rw [List.mem_singleton] at z
        injection z with z1 z2
        exact d ⟨z1, z2⟩
    simp [c, d, this]
theorem Took.nil {P : List Device} {no : Int} {F : Nat → Nat → Bool} : Took P no F [] := ⟨List.nodup_nil, fun t h => absurd h (List.not_mem_nil), by rw [left_nil]; rfl⟩
theorem Took.snoc {P : List Device} {no : Int} {F : Nat → Nat → Bool} {T : List Pl} (h : Took P no F T) {m a : Nat} (hm : m < P.length) (hid : (rd P (m : Int)).ID ≠ no) (ha : a < 64) (hf : left F T m a = true) : Took P no F (T ++ [(m, a)]) := by
  have hf' := hf
  unfold left at hf'
  rw [Bool.and_eq_true] at hf'
  have nin : ¬ (m, a) ∈ T := by simpa using hf'.2
  refine ⟨?_, fun t ht => ?_, ?_⟩
  · rw [List.nodup_append]
    refine ⟨h.nd, by simp, fun x hx y hy e => ?_⟩
    rw [List.mem_singleton] at hy
    rw [e, hy] at hx
    exact nin hx
  · rcases List.mem_append.1 ht with ht | ht
    · exact h.in_ t ht
    · rw [List.mem_singleton] at ht
      subst ht
      exact ⟨hm, ha, hf'.1, hid⟩
  · have e := tot_less (P := P) (no := no) (F := left F T) (G := left F (T ++ [(m, a)])) (m := m) hid (by
      rw [num_less ha hf]
      congr 1
      exact num_congr fun i _ => by rw [left_snoc]; simp) (fun j i hj _ => by rw [left_snoc]; simp [hj]) P.length hm
    have := h.cnt
    rw [List.length_append]
    simp only [List.length_cons, List.length_nil]
    omega
/-- One place more. -/
theorem one_step {P x : List Device} {k : Nat} {F L : Nat → Nat → Bool} {no : Int} (hk : 1000 < k) (hP : DevsOk P) (s : Sets P F L x) {m : Nat} (hm : m < P.length) (hn : 0 < num (F m)) :
    ∃ (a : Nat) (u v w : Int), a < 64 ∧ F m a = true ∧ (∀ j, j < a → F m j = false) ∧ seg_Make.f k (rd x (m : Int)).Free = some u ∧ seg_Set_Least.f u = some (a : Int) ∧ seg_One.f (a : Int) = some v ∧ seg_Set_Segs.f k (uandn u v) = some (S.segsOf fun i => F m i && !decide (i = a)) := by
  rw [s.at_ m hm]
  simp only
  obtain ⟨u, eu, hu⟩ := Make_segs (b := F m) hk
  have u0 : u ≠ 0 := fun z => by
    have q := hu.zero_iff.1 z
    have : num (F m) = num (fun _ => false) := num_congr q
    have z : num (fun _ => false) = 0 := by decide +kernel
    omega
  obtain ⟨a, ha, h1, h2, h3, _⟩ := S.least hu u0
  obtain ⟨v, ev, hv⟩ := S.One_set (n := (a : Int)) (by omega) (by omega)
  refine ⟨a, u, v, 0, ha, h1, h2, eu, h3, ev, ?_⟩
  rw [S.Set_Segs_eq ((hu.andn hv).congr (c := fun i => F m i && !decide (i = a)) fun i _ => by
    congr 2
    simp only [decide_eq_decide]
    omega) (by omega)]
theorem Take_l0 {P : List Device} {k : Nat} {F L : Nat → Nat → Bool} {no : Int} {c : Nat} (hk : 1000 < k) (hP : DevsOk P) (hc : c ≤ tot P no F P.length) : ∀ (n : Nat) (T : List Pl) (x : List Device), T.length ≤ c → c - T.length < n → Sets P (left F T) L x → Took P no F T →
    ∃ T' x', T'.length = c ∧ Took P no F T' ∧ Sets P (left F T') L x' ∧ room_Take.l0 (c : Int) no k n x (T.map (place P)) (T.length : Int) = some (T'.map (place P), x', 0)
  | 0, T, x, _, h, _, _ => by omega
  | n + 1, T, x, hT, hn, s, t => by
    have hl := hP.1
    have hx := s.len
    have tb := tot_le P no F P.length
    rw [room_Take.l0]
    by_cases d : T.length < c
    · have tc := t.cnt
      rcases best_at P no (left F T) P.length with ⟨_, _, z⟩ | ⟨m, hm, e1, e2, e3, _⟩
      · omega
      · rw [if_pos (by omega), emptiest_eq hk hP s, e1]
        simp only [Option.bind_some]
        obtain ⟨a, u, v, w, ha, h1, h2, eu, el, ev, es⟩ := one_step (no := no) hk hP s hm e3
        rw [if_neg (by omega), if_pos (by omega), eu]
        simp only [Option.bind_some]
        rw [if_pos (by omega), el]
        simp only [Option.bind_some]
        rw [ev]
        simp only [Option.bind_some]
        rw [es]
        simp only [Option.bind_some]
        rw [if_pos (by omega)]
        unfold room_Take.j2
        rw [if_pos (by rw [List.length_map]; omega), w64_succ d (by omega), s.at_ m hm]
        simp only [Int.toNat_natCast]
        have q := s.set hm (b := fun i => left F T m i && !decide (i = a)) (c := L m)
        have t' := t.snoc hm e2 ha h1
        have s' : Sets P (left F (T ++ [(m, a)])) L (x.set m ⟨(rd P (m : Int)).ID, (rd P (m : Int)).Size, S.segsOf (fun i => left F T m i && !decide (i = a)), S.segsOf (L m)⟩) := by
          refine ⟨q.len, fun j hj => ?_⟩
          rw [q.at_ j hj]
          by_cases z : j = m
          · subst z
            simp only [if_true]
            rw [S.segsOf_congr (c := left F (T ++ [(j, a)]) j) fun i _ => by rw [left_snoc]; simp]
          · simp only [if_neg z]
            rw [S.segsOf_congr (c := left F (T ++ [(m, a)]) j) fun i _ => by rw [left_snoc]; simp [z]]
        have ih := Take_l0 hk hP hc n (T ++ [(m, a)]) _ (by rw [List.length_append]; simp only [List.length_cons, List.length_nil]; omega) (by rw [List.length_append]; simp only [List.length_cons, List.length_nil]; omega) s' t'
        rw [List.map_append, List.length_append] at ih
        exact ih
    · rw [if_neg (by omega)]
      unfold room_Take.j1
      rw [if_pos rfl]
      exact ⟨T, x, by omega, t, s, rfl⟩
theorem Take_eq {P x : List Device} {k : Nat} {F L : Nat → Nat → Bool} {no : Int} {c : Nat} (hk : 1000 < k) (hP : DevsOk P) (s : Sets P F L x) (o : SetsOk P F L) (hc : c ≤ tot P no F P.length) :
    ∃ T x', T.length = c ∧ Took P no F T ∧ Sets P (left F T) L x' ∧ room_Take.f k x (c : Int) no = some (T.map (place P), x', 0) := by
  have ox := s.ok hP o
  have hl := hP.1
  have tb := tot_le P no F P.length
  unfold room_Take.f
  rw [(room_May_says hk (devs_in ox)).1 ox]
  simp only [Option.bind_some, if_true]
  rw [if_neg (by omega), decide_eq_false (by omega)]
  unfold room_Take.j0
  rw [if_neg (by simp), Own_eq hk ox]
  simp only [Option.bind_some]
  rw [Free_eq hk hP s]
  simp only [Option.bind_some]
  rw [if_neg (by omega)]
  have q := Take_l0 (F := F) (L := L) (no := no) (c := c) hk hP hc k [] x (by simp) (by simp; omega) (by rw [left_nil]; exact s) Took.nil
  exact q
end Go.Proofs.YtnaajldlloglkaaDoor.W
