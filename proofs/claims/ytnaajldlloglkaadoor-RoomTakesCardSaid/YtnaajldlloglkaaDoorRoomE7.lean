/- The plain law of RoomTakes. -/
import Derived.Test.YtnaajldlloglkaaDoorRoomE6
import Derived.Test.YtnaajldlloglkaaDoorRoomH5
set_option linter.unusedVariables false
set_option linter.unusedSimpArgs false
namespace Go.Proofs.YtnaajldlloglkaaDoor.W
open Go.H
theorem smash3 {it2 : Int} {lt0 : List Device} {re : List Device → Int → Option Bool} : ∀ (n i : Nat) (l : List Seg), l.length ≤ 1000 → i ≤ l.length → l.length - i < n → hermitagelaw7_RoomExact.l3 it2 lt0 re n l (i : Int) = hermitagelaw7_RoomExact.j11 it2 lt0 re
  | 0, i, l, _, _, h => by omega
  | n + 1, i, l, hl, hi, hn => by
    rw [hermitagelaw7_RoomExact.l3]
    by_cases c : i < l.length
    · rw [if_pos (by omega), if_pos (by omega), w64_succ c (by omega)]
      exact smash3 n (i + 1) _ (by rw [List.length_set]; exact hl) (by rw [List.length_set]; omega) (by rw [List.length_set]; omega)
    · rw [if_neg (by omega)]
theorem smash2 {k : Nat} {it2 : Int} {lt0 : List Device} {re : List Device → Int → Option Bool} : ∀ (n i : Nat) (l : List Seg), l.length ≤ 1000 → i ≤ l.length → l.length - i < n → hermitagelaw7_RoomExact.l2 k it2 lt0 re n l (i : Int) = hermitagelaw7_RoomExact.j10 k it2 lt0 re
  | 0, i, l, _, _, h => by omega
  | n + 1, i, l, hl, hi, hn => by
    rw [hermitagelaw7_RoomExact.l2]
    by_cases c : i < l.length
    · rw [if_pos (by omega), if_pos (by omega), w64_succ c (by omega)]
      exact smash2 n (i + 1) _ (by rw [List.length_set]; exact hl) (by rw [List.length_set]; omega) (by rw [List.length_set]; omega)
    · rw [if_neg (by omega)]
theorem smash1 {k : Nat} (hk : 1000 < k) {l : List Device} {it4 : Int} {y3 : List Device} {it9 : Int} {w : List Device} {re : List Device → Int → Option Bool} : ∀ (n i : Nat) (x : List Device), x.length ≤ 1000 → DevsIn x → i ≤ x.length → x.length - i < n → hermitagelaw7_RoomExact.l1 k l it4 y3 it9 w re n x (i : Int) = hermitagelaw7_RoomExact.j9 k l it4 y3 it9 w re
  | 0, i, x, _, _, _, h => by omega
  | n + 1, i, x, hl, hx, hi, hn => by
    rw [hermitagelaw7_RoomExact.l1]
    by_cases c : i < x.length
    · have e := hx _ (rd_mem c)
      have q2 := smash2 (k := k) (it2 := (i : Int)) (lt0 := x) (re := hermitagelaw7_RoomExact.l1 k l it4 y3 it9 w re n) k 0 (rd x (i : Int)).Free e.1 (by omega) (by omega)
      have q2 : hermitagelaw7_RoomExact.l2 k (i : Int) x (hermitagelaw7_RoomExact.l1 k l it4 y3 it9 w re n) k (rd x (i : Int)).Free 0 = hermitagelaw7_RoomExact.j10 k (i : Int) x (hermitagelaw7_RoomExact.l1 k l it4 y3 it9 w re n) := q2
      have q3 := smash3 (it2 := (i : Int)) (lt0 := x) (re := hermitagelaw7_RoomExact.l1 k l it4 y3 it9 w re n) k 0 (rd x (i : Int)).Late e.2 (by omega) (by omega)
      have q3 : hermitagelaw7_RoomExact.l3 (i : Int) x (hermitagelaw7_RoomExact.l1 k l it4 y3 it9 w re n) k (rd x (i : Int)).Late 0 = hermitagelaw7_RoomExact.j11 (i : Int) x (hermitagelaw7_RoomExact.l1 k l it4 y3 it9 w re n) := q3
      rw [if_pos (by omega), if_pos (by omega), q2]
      unfold hermitagelaw7_RoomExact.j10
      rw [if_pos (by omega), q3]
      unfold hermitagelaw7_RoomExact.j11
      rw [if_pos (by omega), w64_succ c (by omega)]
      exact smash1 hk n (i + 1) _ (by rw [List.length_set]; exact hl) (fun d hd => by
        rcases List.mem_or_eq_of_mem_set hd with h | h
        · exact hx d h
        · rw [h]; exact ⟨by simp, by simp⟩) (by rw [List.length_set]; omega) (by rw [List.length_set]; omega)
    · rw [if_neg (by omega)]
theorem EqPtrs_self {l : List Ptr} {k : Nat} (hl : l.length ≤ 1000) (hk : 1000 < k) : hermitageref0_EqPtrs.f k l l = some true := by
  unfold hermitageref0_EqPtrs.f
  rw [if_pos rfl]
  refine (loop_says (f := hermitageref0_EqPtrs.l0 l l) (len := l.length) (E := some true) (F := some true) (P := fun _ => True) ?_ ?_ ?_ k 0 (by omega) (by omega)).1 fun _ _ _ => trivial
  · intro n i c _
    rw [hermitageref0_EqPtrs.l0, if_pos (by omega), if_pos (by omega), if_pos (by omega), if_pos rfl, w64_succ c (by omega)]
  · intro n i c a
    exact absurd trivial a
  · intro n
    rw [hermitageref0_EqPtrs.l0, if_neg (by omega)]
theorem CopyPtrs_l0 {l : List Ptr} (hl : l.length ≤ 1000) : ∀ (n i : Nat), i ≤ l.length → l.length - i < n → hermitageref0_CopyPtrs.l0 l n (l.take i) i = some l
  | 0, i, _, h => by omega
  | n + 1, i, hi, hn => by
    rw [hermitageref0_CopyPtrs.l0]
    by_cases c : i < l.length
    · rw [if_pos (by omega), if_pos (by omega), if_pos (by rw [List.length_take]; omega), w64_succ c (by omega), rd_nat c, ← List.take_succ_eq_append_getElem c]
      exact CopyPtrs_l0 hl n (i + 1) (by omega) (by omega)
    · rw [if_neg (by omega), List.take_of_length_le (by omega)]
theorem CopyPtrs_eq {l : List Ptr} {k : Nat} (hl : l.length ≤ 1000) (hk : 1000 < k) : hermitageref0_CopyPtrs.f k l = some l := CopyPtrs_l0 hl k 0 (by omega) (by omega)
theorem Used_both {l : List Device} {k : Nat} {no : Int} (hk : 1000 < k) (c : DevsOk l) (i0 : -9223372036854775808 ≤ no) (i1 : no < 9223372036854775808) :
    (∃ (u : Int) (m : Nat), room_Used.f k l no = some (u, 0) ∧ m < l.length ∧ hermitageref7_At.f k l no = some (m : Int) ∧ hermitageref7_Used.f k (rd l (m : Int)) = some u) ∨ (room_Used.f k l no = some (0, 3) ∧ hermitageref7_At.f k l no = some (-1)) := by
  have hl := c.1
  unfold room_Used.f
  rw [(room_May_says hk (devs_in c)).1 c]
  simp only [Option.bind_some, if_true]
  rcases room_Find_spot hk c i0 i1 with ⟨m, hm, e, f⟩ | ⟨no', m, f⟩
  · rcases ref_At_spot hk (l := l) (by omega) no with ⟨m', hm', e', f'⟩ | ⟨no'', f'⟩
    · have em : m = m' := id_inj c hm hm' (by rw [e']; exact e)
      subst em
      left
      have d := (c.2 m (by omega) hm).1
      obtain ⟨x, ex, hx⟩ := Busy_set hk d
      refine ⟨(usedN (rd l (m : Int)) : Int), m, ?_, hm, f', Used_eq hk d⟩
      rw [f]
      simp only [Option.bind_some, if_true]
      rw [if_pos (by omega), ex]
      simp only [Option.bind_some]
      rw [S.Count_eq hx]
      rfl
    · exact absurd e (no'' m hm)
  · rcases ref_At_spot hk (l := l) (by omega) no with ⟨m', hm', e', f'⟩ | ⟨no'', f'⟩
    · exact absurd e' (no' m' hm')
    · right
      refine ⟨?_, f'⟩
      rw [f]
      simp only [Option.bind_some]
      rw [if_neg (by simp)]
/-- The two sides are alike: the act's end. -/
theorem tail7 {p : Script} {k : Nat} (hk : 1000 < k) {l : List Device} (hl : l.length ≤ 1000) (hin : DevsIn l) {i : Nat} (hi : i < p.A.length) (hA : p.A.length ≤ 800) (hP : (rd p.A (i : Int)).P.length ≤ 1000) (n0 : -9223372036854775808 ≤ (rd p.A (i : Int)).Not) (n1 : (rd p.A (i : Int)).Not < 9223372036854775808)
    {b : Bool} (hb : b = true ↔ DevsOk l) {e : Int} {x : List Device} {q : List Ptr} (hx : x.length ≤ 1000) (hxin : DevsIn x) (hq : q.length ≤ 1000) (re : List Device → Int → Option Bool) :
    hermitagelaw7_RoomExact.j2 p k l i l (rd p.A (i : Int)).P b re e x x q q e = re (if e = 0 then x else l) ((i + 1 : Nat) : Int) := by
  have fin : ∀ y14 it20 it21 y16 it24 it25 (h1 : y14 = ((it21 : Int), (it20 : Int))) (h2 : y16 = ((it25 : Int), (it24 : Int))), hermitagelaw7_RoomExact.j7 p k l i l (rd p.A (i : Int)).P b e x x q q e y14 it20 it21 y16 re it24 it25 = re (if e = 0 then x else l) ((i + 1 : Nat) : Int) := by
    intro y14 it20 it21 y16 it24 it25 h1 h2
    subst h1 h2
    unfold hermitagelaw7_RoomExact.j7
    simp only [num7, Option.bind_some, if_true]
    rw [EqDs_self hk hx hxin]
    simp only [Option.bind_some, if_true]
    rw [EqPtrs_self hq hk]
    simp only [Option.bind_some, if_true]
    rw [EqDs_self hk hl hin]
    simp only [Option.bind_some, if_true]
    rw [EqPtrs_self hP hk]
    simp only [Option.bind_some, if_true]
    unfold room_Check.f
    have hc : (room_May.f k l).bind (fun y1 => if y1 = true then some (0 : Int) else some 1) = some (if b = true then 0 else 1) := by
      by_cases c : DevsOk l
      · rw [(room_May_says hk hin).1 c, if_pos (hb.2 c)]; rfl
      · rw [(room_May_says hk hin).2 c, if_neg fun z => c (hb.1 z)]; rfl
    rw [hc]
    simp only [Option.bind_some]
    have hz : (!(((if b = true then (0 : Int) else 1) == 0) == b)) = false := by cases b <;> rfl
    rw [hz]
    unfold hermitagelaw7_RoomExact.j8
    rw [if_neg (by simp)]
    have sm := smash1 hk (l := l) (it4 := (i : Int)) (y3 := l) (it9 := e) (w := x) (re := re) k 0 x hx hxin (by omega) (by omega)
    have sm : hermitagelaw7_RoomExact.l1 k l i l e x re k x 0 = hermitagelaw7_RoomExact.j9 k l i l e x re := sm
    rw [sm]
    unfold hermitagelaw7_RoomExact.j9
    rw [EqDs_self hk hl hin]
    simp only [Option.bind_some, if_true]
    by_cases z : e = 0
    · rw [if_pos z, if_pos z, CopyDs_eq hk hx hxin]
      simp only [Option.bind_some]
      unfold hermitagelaw7_RoomExact.j1
      rw [if_pos rfl, w64_succ hi (by omega)]
    · rw [if_neg z, if_neg z]
      unfold hermitagelaw7_RoomExact.j1
      rw [if_pos rfl, w64_succ hi (by omega)]
  unfold hermitagelaw7_RoomExact.j2
  by_cases c : DevsOk l
  · rw [Count_eq2 hk c c.sets c.setsOk]
    simp only [Option.bind_some]
    rw [if_pos (hb.2 c), refCount7_eq hk c c.sets]
    simp only [Option.bind_some]
    unfold hermitagelaw7_RoomExact.j6
    rcases Used_both hk c n0 n1 with ⟨u, m, e1, hm, e2, e3⟩ | ⟨e1, e2⟩
    · rw [e1]
      simp only [Option.bind_some]
      rw [if_pos (hb.2 c), e2]
      simp only [Option.bind_some]
      rw [if_pos (by omega), if_pos (by omega), e3]
      simp only [Option.bind_some]
      exact fin _ _ _ _ _ _ rfl rfl
    · rw [e1]
      simp only [Option.bind_some]
      rw [if_pos (hb.2 c), e2]
      simp only [Option.bind_some]
      rw [if_neg (by omega)]
      exact fin _ _ _ _ _ _ rfl rfl
  · have nb : ¬ b = true := fun z => c (hb.1 z)
    unfold room_Count.f
    rw [(room_May_says hk hin).2 c]
    simp only [Option.bind_some]
    rw [if_neg (by simp)]
    simp only [Option.bind_some]
    rw [if_neg nb]
    unfold hermitagelaw7_RoomExact.j6 room_Used.f
    rw [(room_May_says hk hin).2 c]
    simp only [Option.bind_some]
    rw [if_neg (by simp)]
    simp only [Option.bind_some]
    rw [if_neg nb]
    exact fin _ _ _ _ _ _ rfl rfl
theorem within0 : hermitagelaw0_Within.f 0 5 = some 0 := by decide +kernel
theorem within4 : hermitagelaw0_Within.f 4 5 = some 4 := by decide +kernel
theorem Take_bad {l : List Device} {k : Nat} {n no : Int} (hk : 1000 < k) (hin : DevsIn l) (h : ¬ DevsOk l ∨ ¬ (0 ≤ n ∧ n ≤ 384)) : room_Take.f k l n no = some ([], [], 1) := by
  unfold room_Take.f
  by_cases c : DevsOk l
  · have h : ¬ (0 ≤ n ∧ n ≤ 384) := h.resolve_left fun z => z c
    rw [(room_May_says hk hin).1 c]
    simp only [Option.bind_some, if_true]
    by_cases d : n < 0
    · rw [if_pos d]
      unfold room_Take.j0
      rw [if_pos rfl]
    · rw [if_neg d, decide_eq_true (by omega)]
      unfold room_Take.j0
      rw [if_pos rfl]
  · rw [(room_May_says hk hin).2 c]
    simp only [Option.bind_some]
    rw [if_neg (by simp)]
    unfold room_Take.j0
    rw [if_pos rfl]
/-- An act that takes, or commits. -/
theorem act7 {p : Script} {k : Nat} (hk : 1000 < k) {l : List Device} (hl : l.length ≤ 1000) (hin : DevsIn l) {i : Nat} (hi : i < p.A.length) (hA : p.A.length ≤ 800) (hP : (rd p.A (i : Int)).P.length ≤ 1000) (n0 : -9223372036854775808 ≤ (rd p.A (i : Int)).Not) (n1 : (rd p.A (i : Int)).Not < 9223372036854775808)
    (hd : (rd p.A (i : Int)).Do = 0 ∨ (rd p.A (i : Int)).Do = 4) (re : List Device → Int → Option Bool) :
    ∃ l', l'.length ≤ 1000 ∧ DevsIn l' ∧ hermitagelaw7_RoomExact.j0 p k l i re true = re l' ((i + 1 : Nat) : Int) := by
  unfold hermitagelaw7_RoomExact.j0
  rw [if_pos rfl, if_pos (by omega), CopyDs_eq hk hl hin]
  simp only [Option.bind_some]
  rw [CopyPtrs_eq hP hk]
  simp only [Option.bind_some]
  obtain ⟨b, eb, _, hb⟩ := (ref_Devices_says hk hin).both (ref_Devices_says hk hin)
  rw [eb]
  simp only [Option.bind_some]
  have hnil : DevsIn [] := fun d hd => by simp at hd
  have tl : ∀ {e : Int} {x : List Device} {q : List Ptr}, x.length ≤ 1000 → DevsIn x → q.length ≤ 1000 → ∃ l', l'.length ≤ 1000 ∧ DevsIn l' ∧ hermitagelaw7_RoomExact.j2 p k l i l (rd p.A (i : Int)).P b re e x x q q e = re l' ((i + 1 : Nat) : Int) := fun {e x q} h1 h2 h3 => by
    refine ⟨if e = 0 then x else l, ?_, ?_, tail7 hk hl hin hi hA hP n0 n1 hb h1 h2 h3 re⟩
    · split
      · exact h1
      · exact hl
    · split
      · exact h2
      · exact hin
  rcases hd with hd | hd
  · rw [hd, within0]
    simp only [Option.bind_some, if_true]
    unfold hermitagelaw7_RoomExact.j3
    rw [if_pos (by rfl)]
    by_cases c : DevsOk l
    · by_cases r : 0 ≤ (rd p.A (i : Int)).N ∧ (rd p.A (i : Int)).N ≤ 384
      · obtain ⟨m, em⟩ := Int.eq_ofNat_of_zero_le r.1
        have er : (0 : Int) ≤ (rd p.A (i : Int)).N ∧ (rd p.A (i : Int)).N ≤ 384 := r
        have nn : hermitageref0_Num.f (rd p.A (i : Int)).N 384 = some true := by
          unfold hermitageref0_Num.f
          rw [if_pos r.1, decide_eq_true r.2]
        rw [nn, em]
        by_cases t : m ≤ tot l (rd p.A (i : Int)).Not (fun j => S.mem (rd l (j : Int)).Free) l.length
        · obtain ⟨q, y, oy, hq, e1, e2⟩ := Takes_eq hk c c.sets c.setsOk t
          rw [e1]
          simp only [Option.bind_some]
          rw [if_pos (hb.2 c)]
          unfold hermitagelaw7_RoomExact.j4
          rw [if_pos rfl, em, e2]
          simp only [Option.bind_some, if_true]
          exact tl (by have := oy.1; omega) (devs_in oy) (by omega)
        · obtain ⟨e1, e2⟩ := Takes_full hk c c.sets c.setsOk t (by omega)
          rw [e1]
          simp only [Option.bind_some]
          rw [if_pos (hb.2 c)]
          unfold hermitagelaw7_RoomExact.j4
          rw [if_pos rfl, em, e2]
          simp only [Option.bind_some]
          rw [if_neg (by simp)]
          exact tl (by simp) hnil (by simp)
      · rw [Take_bad hk hin (.inr r)]
        simp only [Option.bind_some]
        rw [if_pos (hb.2 c)]
        have nn : hermitageref0_Num.f (rd p.A (i : Int)).N 384 = some false := by
          unfold hermitageref0_Num.f
          by_cases z : 0 ≤ (rd p.A (i : Int)).N
          · rw [if_pos z, decide_eq_false fun w => r ⟨z, w⟩]
          · rw [if_neg z]
        rw [nn]
        simp only [Option.bind_some]
        unfold hermitagelaw7_RoomExact.j4
        rw [if_neg (by simp)]
        exact tl (by simp) hnil (by simp)
    · rw [Take_bad hk hin (.inl c)]
      simp only [Option.bind_some]
      rw [if_neg fun z => c (hb.1 z)]
      unfold hermitagelaw7_RoomExact.j4
      rw [if_neg (by simp)]
      exact tl (by simp) hnil (by simp)
  · rw [hd, within4]
    simp only [Option.bind_some]
    rw [if_neg (by omega)]
    unfold hermitagelaw7_RoomExact.j3
    rw [if_neg (by decide), if_neg (by omega)]
    unfold hermitagelaw7_RoomExact.j5
    rw [if_neg (by decide)]
    by_cases c : DevsOk l
    · obtain ⟨y, oy, e1, e2⟩ := Commits_eq hk c c.sets c.setsOk
      rw [e1]
      simp only [Option.bind_some]
      rw [if_pos (hb.2 c), e2]
      simp only [Option.bind_some]
      exact tl (by have := oy.1; omega) (devs_in oy) (by simp)
    · rw [Commit_bad hk hin c]
      simp only [Option.bind_some]
      rw [if_neg fun z => c (hb.1 z)]
      exact tl (by simp) hnil (by simp)
theorem Exact7_l0 {p : Script} {k : Nat} (hk : 1000 < k) (hw : hermitagelaw7_wakes.f k = some true) (lt : LightR p) (hn : ∀ a ∈ p.A, (a.Do = 0 ∨ a.Do = 4) ∧ -9223372036854775808 ≤ a.Not ∧ a.Not < 9223372036854775808) : ∀ (n i : Nat) (l : List Device), l.length ≤ 1000 → DevsIn l → i ≤ p.A.length → p.A.length - i < n → hermitagelaw7_RoomExact.l0 p k n l (i : Int) = some true
  | 0, i, l, _, _, _, h => by omega
  | n + 1, i, l, hl, hin, hi, hm => by
    have hA := lt.A
    have fin : ∀ l i re, hermitagelaw7_RoomExact.j0 p k l i re false = some true := fun l i re => by
      unfold hermitagelaw7_RoomExact.j0
      rw [if_neg (by simp), hw]
      rfl
    rw [hermitagelaw7_RoomExact.l0]
    by_cases c : i < p.A.length
    · rw [if_pos (by omega)]
      by_cases d : (i : Int) < 12
      · rw [decide_eq_true d]
        have ha := rd_mem c
        obtain ⟨l', h1, h2, e⟩ := act7 hk hl hin c hA (by have := lt.Al _ ha; omega) (hn _ ha).2.1 (hn _ ha).2.2 (hn _ ha).1 (hermitagelaw7_RoomExact.l0 p k n)
        rw [e]
        exact Exact7_l0 hk hw lt hn n (i + 1) l' h1 h2 (by omega) (by omega)
      · rw [decide_eq_false d]
        exact fin _ _ _
    · rw [if_neg (by omega)]
      exact fin _ _ _
def actsOf (A : List Act) : Nat → List Act
  | 0 => []
  | i + 1 => actsOf A i ++ [⟨rd ([0, 0, 4] : List Int) ((i : Int).tmod 3), (rd A (i : Int)).N, (rd A (i : Int)).Not, (rd A (i : Int)).P⟩]
theorem actsOf_len (A : List Act) : ∀ i, (actsOf A i).length = i
  | 0 => rfl
  | i + 1 => by rw [actsOf, List.length_append, actsOf_len A i]; rfl
theorem do_all : ∀ r : Fin 3, rd ([0, 0, 4] : List Int) ((r.val : Nat) : Int) = 0 ∨ rd ([0, 0, 4] : List Int) ((r.val : Nat) : Int) = 4 := by decide +kernel
theorem actsOf_mem (A : List Act) : ∀ i, i ≤ A.length → ∀ a ∈ actsOf A i, (a.Do = 0 ∨ a.Do = 4) ∧ ∃ a' ∈ A, a.N = a'.N ∧ a.Not = a'.Not ∧ a.P = a'.P
  | 0, _, a, h => by simp [actsOf] at h
  | i + 1, hi, a, h => by
    rw [actsOf] at h
    rcases List.mem_append.1 h with h | h
    · exact actsOf_mem A i (by omega) a h
    · rw [List.mem_singleton] at h
      subst h
      refine ⟨?_, _, rd_mem (show i < A.length by omega), rfl, rfl, rfl⟩
      have := do_all ⟨i % 3, by omega⟩
      exact this
theorem only_l0 {p : Script} {k : Nat} (hs : SizedR p) : ∀ (n i : Nat), i ≤ p.A.length → p.A.length - i < n → hermitagelaw7_only.l0 p [0, 0, 4] k n (i : Int) (actsOf p.A i) = (hermitagelaw7_RoomExact.f k ⟨p.L, actsOf p.A p.A.length⟩).bind fun y => some y
  | 0, i, _, h => by omega
  | n + 1, i, hi, hn => by
    have h1 := hs.A
    rw [hermitagelaw7_only.l0]
    by_cases c : i < p.A.length
    · have e3 : (([0, 0, 4] : List Int).length : Int) = 3 := rfl
      have et : (i : Int).tmod 3 = ((i % 3 : Nat) : Int) := rfl
      rw [e3, if_pos (by omega), if_pos (by omega), if_pos (by omega), if_pos (by rw [et]; omega), if_pos (by rw [actsOf_len]; omega), w64_succ c (by omega)]
      exact only_l0 hs n (i + 1) (by omega) (by omega)
    · rw [if_neg (by omega)]
      rw [show i = p.A.length by omega]
theorem RoomTakes_plain {p : Script} (hs : SizedR p) : ∃ k, hermitagelaw7_RoomTakes.f k p = some true := by
  have q : SizedR (⟨p.L, actsOf p.A p.A.length⟩ : Script) := ⟨hs.L, hs.Ll, by
    show (actsOf p.A p.A.length).length * 48 ≤ _
    rw [actsOf_len]; exact hs.A, fun a ha => by
    obtain ⟨_, a', h', e1, e2, e3⟩ := actsOf_mem p.A p.A.length (Nat.le_refl _) a ha
    rw [e1, e2, e3]; exact hs.Al a' h'⟩
  have ol : (actsOf p.A p.A.length).length = p.A.length := actsOf_len _ _
  have on : ∀ k, p.A.length < k → hermitagelaw7_RoomTakes.f k p = hermitagelaw7_RoomExact.f k ⟨p.L, actsOf p.A p.A.length⟩ := fun k hk => by
    unfold hermitagelaw7_RoomTakes.f hermitagelaw7_only.f
    have := only_l0 (k := k) hs k 0 (by omega) (by omega)
    have : hermitagelaw7_only.l0 p [0, 0, 4] k k 0 [] = _ := this
    rw [this]
    cases hermitagelaw7_RoomExact.f k ⟨p.L, actsOf p.A p.A.length⟩ <;> rfl
  obtain ⟨h, e, hl⟩ := HeavyR_eq (k := p.L.length + p.A.length + 1) q (by show p.L.length < _; omega) (by show (actsOf p.A p.A.length).length < _; omega)
  cases h
  · have lt := hl rfl
    have l1 : p.L.length ≤ 800 := lt.L
    have l2 : (actsOf p.A p.A.length).length ≤ 800 := lt.A
    obtain ⟨h', e', _⟩ := HeavyR_eq (k := 1500) q (by show p.L.length < _; omega) (by show (actsOf p.A p.A.length).length < _; omega)
    refine ⟨1500, ?_⟩
    rw [on 1500 (by omega)]
    unfold hermitagelaw7_RoomExact.f
    rw [e']
    simp only [Option.bind_some]
    cases h'
    · rw [if_neg (by simp), CopyDs_eq (by omega) (by show p.L.length ≤ 1000; omega) lt.inn]
      simp only [Option.bind_some]
      exact Exact7_l0 (by omega) wakes7 lt (fun a ha => by
        obtain ⟨h1, a', h', e1, e2, e3⟩ := actsOf_mem p.A p.A.length (Nat.le_refl _) a ha
        rw [e2]; exact ⟨h1, (hs.Al a' h').2.2⟩) 1500 0 p.L (by omega) lt.inn (by omega) (by show (actsOf p.A p.A.length).length - 0 < _; omega)
    · rw [if_pos rfl]
  · refine ⟨p.L.length + p.A.length + 1, ?_⟩
    rw [on _ (show p.A.length < p.L.length + p.A.length + 1 by omega)]
    unfold hermitagelaw7_RoomExact.f
    rw [e]
    rfl
end Go.Proofs.YtnaajldlloglkaaDoor.W
