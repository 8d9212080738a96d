/- Plain facts: the page's own Count, Take, Commit. -/
import Derived.Test.YtnaajldlloglkaaDoorRoomD3
import Derived.Test.YtnaajldlloglkaaDoorRoomE4
set_option linter.unusedVariables false
set_option linter.unusedSimpArgs false
namespace Go.Proofs.YtnaajldlloglkaaDoor.W
open Go.H
theorem first_least {b : Nat → Bool} {a : Nat} (ha : a < 64) (h1 : b a = true) (h2 : ∀ j, j < a → b j = false) : 0 < (S.segsOf b).length ∧ (rd (S.segsOf b) 0).At = (a : Int) := by
  have o := S.segsOf_ok b
  have m := S.mem_segsOf (b := b) ha
  rw [h1] at m
  cases e : S.segsOf b with
  | nil => rw [e] at m; simp [S.mem] at m
  | cons s r =>
    rw [e] at o m
    have q := S.okFrom_cons.1 o
    refine ⟨by simp, ?_⟩
    show s.At = (a : Int)
    have up : s.At ≤ (a : Int) := by
      simp only [S.mem, Bool.or_eq_true, Bool.and_eq_true, decide_eq_true_eq] at m
      rcases m with m | m
      · exact m.1
      · have := S.mem_low q.2.2.2 m
        omega
    have hm : S.mem (s :: r) s.At.toNat = true := by
      simp only [S.mem, Bool.or_eq_true, Bool.and_eq_true, decide_eq_true_eq]
      left
      omega
    rw [← e, S.mem_segsOf (by omega)] at hm
    rcases Nat.lt_or_ge s.At.toNat a with c | c
    · rw [h2 _ c] at hm; cases hm
    · omega
theorem refCount_segs {b : Nat → Bool} {k : Nat} (hk : 1000 < k) : hermitageref1_Count.f k (S.segsOf b) = some (num b : Int) := by
  have := S.segsOf_len b
  rw [S.refCount_eq hk (by omega) (S.segsOf_ok b)]
  have : num (S.mem (S.segsOf b)) = num b := num_congr fun i hi => S.mem_segsOf hi
  rw [← this]
  rfl
theorem refCount_l0 {P x : List Device} {k : Nat} {F L : Nat → Nat → Bool} {no : Int} (hk : 1000 < k) (hP : DevsOk P) (s : Sets P F L x) : ∀ (n i : Nat), i ≤ P.length → P.length - i < n → hermitageref7_Count.l0 x no k n (tot P no F i : Nat) i = some (tot P no F P.length : Int)
  | 0, i, _, h => by omega
  | n + 1, i, hi, hn => by
    have hl := hP.1
    have hx := s.len
    rw [hermitageref7_Count.l0]
    by_cases c : i < P.length
    · have ih := refCount_l0 (no := no) hk hP s n (i + 1) (by omega) (by omega)
      have tl := tot_le P no F i
      have nl := num_le (F i)
      rw [if_pos (by omega), if_pos (by omega), s.at_ i c]
      simp only
      unfold hermitageref7_Count.j0
      by_cases a : (rd P (i : Int)).ID = no
      · rw [if_pos a, w64_succ c (by omega), ← ih]
        show _ = hermitageref7_Count.l0 x no k n ((if (rd P (i : Int)).ID = no then tot P no F i else tot P no F i + num (F i) : Nat) : Int) _
        rw [if_pos a]
      · rw [if_neg a, if_pos (by omega), refCount_segs hk]
        simp only [Option.bind_some]
        have e : w64 ((tot P no F i : Int) + (num (F i) : Int)) = ((tot P no F (i + 1) : Nat) : Int) := by
          show w64 ((tot P no F i : Int) + (num (F i) : Int)) = ((if (rd P (i : Int)).ID = no then tot P no F i else tot P no F i + num (F i) : Nat) : Int)
          rw [if_neg a, w64_id (by omega) (by omega)]
          omega
        rw [e, w64_succ c (by omega), ih]
    · rw [if_neg (by omega)]
      rw [show i = P.length by omega]
theorem refCount7_eq {P x : List Device} {k : Nat} {F L : Nat → Nat → Bool} {no : Int} (hk : 1000 < k) (hP : DevsOk P) (s : Sets P F L x) : hermitageref7_Count.f k x no = some (tot P no F P.length : Int) := by
  have hl := hP.1
  exact refCount_l0 hk hP s k 0 (by omega) (by omega)
theorem Two_less {b : Nat → Bool} {a k : Nat} (hk : 1000 < k) (ha : a < 64) : hermitageref1_Two.f k (S.segsOf b) [(⟨(a : Int), 1⟩ : Seg)] 1 = some (S.segsOf fun i => b i && !decide (i = a)) := by
  have := S.segsOf_len b
  have o : S.ok [(⟨(a : Int), 1⟩ : Seg)] = true := by
    rw [S.okFrom_cons]
    exact ⟨by show (0 : Int) ≤ (a : Int); omega, (by show (1 : Int) ≤ 1; omega), (by show (a : Int) + 1 ≤ 64; omega), rfl⟩
  rw [S.Two_eq hk (by omega) (by simp) (S.segsOf_ok b) o]
  congr 1
  refine S.segsOf_congr fun i hi => ?_
  rw [S.mem_segsOf hi]
  show (b i && !S.mem [(⟨(a : Int), 1⟩ : Seg)] i) = _
  have : S.mem [(⟨(a : Int), 1⟩ : Seg)] i = decide (i = a) := by
    simp only [S.mem, Bool.or_false]
    rw [← Bool.decide_and, decide_eq_decide]
    omega
  rw [this]
theorem refTake_l1 {P x : List Device} {k : Nat} {F L : Nat → Nat → Bool} {no : Int} (hk : 1000 < k) (hP : DevsOk P) (s : Sets P F L x) {m a : Nat} (hm : m < P.length) (e1 : (best P no F P.length).1 = (m : Int)) (ha : a < 64) (h1 : F m a = true) (h2 : ∀ j, j < a → F m j = false) {acc : List Ptr} (hacc : acc.length ≤ 1000) {i0 : Int} (re0 : List Device → List Ptr → Int → Option (List Ptr × List Device × Bool)) : ∀ (n i : Nat), i ≤ P.length → P.length - i < n →
    hermitageref7_Take.l1 no k acc i0 x re0 n (best P no F i).1 ((best P no F i).2 : Nat) i = re0 (x.set m ⟨(rd P (m : Int)).ID, (rd P (m : Int)).Size, S.segsOf (fun i => F m i && !decide (i = a)), S.segsOf (L m)⟩) (acc ++ [place P (m, a)]) (w64 (i0 + 1))
  | 0, i, _, h => by omega
  | n + 1, i, hi, hn => by
    have hl := hP.1
    have hx := s.len
    rw [hermitageref7_Take.l1]
    by_cases c : i < P.length
    · have ih := refTake_l1 hk hP s hm e1 ha h1 h2 hacc (i0 := i0) re0 n (i + 1) (by omega) (by omega)
      rw [if_pos (by omega), if_pos (by omega), s.at_ i c]
      simp only
      rw [refCount_segs hk]
      simp only [Option.bind_some]
      rw [if_pos (by omega)]
      unfold hermitageref7_Take.j1 hermitageref7_Take.j0
      rw [w64_succ c (by omega)]
      have hb : best P no F (i + 1) = if (rd P (i : Int)).ID ≠ no ∧ (best P no F i).2 < num (F i) then ((i : Int), num (F i)) else best P no F i := rfl
      by_cases a : (rd P (i : Int)).ID = no
      · rw [if_pos a, if_neg (by simp)]
        rw [hb, if_neg fun z => z.1 a] at ih
        exact ih
      · rw [if_neg a]
        by_cases d : (best P no F i).2 < num (F i)
        · rw [if_pos (decide_eq_true (show ((best P no F i).2 : Int) < (num (F i) : Int) from Int.ofNat_lt.2 d))]
          rw [hb, if_pos ⟨a, d⟩] at ih
          exact ih
        · rw [if_neg (by
            simp only [decide_eq_true_eq]
            exact fun z => d (Int.ofNat_lt.1 z))]
          rw [hb, if_neg fun z => d z.2] at ih
          exact ih
    · have ei : i = P.length := by omega
      subst ei
      obtain ⟨f0, f1⟩ := first_least ha h1 h2
      rw [if_neg (by omega), e1, if_pos (by omega), s.at_ m hm]
      simp only
      rw [if_pos (by omega), if_pos (by omega), if_pos (by omega), if_pos (by omega), f1, Two_less hk ha]
      simp only [Option.bind_some]
      rw [if_pos (by omega), Int.toNat_natCast]
      rfl
/-- Places taken one by one, here and on the page. -/
theorem Takes_l0 {P : List Device} {k : Nat} {F L : Nat → Nat → Bool} {no : Int} {c : Nat} (hk : 1000 < k) (hP : DevsOk P) (hc : c ≤ tot P no F P.length) : ∀ (n : Nat) (T : List Pl) (x : List Device), T.length ≤ c → c - T.length < n → Sets P (left F T) L x → Took P no F T →
    ∃ T' x', T'.length = c ∧ Took P no F T' ∧ Sets P (left F T') L x' ∧ room_Take.l0 (c : Int) no k n x (T.map (place P)) (T.length : Int) = some (T'.map (place P), x', 0) ∧ hermitageref7_Take.l0 (c : Int) no k n x (T.map (place P)) (T.length : Int) = some (T'.map (place P), x', true)
  | 0, T, x, _, h, _, _ => by omega
  | n + 1, T, x, hT, hn, s, t => by
    have hl := hP.1
    have hx := s.len
    have tb := tot_le P no F P.length
    rw [room_Take.l0, hermitageref7_Take.l0]
    by_cases d : T.length < c
    · have tc := t.cnt
      rcases best_at P no (left F T) P.length with ⟨_, _, z⟩ | ⟨m, hm, e1, e2, e3, _⟩
      · omega
      · rw [if_pos (by omega), if_pos (by omega), emptiest_eq hk hP s, e1]
        simp only [Option.bind_some]
        obtain ⟨a, u, v, w, ha, h1, h2, eu, el, ev, es⟩ := one_step (no := no) hk hP s hm e3
        have rl := refTake_l1 hk hP s hm e1 ha h1 h2 (acc := T.map (place P)) (by rw [List.length_map]; omega) (i0 := (T.length : Int)) (hermitageref7_Take.l0 (c : Int) no k n) k 0 (by omega) (by omega)
        have rl : hermitageref7_Take.l1 no k (T.map (place P)) (T.length : Int) x (hermitageref7_Take.l0 (c : Int) no k n) k (-1) 0 0 = _ := rl
        rw [rl, if_neg (by omega), if_pos (by omega), eu]
        simp only [Option.bind_some]
        rw [if_pos (by omega), el]
        simp only [Option.bind_some]
        rw [ev]
        simp only [Option.bind_some]
        rw [es]
        simp only [Option.bind_some]
        rw [if_pos (by omega)]
        unfold room_Take.j2
        rw [if_pos (by rw [List.length_map]; omega), w64_succ d (by omega), s.at_ m hm]
        simp only [Int.toNat_natCast]
        have q := s.set hm (b := fun i => left F T m i && !decide (i = a)) (c := L m)
        have t' := t.snoc hm e2 ha h1
        have s' : Sets P (left F (T ++ [(m, a)])) L (x.set m ⟨(rd P (m : Int)).ID, (rd P (m : Int)).Size, S.segsOf (fun i => left F T m i && !decide (i = a)), S.segsOf (L m)⟩) := by
          refine ⟨q.len, fun j hj => ?_⟩
          rw [q.at_ j hj]
          by_cases z : j = m
          · subst z
            simp only [if_true]
            rw [S.segsOf_congr (c := left F (T ++ [(j, a)]) j) fun i _ => by rw [left_snoc]; simp]
          · simp only [if_neg z]
            rw [S.segsOf_congr (c := left F (T ++ [(m, a)]) j) fun i _ => by rw [left_snoc]; simp [z]]
        have ih := Takes_l0 hk hP hc n (T ++ [(m, a)]) _ (by rw [List.length_append]; simp only [List.length_cons, List.length_nil]; omega) (by rw [List.length_append]; simp only [List.length_cons, List.length_nil]; omega) s' t'
        rw [List.map_append, List.length_append] at ih
        exact ih
    · rw [if_neg (by omega), if_neg (by omega)]
      unfold room_Take.j1
      rw [if_pos rfl]
      exact ⟨T, x, by omega, t, s, rfl, rfl⟩
theorem left_sub {P : List Device} {F L : Nat → Nat → Bool} {T : List Pl} (o : SetsOk P F L) : SetsOk P (left F T) L := by
  refine ⟨fun j i hj hi h => ?_, o.late, fun j i hj hi => ?_⟩
  · unfold left at h
    rw [Bool.and_eq_true] at h
    exact o.free j i hj hi h.1
  · have := o.dis j i hj hi
    unfold left
    cases e : L j i
    · simp
    · rw [e, Bool.and_true] at this
      simp [this]
theorem CopyDs_eq {k : Nat} {l : List Device} (hk : 1000 < k) (hl : l.length ≤ 1000) (h : DevsIn l) : hermitageref0_CopyDevices.f k l = some l := CopyDs_l0 hk hl h k 0 (by omega) (by omega)
theorem Takes_eq {P x : List Device} {k : Nat} {F L : Nat → Nat → Bool} {no : Int} {c : Nat} (hk : 1000 < k) (hP : DevsOk P) (s : Sets P F L x) (o : SetsOk P F L) (hc : c ≤ tot P no F P.length) :
    ∃ q y, DevsOk y ∧ q.length ≤ 384 ∧ room_Take.f k x (c : Int) no = some (q, y, 0) ∧ hermitageref7_Take.f k x (c : Int) no = some (q, y, true) := by
  have ox := s.ok hP o
  have hl := hP.1
  have tb := tot_le P no F P.length
  have q := Takes_l0 (F := F) (L := L) (no := no) (c := c) hk hP hc k [] x (by simp) (by simp; omega) (by rw [left_nil]; exact s) Took.nil
  obtain ⟨T, y, e1, t, sy, q1, q2⟩ := q
  refine ⟨T.map (place P), y, sy.ok hP (left_sub o), by rw [List.length_map]; omega, ?_, ?_⟩
  · unfold room_Take.f
    rw [(room_May_says hk (devs_in ox)).1 ox]
    simp only [Option.bind_some, if_true]
    rw [if_neg (by omega), decide_eq_false (by omega)]
    unfold room_Take.j0
    rw [if_neg (by simp), Own_eq hk ox]
    simp only [Option.bind_some]
    rw [Free_eq hk hP s]
    simp only [Option.bind_some]
    rw [if_neg (by omega)]
    exact q1
  · unfold hermitageref7_Take.f
    rw [refCount7_eq hk hP s]
    simp only [Option.bind_some]
    rw [if_neg (by omega), CopyDs_eq hk (by have := s.len; omega) (devs_in ox)]
    simp only [Option.bind_some]
    exact q2
theorem Takes_full {P x : List Device} {k : Nat} {F L : Nat → Nat → Bool} {no : Int} {c : Nat} (hk : 1000 < k) (hP : DevsOk P) (s : Sets P F L x) (o : SetsOk P F L) (hc : ¬ c ≤ tot P no F P.length) (h4 : c ≤ 384) :
    room_Take.f k x (c : Int) no = some ([], [], 5) ∧ hermitageref7_Take.f k x (c : Int) no = some ([], [], false) := by
  have ox := s.ok hP o
  have hl := hP.1
  constructor
  · unfold room_Take.f
    rw [(room_May_says hk (devs_in ox)).1 ox]
    simp only [Option.bind_some, if_true]
    rw [if_neg (by omega), decide_eq_false (by omega)]
    unfold room_Take.j0
    rw [if_neg (by simp), Own_eq hk ox]
    simp only [Option.bind_some]
    rw [Free_eq hk hP s]
    simp only [Option.bind_some]
    rw [if_pos (by omega)]
    rfl
  · unfold hermitageref7_Take.f
    rw [refCount7_eq hk hP s]
    simp only [Option.bind_some]
    rw [if_pos (by omega)]
theorem refCommit_l0 {P : List Device} {k : Nat} {F L : Nat → Nat → Bool} (hk : 1000 < k) (hP : DevsOk P) : ∀ (n i : Nat) (x : List Device), i ≤ P.length → P.length - i < n → Sets P (fun j => if j < i then fun s => F j s || L j s else F j) (fun j => if j < i then fun _ => false else L j) x →
    ∃ x', Sets P (fun j s => F j s || L j s) (fun _ _ => false) x' ∧ hermitageref7_Commit.l0 k n x i = some x'
  | 0, i, x, _, hn, _ => by omega
  | n + 1, i, x, hi, hn, s => by
    have hl := hP.1
    have hx := s.len
    rw [hermitageref7_Commit.l0]
    by_cases c : i < P.length
    · have ri := s.at_ i c
      simp only [Nat.lt_irrefl, if_false] at ri
      have f1 := S.segsOf_len (F i)
      have f2 := S.segsOf_len (L i)
      rw [if_pos (by omega), if_pos (by omega), if_pos (by omega), ri]
      simp only
      rw [S.Two_eq hk (by omega) (by omega) (S.segsOf_ok _) (S.segsOf_ok _)]
      simp only [Option.bind_some, Int.toNat_natCast]
      rw [show (S.segsOf fun j => S.pick2 0 (S.mem (S.segsOf (F i)) j) (S.mem (S.segsOf (L i)) j)) = S.segsOf fun s => F i s || L i s from S.segsOf_congr fun j hj => by rw [S.mem_segsOf hj, S.mem_segsOf hj]; rfl]
      rw [if_pos (by omega), if_pos (by rw [List.length_set]; omega), w64_succ c (by omega)]
      have r2 : rd (x.set i (⟨(rd P (i : Int)).ID, (rd P (i : Int)).Size, S.segsOf (fun s => F i s || L i s), S.segsOf (L i)⟩ : Device)) (i : Int) = ⟨(rd P (i : Int)).ID, (rd P (i : Int)).Size, S.segsOf (fun s => F i s || L i s), S.segsOf (L i)⟩ := by
        rw [rd_setD (by omega) (by omega), if_pos rfl]
      rw [r2]
      simp only
      rw [List.set_set]
      have q := s.set c (b := fun s => F i s || L i s) (c := fun _ => false)
      rw [S.segsOf_none] at q
      refine refCommit_l0 hk hP n (i + 1) _ (by omega) (by omega) ⟨q.len, fun j hj => ?_⟩
      rw [q.at_ j hj]
      by_cases d : j = i
      · simp only [if_pos d]
        rw [if_pos (by omega), if_pos (by omega), d]
      · simp only [if_neg d]
        by_cases e : j < i
        · rw [if_pos e, if_pos e, if_pos (by omega), if_pos (by omega)]
        · rw [if_neg e, if_neg e, if_neg (by omega), if_neg (by omega)]
    · rw [if_neg (by omega)]
      refine ⟨x, ⟨hx, fun j hj => ?_⟩, rfl⟩
      rw [s.at_ j hj, if_pos (by omega), if_pos (by omega)]
theorem SetsOk.commit {P : List Device} {F L : Nat → Nat → Bool} (o : SetsOk P F L) : SetsOk P (fun j i => F j i || L j i) (fun _ _ => false) :=
  ⟨fun j i hj hi h => by
    rcases Bool.or_eq_true _ _ ▸ h with h | h
    · exact o.free j i hj hi h
    · exact o.late j i hj hi h, fun j i hj hi h => by simp at h, fun j i hj hi => by simp⟩
theorem Commits_eq {P x : List Device} {k : Nat} {F L : Nat → Nat → Bool} (hk : 1000 < k) (hP : DevsOk P) (s : Sets P F L x) (o : SetsOk P F L) : ∃ y, DevsOk y ∧ room_Commit.f k x = some (y, 0) ∧ hermitageref7_Commit.f k x = some y := by
  obtain ⟨y, sy, e⟩ := Commit_sets hk hP s o
  have ox := s.ok hP o
  have hl := hP.1
  obtain ⟨z, sz, ez⟩ := refCommit_l0 (F := F) (L := L) hk hP k 0 x (by omega) (by omega) ⟨s.len, fun j hj => by rw [s.at_ j hj]; simp⟩
  refine ⟨y, sy.ok hP o.commit, e, ?_⟩
  unfold hermitageref7_Commit.f
  rw [CopyDs_eq hk (by have := s.len; omega) (devs_in ox)]
  simp only [Option.bind_some]
  have ez : hermitageref7_Commit.l0 k k x 0 = some z := ez
  rw [ez, sy.ext sz fun j i hj hi => ⟨rfl, rfl⟩]
end Go.Proofs.YtnaajldlloglkaaDoor.W
