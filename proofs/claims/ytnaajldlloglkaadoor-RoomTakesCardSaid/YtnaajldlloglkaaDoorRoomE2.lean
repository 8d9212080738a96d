/- Plain facts: how many are free, where most are. -/
import Derived.Test.YtnaajldlloglkaaDoorRoomE1
set_option linter.unusedVariables false
set_option linter.unusedSimpArgs false
namespace Go.Proofs.YtnaajldlloglkaaDoor.W
open Go.H
def num (b : Nat → Bool) : Nat := (S.secFrom 0 b).length
theorem num_le (b : Nat → Bool) : num b ≤ 64 := S.secFrom_len _ _
theorem num_congr {b c : Nat → Bool} (h : ∀ i, i < 64 → b i = c i) : num b = num c := by
  unfold num
  rw [S.secFrom_congr (c := c) 64 0 rfl fun j _ hj => h j hj]
/-- How many are free on the first n devices but one. -/
def tot (P : List Device) (no : Int) (F : Nat → Nat → Bool) : Nat → Nat
  | 0 => 0
  | n + 1 => if (rd P (n : Int)).ID = no then tot P no F n else tot P no F n + num (F n)
theorem tot_le (P : List Device) (no : Int) (F : Nat → Nat → Bool) : ∀ n, tot P no F n ≤ 64 * n
  | 0 => Nat.le_refl 0
  | n + 1 => by
    have := tot_le P no F n
    have := num_le (F n)
    unfold tot
    split <;> omega
theorem tot_congr {P : List Device} {no : Int} {F G : Nat → Nat → Bool} : ∀ n, (∀ j i : Nat, j < n → i < 64 → F j i = G j i) → tot P no F n = tot P no G n
  | 0, _ => rfl
  | n + 1, h => by
    have := tot_congr (P := P) (no := no) n fun j i hj hi => h j i (by omega) hi
    unfold tot
    rw [this, num_congr fun i hi => h n i (by omega) hi]
/-- One less on one device. -/
theorem tot_less {P : List Device} {no : Int} {F G : Nat → Nat → Bool} {m : Nat} (hn : (rd P (m : Int)).ID ≠ no) (h1 : num (F m) = num (G m) + 1) (h2 : ∀ j i : Nat, j ≠ m → i < 64 → F j i = G j i) : ∀ n, m < n → tot P no F n = tot P no G n + 1
  | 0, h => by omega
  | n + 1, h => by
    unfold tot
    by_cases c : n = m
    · subst c
      rw [if_neg hn, if_neg hn, tot_congr n fun j i hj hi => h2 j i (by omega) hi]
      omega
    · have := tot_less hn h1 h2 n (by omega)
      rw [num_congr fun i hi => h2 n i c hi]
      split <;> omega
theorem Free_l0 {P x : List Device} {k : Nat} {F L : Nat → Nat → Bool} {no : Int} (hk : 1000 < k) (hP : DevsOk P) (s : Sets P F L x) : ∀ (n i : Nat), i ≤ P.length → P.length - i < n → room_Free.l0 x no k n (tot P no F i : Nat) i = some (tot P no F P.length : Int)
  | 0, i, _, h => by omega
  | n + 1, i, hi, hn => by
    have hl := hP.1
    have hx := s.len
    rw [room_Free.l0]
    by_cases c : i < P.length
    · have ih := Free_l0 (no := no) hk hP s n (i + 1) (by omega) (by omega)
      have tl := tot_le P no F i
      have nl := num_le (F i)
      rw [if_pos (by omega), if_pos (by omega), s.at_ i c]
      simp only
      unfold room_Free.j0
      by_cases a : (rd P (i : Int)).ID = no
      · rw [if_pos a, w64_succ c (by omega), ← ih]
        show _ = room_Free.l0 x no k n ((if (rd P (i : Int)).ID = no then tot P no F i else tot P no F i + num (F i) : Nat) : Int) _
        rw [if_pos a]
      · obtain ⟨u, eu, hu⟩ := Make_segs (b := F i) hk
        rw [if_neg a, eu]
        simp only [Option.bind_some]
        rw [S.Count_eq hu]
        simp only [Option.bind_some]
        have e : w64 ((tot P no F i : Int) + ((S.secFrom 0 (F i)).length : Int)) = ((tot P no F (i + 1) : Nat) : Int) := by
          show w64 ((tot P no F i : Int) + (num (F i) : Int)) = ((if (rd P (i : Int)).ID = no then tot P no F i else tot P no F i + num (F i) : Nat) : Int)
          rw [if_neg a, w64_id (by omega) (by omega)]
          omega
        rw [e, w64_succ c (by omega), ih]
    · rw [if_neg (by omega)]
      rw [show i = P.length by omega]
theorem Free_eq {P x : List Device} {k : Nat} {F L : Nat → Nat → Bool} {no : Int} (hk : 1000 < k) (hP : DevsOk P) (s : Sets P F L x) : room_Free.f k x no = some (tot P no F P.length : Int) := by
  have hl := hP.1
  exact Free_l0 hk hP s k 0 (by omega) (by omega)
theorem Count_eq2 {P x : List Device} {k : Nat} {F L : Nat → Nat → Bool} {no : Int} (hk : 1000 < k) (hP : DevsOk P) (s : Sets P F L x) (o : SetsOk P F L) : room_Count.f k x no = some ((tot P no F P.length : Int), 0) := by
  have ox := s.ok hP o
  unfold room_Count.f
  rw [(room_May_says hk (devs_in ox)).1 ox]
  simp only [Option.bind_some, if_true]
  rw [Free_eq hk hP s]
  rfl
/-- Where most are free, of the first n devices but one. -/
def best (P : List Device) (no : Int) (F : Nat → Nat → Bool) : Nat → Int × Nat
  | 0 => (-1, 0)
  | n + 1 => if (rd P (n : Int)).ID ≠ no ∧ (best P no F n).2 < num (F n) then ((n : Int), num (F n)) else best P no F n
theorem best_at (P : List Device) (no : Int) (F : Nat → Nat → Bool) : ∀ n, ((best P no F n).2 = 0 ∧ (best P no F n).1 = -1 ∧ tot P no F n = 0) ∨ ∃ m : Nat, m < n ∧ (best P no F n).1 = (m : Int) ∧ (rd P (m : Int)).ID ≠ no ∧ 0 < num (F m) ∧ (best P no F n).2 = num (F m)
  | 0 => .inl ⟨rfl, rfl, rfl⟩
  | n + 1 => by
    have ih := best_at P no F n
    unfold best tot
    by_cases c : (rd P (n : Int)).ID ≠ no ∧ (best P no F n).2 < num (F n)
    · rw [if_pos c]
      exact .inr ⟨n, by omega, rfl, c.1, by omega, rfl⟩
    · rw [if_neg c]
      rcases ih with ⟨a1, a2, a3⟩ | ⟨m, a1, a2, a3, a4, a5⟩
      · refine .inl ⟨a1, a2, ?_⟩
        by_cases d : (rd P (n : Int)).ID = no
        · rw [if_pos d]; exact a3
        · rw [if_neg d]
          have : ¬ (best P no F n).2 < num (F n) := fun z => c ⟨d, z⟩
          omega
      · exact .inr ⟨m, by omega, a2, a3, a4, a5⟩
theorem best_le (P : List Device) (no : Int) (F : Nat → Nat → Bool) (n : Nat) : (best P no F n).2 ≤ 64 := by
  rcases best_at P no F n with ⟨a, _⟩ | ⟨m, _, _, _, _, a⟩
  · omega
  · have := num_le (F m); omega
theorem emptiest_l0 {P x : List Device} {k : Nat} {F L : Nat → Nat → Bool} {no : Int} (hk : 1000 < k) (hP : DevsOk P) (s : Sets P F L x) : ∀ (n i : Nat), i ≤ P.length → P.length - i < n → room_emptiest.l0 x no k n (best P no F i).1 ((best P no F i).2 : Nat) i = some (best P no F P.length).1
  | 0, i, _, h => by omega
  | n + 1, i, hi, hn => by
    have hl := hP.1
    have hx := s.len
    rw [room_emptiest.l0]
    by_cases c : i < P.length
    · have ih := emptiest_l0 (no := no) hk hP s n (i + 1) (by omega) (by omega)
      obtain ⟨u, eu, hu⟩ := Make_segs (b := F i) hk
      rw [if_pos (by omega), if_pos (by omega), s.at_ i c]
      simp only
      rw [eu]
      simp only [Option.bind_some]
      rw [S.Count_eq hu]
      simp only [Option.bind_some]
      unfold room_emptiest.j1 room_emptiest.j0
      rw [w64_succ c (by omega)]
      have hb : best P no F (i + 1) = if (rd P (i : Int)).ID ≠ no ∧ (best P no F i).2 < num (F i) then ((i : Int), num (F i)) else best P no F i := rfl
      by_cases a : (rd P (i : Int)).ID = no
      · rw [if_pos a, if_neg (by simp)]
        rw [hb, if_neg fun z => z.1 a] at ih
        exact ih
      · rw [if_neg a]
        by_cases d : (best P no F i).2 < num (F i)
        · rw [if_pos (decide_eq_true (show ((best P no F i).2 : Int) < ((S.secFrom 0 (F i)).length : Int) from Int.ofNat_lt.2 d))]
          rw [hb, if_pos ⟨a, d⟩] at ih
          exact ih
        · rw [if_neg (by
            simp only [decide_eq_true_eq]
            exact fun z => d (Int.ofNat_lt.1 z))]
          rw [hb, if_neg fun z => d z.2] at ih
          exact ih
    · rw [if_neg (by omega)]
      rw [show i = P.length by omega]
theorem emptiest_eq {P x : List Device} {k : Nat} {F L : Nat → Nat → Bool} {no : Int} (hk : 1000 < k) (hP : DevsOk P) (s : Sets P F L x) : room_emptiest.f k x no = some (best P no F P.length).1 := by
  have hl := hP.1
  exact emptiest_l0 hk hP s k 0 (by omega) (by omega)
end Go.Proofs.YtnaajldlloglkaaDoor.W
