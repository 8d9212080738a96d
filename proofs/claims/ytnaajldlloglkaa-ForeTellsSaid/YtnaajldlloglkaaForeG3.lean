/- The plain law of ForeTells. -/
import Derived.Test.YtnaajldlloglkaaForeG2
set_option linter.unusedVariables false
set_option linter.unusedSimpArgs false
namespace Go.Proofs.Ytnaajldlloglkaa.W
open Go.H
variable {p : Pool} {k : Nat}
theorem Steps_bad (hk : 1000 < k) (hp : PIn p) {n : Int} (h : ¬ (PoolOk p ∧ 1 ≤ n ∧ n ≤ 64)) : fore_Steps.f k p n = some (0, 1) := by
  unfold fore_Steps.f
  have jt : fore_Steps.j0 p n true = some (0, 1) := by unfold fore_Steps.j0; rw [if_pos rfl]
  by_cases c : PoolOk p
  · rw [(May_says hk hp).1 c]
    simp only [Option.bind_some, if_true]
    by_cases a : n < 1
    · rw [if_pos a, jt]
    · rw [if_neg a, decide_eq_true (show 64 < n from by
        have : ¬ (1 ≤ n ∧ n ≤ 64) := fun z => h ⟨c, z⟩
        omega), jt]
  · rw [(May_says hk hp).2 c]
    simp only [Option.bind_some]
    rw [if_neg (by simp), jt]
theorem Steps_ok (hk : 1000 < k) (hp : PIn p) {n : Int} (c : PoolOk p) (h1 : 1 ≤ n) (h2 : n ≤ 64) : fore_Steps.f k p n = if p.Job.Dev = 0 then some (0, 9) else some (w64 ((w64 ((w64 ((w64 (p.Job.Table.Size - p.Job.At)) + n)) - 1)).tdiv n), 0) := by
  unfold fore_Steps.f
  rw [(May_says hk hp).1 c]
  simp only [Option.bind_some, if_true]
  rw [if_neg (by omega), decide_eq_false (by omega)]
  unfold fore_Steps.j0
  rw [if_neg (by simp)]
  by_cases z : p.Job.Dev = 0
  · rw [if_pos z, if_pos z]
  · rw [if_neg z, if_neg z, if_pos (by omega)]
theorem num_eq {x : Int} : hermitagelaw11_num.f x = some x := rfl
theorem Tells_j4 {it : Int} {y10 : Int × Int} {y11 : Bool × Int} {re : Int → Option Bool} {a b c : Int} {d : Bool} (h1 : y10 = (b, a)) (h2 : y11 = (d, c)) : hermitagelaw11_ForeTells.j4 it y10 y11 re a b c d = re (w64 (it + 1)) := by
  unfold hermitagelaw11_ForeTells.j4 hermitagelaw11_ForeTells.j6
  rw [h1, h2, num_eq, num_eq]
  simp
theorem Tells_j5 {s : hermitagelaw10Script} (hk : 1100 < k) (hp : PIn s.P) (c : PoolOk s.P) {it n : Int} {y11 : Bool × Int} {re : Int → Option Bool} {e : Int} {d : Bool} (h2 : y11 = (d, e)) {y10 : Int × Int} (h1 : fore_Steps.f k s.P n = some y10) : hermitagelaw11_ForeTells.j5 s k it n y10 y11 re e d = re (w64 (it + 1)) := by
  unfold hermitagelaw11_ForeTells.j5
  rw [T.Between_eq]
  simp only [Option.bind_some]
  by_cases b : 1 ≤ n ∧ n ≤ 64
  · rw [if_pos (decide_eq_true b)]
    rw [Steps_ok (by omega) hp c b.1 b.2] at h1
    by_cases z : s.P.Job.Dev = 0
    · rw [if_pos z] at h1 ⊢
      injection h1 with h1
      exact Tells_j4 h1.symm h2
    · rw [if_neg z] at h1 ⊢
      injection h1 with h1
      rcases c.job with i | ⟨m, g⟩
      · exact absurd i.dev z
      · have zz := (dev_ok c.devs g.lt).size
        have b0 := g.at0
        have b1 := g.at1
        rw [Rest_begun (by omega) c.devs g]
        simp only [Option.bind_some]
        rw [if_pos (by omega)]
        refine Tells_j4 ?_ h2
        rw [← h1, g.size, w64_id (x := (rd s.P.Devices (m : Int)).Size - s.P.Job.At) (by omega) (by omega)]
  · rw [if_neg (by simpa using b)]
    rw [Steps_bad (by omega) hp fun z => b z.2] at h1
    injection h1 with h1
    exact Tells_j4 h1.symm h2
theorem Steps_some (hk : 1000 < k) (hp : PIn p) (n : Int) : ∃ y, fore_Steps.f k p n = some y ∧ (¬ PoolOk p → y = (0, 1)) := by
  by_cases c : PoolOk p ∧ 1 ≤ n ∧ n ≤ 64
  · rw [Steps_ok hk hp c.1 c.2.1 c.2.2]
    split
    · exact ⟨_, rfl, fun z => absurd c.1 z⟩
    · exact ⟨_, rfl, fun z => absurd c.1 z⟩
  · rw [Steps_bad hk hp c]
    exact ⟨_, rfl, fun _ => rfl⟩
theorem Tells_j2 {s : hermitagelaw10Script} (hk : 1100 < k) (hp : PIn s.P) {y3 : Bool} (hy : y3 = true ↔ PoolOk s.P) {it n : Int} (n0 : -9223372036854775808 ≤ n) (n1 : n < 9223372036854775808) {re : Int → Option Bool} : hermitagelaw11_ForeTells.j2 s k s.P y3 it re n = re (w64 (it + 1)) := by
  unfold hermitagelaw11_ForeTells.j2
  obtain ⟨y, ey, hno⟩ := Steps_some (k := k) (by omega) hp n
  rw [ey]
  simp only [Option.bind_some]
  by_cases c : PoolOk s.P
  · rw [hy.2 c]
    by_cases d : IsDev s.P n
    · obtain ⟨m, hm, e⟩ := d
      obtain ⟨b, e1, e2⟩ := Fits_in hk hp c n0 n1 hm e
      rw [e1, ref_At_in (by omega) c.devs hm e]
      simp only [Option.bind_some, if_true]
      rw [if_pos (by omega), e2]
      simp only [Option.bind_some]
      exact Tells_j5 hk hp c rfl ey
    · rw [Fits_out hk hp c n0 n1 d, ref_At_out (by omega) c.devs d]
      simp only [Option.bind_some, if_true]
      rw [if_neg (by simp)]
      exact Tells_j5 hk hp c rfl ey
  · have : y3 = false := by
      cases y3
      · rfl
      · exact absurd (hy.1 rfl) c
    rw [this, Fits_no hk hp c]
    simp only [Option.bind_some]
    rw [if_neg (by simp)]
    exact Tells_j4 (hno c) rfl
def wp : Pool := ⟨[⟨1, 10, [], []⟩, ⟨2, 10, [⟨0, 10⟩], []⟩], [], ⟨1, 0, ⟨1, 10, []⟩⟩, 3⟩
theorem wp_in : PIn wp := by
  refine ⟨fun d hd => ?_, by decide, by decide, fun t ht => absurd ht (List.not_mem_nil), by decide, by decide⟩
  simp only [wp, List.mem_cons, List.mem_nil_iff, or_false] at hd
  rcases hd with rfl | rfl <;> decide
theorem wp_devs : DevsOk wp.Devices := by
  refine ⟨by decide, fun j _ hj => ?_⟩
  have : j = 0 ∨ j = 1 := by
    have : j < 2 := hj
    omega
  rcases this with rfl | rfl
  · exact ⟨⟨by decide, by decide, by decide, by decide, fun i _ => rfl⟩, fun z => by omega⟩
  · refine ⟨⟨by decide, by decide, by decide, by decide, fun i _ => ?_⟩, fun _ => by decide⟩
    show (S.mem _ i && false) = false
    simp
theorem wp_ok : PoolOk wp := by
  refine ⟨wp_devs, by decide, fun _ => by decide, ⟨by decide, fun j _ hj => by exact absurd hj (Nat.not_lt_zero j), fun j _ hj => ?_⟩, ⟨fun _ => 0, fun i hi => by exact absurd hi (Nat.not_lt_zero i)⟩, .inr ⟨0, ⟨by decide, by decide, by decide, by decide, by decide, by decide, by decide, fun x hx => absurd hx (List.not_mem_nil)⟩⟩, 1, by decide, by decide⟩
  have : j = 0 ∨ j = 1 := by
    have : j < 2 := hj
    omega
  rcases this with rfl | rfl <;> decide
theorem wakes_eq (hk : 1000 < k) : hermitagelaw11_wakes.f k = some true := by
  unfold hermitagelaw11_wakes.f hermitagelaw10_Pool.f
  simp only [Option.bind_some]
  have e := Steps_ok hk wp_in (n := 4) wp_ok (by omega) (by omega)
  have e2 : fore_Steps.f k wp 4 = some (3, 0) := e.trans (by decide)
  have e3 : fore_Steps.f k (⟨([(⟨1, 10, ([] : List Seg), ([] : List Seg)⟩ : Device), (⟨2, 10, ([(⟨0, 10⟩ : Seg)] : List Seg), ([] : List Seg)⟩ : Device)] : List Device), ([] : List Table), (⟨1, 0, (⟨1, 10, ([] : List Entry)⟩ : Table)⟩ : Job), 3⟩ : Pool) 4 = some (3, 0) := e2
  rw [e3]
  rfl
theorem Tells_l0 {s : hermitagelaw10Script} (hk : 1100 < k) (hs : Sized s) (hp : PIn s.P) {y3 : Bool} (hy : y3 = true ↔ PoolOk s.P) : ∀ (n i : Nat), i ≤ 10 → 10 - i < n → hermitagelaw11_ForeTells.l0 s k s.P y3 n ((i : Int) - 1) = some true
  | 0, i, _, h => by omega
  | n + 1, i, hi, hn => by
    have nx : w64 ((i : Int) - 1 + 1) = ((i + 1 : Nat) : Int) - 1 := by rw [w64_id (by omega) (by omega)]; omega
    rw [hermitagelaw11_ForeTells.l0]
    by_cases c : (i : Int) - 1 < 9
    · rw [if_pos c]
      have ih := Tells_l0 hk hs hp hy n (i + 1) (by omega) (by omega)
      have go : hermitagelaw11_ForeTells.j3 s k s.P y3 ((i : Int) - 1) (hermitagelaw11_ForeTells.l0 s k s.P y3 n) false = some true := by
        unfold hermitagelaw11_ForeTells.j3
        rw [if_neg (by simp), Tells_j2 hk hp hy (by omega) (by omega), nx, ih]
      by_cases d : (i : Int) - 1 = 8
      · rw [if_pos d]
        by_cases e : (0 : Int) < (s.A.length : Int)
        · rw [decide_eq_true e]
          unfold hermitagelaw11_ForeTells.j3
          rw [if_pos rfl, if_pos ⟨Int.le_refl 0, e⟩]
          have q := (hs.Al _ (rd_mem (l := s.A) (i := 0) (by omega))).2
          have q : -9223372036854775808 ≤ (rd s.A 0).N ∧ (rd s.A 0).N < 9223372036854775808 := q
          rw [Tells_j2 hk hp hy q.1 q.2, nx, ih]
        · rw [decide_eq_false e, go]
      · rw [if_neg d, go]
    · rw [if_neg c, EqPool_self (by omega) hp]
      simp only [Option.bind_some, if_true]
      have w : hermitagelaw0_Within.f 3 2 = some 1 := by decide
      rw [w]
      simp only [Option.bind_some, if_true]
      rw [wakes_eq (by omega)]
      rfl
theorem ForeTells_k {s : hermitagelaw10Script} (hs : Sized s) (hk : s.P.Devices.length + s.P.Tables.length + s.A.length + 3000 < k) : hermitagelaw11_ForeTells.f k s = some true := by
  unfold hermitagelaw11_ForeTells.f
  obtain ⟨h, eh, hl⟩ := Heavy_eq (k := k) hs (by omega) (by omega) (by omega)
  rw [eh]
  simp only [Option.bind_some]
  cases h
  · rw [if_neg (by simp)]
    have hp := (hl rfl).inn
    rw [CopyPool_eq (by omega) hp]
    simp only [Option.bind_some]
    have fin : ∀ y3 : Bool, (y3 = true ↔ PoolOk s.P) → hermitagelaw11_ForeTells.j1 s k s.P y3 false = some true := fun y3 hy => by
      unfold hermitagelaw11_ForeTells.j1
      rw [if_neg (by simp)]
      exact Tells_l0 (by omega) hs hp hy k 0 (by omega) (by omega)
    by_cases c : PoolOk s.P
    · obtain ⟨sp, e1, e2⟩ := Spare_yes (k := k) (by omega) hp c
      obtain ⟨dp, e3, e4⟩ := Depth_yes (k := k) (by omega) hp c
      rw [(Pool_says (by omega) hp).1 c, e1, e3]
      simp only [Option.bind_some, if_true]
      rw [e2, e4]
      simp only [Option.bind_some]
      unfold hermitagelaw11_ForeTells.j0
      simp only [num_eq, Option.bind_some, if_true]
      rw [show (dp != dp) = false by simp]
      exact fin true (by simp [c])
    · rw [(Pool_says (by omega) hp).2 c, Spare_no (by omega) hp c, Depth_no (by omega) hp c]
      simp only [Option.bind_some]
      rw [if_neg (by simp)]
      unfold hermitagelaw11_ForeTells.j0
      simp only [num_eq, Option.bind_some, if_true]
      exact fin false (by simp [c])
  · rw [if_pos rfl]
theorem ForeTells_plain {s : hermitagelaw10Script} (hs : Sized s) : ∃ k, hermitagelaw11_ForeTells.f k s = some true := ⟨_, ForeTells_k hs (Nat.lt_succ_self _)⟩
end Go.Proofs.Ytnaajldlloglkaa.W
