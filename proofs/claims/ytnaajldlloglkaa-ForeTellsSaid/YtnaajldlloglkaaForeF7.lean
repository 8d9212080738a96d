/- Plain facts: pools that may be: as the program asks it, and as the page does. -/
import Derived.Test.YtnaajldlloglkaaForeF6
set_option linter.unusedVariables false
set_option linter.unusedSimpArgs false
namespace Go.Proofs.Ytnaajldlloglkaa.W
open Go.H
variable {p : Pool} {k : Nat}
def Other (p : Pool) : Prop := ∃ m : Nat, m < p.Devices.length ∧ (rd p.Devices (m : Int)).ID ≠ p.Job.Dev
structure PoolOk (p : Pool) : Prop where
  devs : DevsOk p.Devices
  len : p.Tables.length ≤ 12
  jobLen : p.Job.Dev ≠ 0 → p.Tables.length < 12
  ids : IdsOk p
  fine : Fine p
  job : JobOk p
  other : Other p
theorem other_says (hk : 1000 < k) (h : DevsOk p.Devices) : Says (chain_May.l0 p k 0) (Other p) := by
  have hd := h.1
  have q := loop_says (f := chain_May.l0 p) (len := p.Devices.length) (E := some false) (F := some true) (P := fun j => (rd p.Devices (j : Int)).ID = p.Job.Dev) ?_ ?_ ?_ k 0 (by omega) (by omega)
  · refine ⟨fun ⟨m, hm, e⟩ => q.2 fun a => e (a m (by omega) hm), fun a => q.1 fun j _ hj => Classical.byContradiction fun e => a ⟨j, hj, e⟩⟩
  · intro n j hj e
    rw [chain_May.l0, if_pos (by omega), if_pos (by omega), if_pos e, w64_succ hj (by omega)]
  · intro n j hj e
    rw [chain_May.l0, if_pos (by omega), if_pos (by omega), if_neg e]
    unfold chain_May.j1
    rw [decide_eq_true (by omega : (0 : Int) ≤ (j : Int))]
  · intro n
    rw [chain_May.l0, if_neg (by omega)]
    rfl
theorem May_says (hk : 1000 < k) (hp : PIn p) : Says (chain_May.f k p) (PoolOk p) := by
  unfold chain_May.f
  have jt : chain_May.j0 p k true = some false := by unfold chain_May.j0; rw [if_pos rfl]
  by_cases a1 : DevsOk p.Devices
  · rw [(room_May_says hk hp.devs).1 a1]
    simp only [Option.bind_some, if_true]
    by_cases a2 : 12 < (p.Tables.length : Int)
    · rw [if_pos a2, jt]
      exact ⟨fun g => by have := g.len; omega, fun _ => rfl⟩
    rw [if_neg a2]
    have tail : (p.Job.Dev ≠ 0 → p.Tables.length < 12) → Says ((chain_ids.f k p).bind fun y2 => (if y2 = true then ((chain_tables.f k p).bind fun y3 => (if y3 = true then ((chain_job.f k p).bind fun y4 => (chain_May.j0 p k (!y4))) else (chain_May.j0 p k true))) else (chain_May.j0 p k true))) (PoolOk p) := by
      intro hj
      by_cases b1 : IdsOk p
      · rw [(ids_says hk hp a1).1 b1]
        simp only [Option.bind_some, if_true]
        by_cases b2 : Fine p
        · rw [(tables_says hk hp a1 b1).1 b2]
          simp only [Option.bind_some, if_true]
          by_cases b3 : JobOk p
          · rw [(job_says hk hp a1).1 b3]
            unfold chain_May.j0
            simp only [Option.bind_some]
            rw [if_neg (by simp)]
            exact Says.iff (other_says hk a1) ⟨fun o => ⟨a1, by omega, hj, b1, b2, b3, o⟩, fun g => g.other⟩
          · rw [(job_says hk hp a1).2 b3]
            simp only [Option.bind_some]
            rw [show (!false) = true from rfl, jt]
            exact ⟨fun g => absurd g.job b3, fun _ => rfl⟩
        · rw [(tables_says hk hp a1 b1).2 b2]
          simp only [Option.bind_some]
          rw [if_neg (by simp), jt]
          exact ⟨fun g => absurd g.fine b2, fun _ => rfl⟩
      · rw [(ids_says hk hp a1).2 b1]
        simp only [Option.bind_some]
        rw [if_neg (by simp), jt]
        exact ⟨fun g => absurd g.ids b1, fun _ => rfl⟩
    by_cases a3 : p.Job.Dev = 0
    · rw [if_pos a3]
      exact tail fun z => absurd a3 z
    · rw [if_neg a3]
      by_cases a4 : 12 ≤ (p.Tables.length : Int)
      · rw [if_pos a4, jt]
        exact ⟨fun g => by have := g.jobLen a3; omega, fun _ => rfl⟩
      · rw [if_neg a4]
        exact tail fun _ => by omega
  · rw [(room_May_says hk hp.devs).2 a1]
    simp only [Option.bind_some]
    rw [if_neg (by simp), jt]
    exact ⟨fun g => absurd g.devs a1, fun _ => rfl⟩
theorem ref_Pool_l3 (hk : 1000 < k) (hp : PIn p) (hd : DevsOk p.Devices) (h : IdsOk p) {i : Nat} (hi : i < p.Tables.length) (re : Int → Option Bool) :
    (¬ B p i → hermitageref9_Pool.l3 p k i re k 0 = re (w64 ((i : Int) + 1))) ∧ (B p i → hermitageref9_Pool.l3 p k i re k 0 = some false) := by
  have hl : (ls p i).length ≤ 1000 := hp.tabs _ (rd_mem hi)
  have q := loop_says (f := hermitageref9_Pool.l3 p k i re) (len := (ls p i).length) (E := re (w64 ((i : Int) + 1))) (F := some false) (P := fun j => IsDev p (rd (ls p i) (j : Int)).Dev ∨ IsTab p (rd (ls p i) (j : Int)).Dev) ?_ ?_ ?_ k 0 (by omega) (by omega)
  · refine ⟨fun nb => q.1 fun j _ hj => Classical.byContradiction fun a => nb ⟨_, rd_mem hj, fun b => a (.inl b), fun b => a (.inr b)⟩, fun ⟨x, hx, b1, b2⟩ => q.2 fun a => ?_⟩
    obtain ⟨j, hj, ex⟩ := List.getElem_of_mem hx
    have b := a j (by omega) hj
    rw [rd_nat hj, ex] at b
    exact b.elim b1 b2
  · intro n j hj ho
    rw [hermitageref9_Pool.l3, if_pos (by omega), if_pos (show (j : Int) < ((ls p i).length : Int) by omega), if_pos (by omega), if_pos (show 0 ≤ (j : Int) ∧ (j : Int) < ((ls p i).length : Int) by omega)]
    unfold hermitageref9_Pool.j3
    by_cases a : IsDev p (rd (ls p i) (j : Int)).Dev
    · obtain ⟨m, hm, e⟩ := a
      rw [ref_At_in hk hd hm e]
      simp only [Option.bind_some]
      rw [if_neg (by omega), if_neg (by simp), w64_succ hj (by omega)]
    · rw [ref_At_out hk hd a]
      simp only [Option.bind_some]
      rw [if_pos (by omega)]
      obtain ⟨m, hm, e⟩ := ho.resolve_left a
      rcases ref_Table_spot hk hp (rd (ls p i) (j : Int)).Dev with ⟨m', hm', e', f⟩ | ⟨b, f⟩
      · rw [f]
        simp only [Option.bind_some]
        rw [if_neg (by simp only [decide_eq_true_eq]; omega), w64_succ hj (by omega)]
      · exact absurd e (b m hm)
  · intro n j hj ho
    rw [hermitageref9_Pool.l3, if_pos (by omega), if_pos (show (j : Int) < ((ls p i).length : Int) by omega), if_pos (by omega), if_pos (show 0 ≤ (j : Int) ∧ (j : Int) < ((ls p i).length : Int) by omega)]
    unfold hermitageref9_Pool.j3
    rw [ref_At_out hk hd fun b => ho (.inl b)]
    simp only [Option.bind_some]
    rw [if_pos (by omega)]
    rcases ref_Table_spot hk hp (rd (ls p i) (j : Int)).Dev with ⟨m', hm', e', f⟩ | ⟨b, f⟩
    · exact absurd (.inr ⟨m', hm', e'⟩) ho
    · rw [f]
      simp only [Option.bind_some]
      rw [if_pos (by simp)]
  · intro n
    rw [hermitageref9_Pool.l3, if_pos (by omega), if_neg (show ¬ ((ls p i).length : Int) < ((ls p i).length : Int) by omega)]
theorem ref_Pool_l2 (hk : 1100 < k) (hp : PIn p) (hd : DevsOk p.Devices) (h : IdsOk p) {c : Nat} (hc : 0 < c ↔ Other p) : Says (hermitageref9_Pool.l2 p k c k 0) (Fine p ∧ JobOk p ∧ Other p) := by
  have hl := hp.tabs_len
  have q := loop_says (f := hermitageref9_Pool.l2 p k c) (len := p.Tables.length) (E := (if 0 < (c : Int) then ((hermitageref9_round.f k p).bind fun y9 => (if y9 = true then (some false) else ((hermitageref9_job.f k p).bind fun y10 => (some y10)))) else (some false))) (F := some false) (P := fun j => ¬ B p j) ?_ ?_ ?_ k 0 (by omega) (by omega)
  · by_cases a : ∀ i, i < p.Tables.length → ¬ B p i
    · have q1 := q.1 fun j _ hj => a j hj
      have q1 : hermitageref9_Pool.l2 p k c k 0 = (if 0 < (c : Int) then ((hermitageref9_round.f k p).bind fun y9 => (if y9 = true then (some false) else ((hermitageref9_job.f k p).bind fun y10 => (some y10)))) else (some false)) := q1
      rw [q1]
      by_cases o : Other p
      · rw [if_pos (by have := hc.2 o; omega)]
        by_cases b : Fine p
        · rw [(round_says hk hp h a).2 fun z => z b]
          simp only [Option.bind_some]
          rw [if_neg (by simp)]
          by_cases j : JobOk p
          · rw [(ref_job_says (by omega) hp hd).1 j]
            exact ⟨fun _ => rfl, fun g => absurd ⟨b, j, o⟩ g⟩
          · rw [(ref_job_says (by omega) hp hd).2 j]
            exact ⟨fun g => absurd g.2.1 j, fun _ => rfl⟩
        · rw [(round_says hk hp h a).1 b]
          simp only [Option.bind_some]
          rw [if_pos trivial]
          exact ⟨fun g => absurd g.1 b, fun _ => rfl⟩
      · have z : ¬ 0 < c := fun z => o (hc.1 z)
        rw [if_neg (by omega)]
        exact ⟨fun g => absurd g.2.2 o, fun _ => rfl⟩
    · have q2 := q.2 fun b => a fun i hi => b i (by omega) hi
      refine ⟨fun ⟨⟨r, g⟩, _⟩ => absurd (fun i hi => (g i hi).1) a, fun _ => q2⟩
  · intro n j hj ho
    rw [hermitageref9_Pool.l2, if_pos (by omega), (ref_Pool_l3 (by omega) hp hd h hj _).1 ho, w64_succ hj (by omega)]
  · intro n j hj ho
    rw [hermitageref9_Pool.l2, if_pos (by omega), (ref_Pool_l3 (by omega) hp hd h hj _).2 (Classical.byContradiction ho)]
  · intro n
    rw [hermitageref9_Pool.l2, if_neg (by omega)]
theorem ref_Pool_l1 (hk : 1100 < k) (hp : PIn p) (hd : DevsOk p.Devices) (c : Int) : ((∀ j : Nat, 0 ≤ j → j < p.Tables.length → TabsOk p j) → hermitageref9_Pool.l1 p k c k 0 = hermitageref9_Pool.l2 p k c k 0) ∧ (¬ (∀ j : Nat, 0 ≤ j → j < p.Tables.length → TabsOk p j) → hermitageref9_Pool.l1 p k c k 0 = some false) := by
  have hl := hp.tabs_len
  refine loop_says (f := hermitageref9_Pool.l1 p k c) (len := p.Tables.length) (E := hermitageref9_Pool.l2 p k c k 0) (F := some false) (P := fun j => TabsOk p j) ?_ ?_ ?_ k 0 (by omega) (by omega)
  · intro n i hi ho
    have hm := hp.tabs _ (rd_mem hi)
    rw [hermitageref9_Pool.l1, if_pos (by omega), if_pos (by omega), T.refTable_eq (by omega) (by omega), ho.ok]
    simp only [Option.bind_some, if_true]
    have := ho.next
    rw [if_neg (by omega), ref_At_out (by omega) hd ho.dev]
    unfold hermitageref9_Pool.j2
    simp only [Option.bind_some]
    rcases Nat.eq_zero_or_pos i with z | z
    · rw [if_neg (by omega), if_neg (by simp), w64_succ hi (by omega)]
    · have := ho.asc z
      rw [if_pos (by omega), w64_pred z (Nat.le_of_lt hi) (by omega), if_pos (by omega), if_neg (by omega), if_neg (by simp), w64_succ hi (by omega)]
  · intro n i hi ho
    have hm := hp.tabs _ (rd_mem hi)
    rw [hermitageref9_Pool.l1, if_pos (by omega), if_pos (by omega), T.refTable_eq (by omega) (by omega)]
    simp only [Option.bind_some]
    have jt : ∀ re, hermitageref9_Pool.j2 (i : Int) re true = some false := fun re => by unfold hermitageref9_Pool.j2; rw [if_pos rfl]
    by_cases a1 : T.tabOk' (rd p.Tables (i : Int)) = true
    · rw [if_pos a1]
      by_cases a3 : p.Next ≤ (rd p.Tables (i : Int)).Dev
      · rw [if_pos a3, jt]
      · rw [if_neg a3]
        have at_ : ∀ re, IsDev p (rd p.Tables (i : Int)).Dev → ((hermitageref7_At.f k p.Devices (rd p.Tables (i : Int)).Dev).bind fun y6 => (hermitageref9_Pool.j2 (i : Int) re (decide (0 ≤ y6)))) = some false := fun re ⟨m, hm, e⟩ => by
          rw [ref_At_in (by omega) hd hm e]
          simp only [Option.bind_some]
          rw [decide_eq_true (by omega : (0 : Int) ≤ (m : Int)), jt]
        rcases Nat.eq_zero_or_pos i with z | z
        · rw [if_neg (by omega)]
          exact at_ _ (Classical.byContradiction fun a2 => ho ⟨a1, a2, by omega, fun y => by omega⟩)
        · rw [if_pos (by omega), w64_pred z (Nat.le_of_lt hi) (by omega), if_pos (by omega)]
          by_cases a4 : (rd p.Tables (i : Int)).Dev ≤ (rd p.Tables ((i - 1 : Nat) : Int)).Dev
          · rw [if_pos a4, jt]
          · rw [if_neg a4]
            exact at_ _ (Classical.byContradiction fun a2 => ho ⟨a1, a2, by omega, fun y => by omega⟩)
    · rw [if_neg a1, jt]
  · intro n
    rw [hermitageref9_Pool.l1, if_neg (by omega)]
theorem ref_Pool_l0 (hk : 1100 < k) (hp : PIn p) (hd : DevsOk p.Devices) : ∀ (n i c : Nat), i ≤ p.Devices.length → p.Devices.length - i < n → c ≤ i → (0 < c ↔ ∃ m : Nat, m < i ∧ (rd p.Devices (m : Int)).ID ≠ p.Job.Dev) →
    ∃ c' : Nat, (0 < c' ↔ Other p) ∧ ((∀ j : Nat, i ≤ j → j < p.Devices.length → (rd p.Devices (j : Int)).ID < p.Next) → hermitageref9_Pool.l0 p k n c i = hermitageref9_Pool.l1 p k c' k 0) ∧ (¬ (∀ j : Nat, i ≤ j → j < p.Devices.length → (rd p.Devices (j : Int)).ID < p.Next) → hermitageref9_Pool.l0 p k n c i = some false)
  | 0, i, c, _, h, _, _ => by omega
  | n + 1, i, c, hi, hn, hc, ho => by
    have hl := hd.1
    rw [hermitageref9_Pool.l0]
    by_cases d : i < p.Devices.length
    · rw [if_pos (by omega), if_pos (by omega)]
      by_cases a1 : p.Next ≤ (rd p.Devices (i : Int)).ID
      · rw [if_pos a1]
        have : ∃ c' : Nat, (0 < c' ↔ Other p) := by
          by_cases o : Other p
          · exact ⟨1, by simp [o]⟩
          · exact ⟨0, by simp [o]⟩
        obtain ⟨c', hc'⟩ := this
        exact ⟨c', hc', fun g => by have := g i (by omega) d; omega, fun _ => rfl⟩
      · rw [if_neg a1, if_pos (by omega)]
        unfold hermitageref9_Pool.j1
        have f1 : p.Devices.length - (i + 1) < n := by omega
        have f2 : i + 1 ≤ p.Devices.length := by omega
        have fin : ∀ c2 : Nat, c2 ≤ i + 1 → (0 < c2 ↔ ∃ m : Nat, m < i + 1 ∧ (rd p.Devices (m : Int)).ID ≠ p.Job.Dev) → ∃ c' : Nat, (0 < c' ↔ Other p) ∧ ((∀ j : Nat, i ≤ j → j < p.Devices.length → (rd p.Devices (j : Int)).ID < p.Next) → hermitageref9_Pool.l0 p k n c2 (w64 ((i : Int) + 1)) = hermitageref9_Pool.l1 p k c' k 0) ∧ (¬ (∀ j : Nat, i ≤ j → j < p.Devices.length → (rd p.Devices (j : Int)).ID < p.Next) → hermitageref9_Pool.l0 p k n c2 (w64 ((i : Int) + 1)) = some false) := by
          intro c2 h2 o2
          obtain ⟨c', e1, e2, e3⟩ := ref_Pool_l0 hk hp hd n (i + 1) c2 f2 f1 h2 o2
          rw [w64_succ d (by omega)]
          refine ⟨c', e1, fun g => e2 fun j hj hl => g j (by omega) hl, fun g => e3 fun a => g fun j hj hl => ?_⟩
          rcases Nat.lt_or_ge i j with z | z
          · exact a j z hl
          · have : j = i := by omega
            rw [this]; omega
        by_cases a2 : (rd p.Devices (i : Int)).ID = p.Job.Dev
        · rw [if_pos a2]
          refine fin c (by omega) ⟨fun z => ?_, fun ⟨m, hm, e⟩ => ho.2 ⟨m, ?_, e⟩⟩
          · obtain ⟨m, hm, e⟩ := ho.1 z
            exact ⟨m, by omega, e⟩
          · have : m ≠ i := fun z => e (z ▸ a2)
            omega
        · rw [if_neg a2, w64_id (x := (c : Int) + 1) (by omega) (by omega)]
          exact fin (c + 1) (by omega) ⟨fun _ => ⟨i, by omega, a2⟩, fun _ => by omega⟩
    · rw [if_neg (by omega)]
      have : i = p.Devices.length := by omega
      subst this
      exact ⟨c, ho, fun _ => rfl, fun g => absurd (fun j hj hl => by omega) g⟩
theorem Pool_says (hk : 1100 < k) (hp : PIn p) : Says (hermitageref9_Pool.f k p) (PoolOk p) := by
  unfold hermitageref9_Pool.f
  rw [T.Between_eq]
  have jt : hermitageref9_Pool.j0 p k true = some false := by unfold hermitageref9_Pool.j0; rw [if_pos rfl]
  by_cases a1 : DevsOk p.Devices
  · rw [(ref_Devices_says (by omega) hp.devs).1 a1]
    simp only [Option.bind_some, if_true]
    by_cases a2 : 12 < (p.Tables.length : Int)
    · rw [if_pos a2, jt]
      exact ⟨fun g => by have := g.len; omega, fun _ => rfl⟩
    rw [if_neg a2]
    have tail : (p.Job.Dev ≠ 0 → p.Tables.length < 12) → Says (hermitageref9_Pool.j0 p k (!(decide (1 ≤ p.Next ∧ p.Next ≤ 41)))) (PoolOk p) := by
      intro hj
      by_cases b1 : 1 ≤ p.Next ∧ p.Next ≤ 41
      · rw [decide_eq_true b1]
        unfold hermitageref9_Pool.j0
        rw [if_neg (by simp)]
        have hl := a1.1
        obtain ⟨c, hc, q1, q2⟩ := ref_Pool_l0 hk hp a1 k 0 0 (by omega) (by omega) (by omega) ⟨fun z => by omega, fun ⟨m, hm, _⟩ => by omega⟩
        by_cases b2 : ∀ j : Nat, 0 ≤ j → j < p.Devices.length → (rd p.Devices (j : Int)).ID < p.Next
        · have q1 := q1 b2
          have q1 : hermitageref9_Pool.l0 p k k 0 0 = hermitageref9_Pool.l1 p k c k 0 := q1
          rw [q1]
          by_cases b3 : ∀ j : Nat, 0 ≤ j → j < p.Tables.length → TabsOk p j
          · rw [(ref_Pool_l1 hk hp a1 c).1 b3]
            have hi : IdsOk p := ⟨b1.2, b3, b2⟩
            exact Says.iff (ref_Pool_l2 hk hp a1 hi hc) ⟨fun g => ⟨a1, by omega, hj, hi, g.1, g.2.1, g.2.2⟩, fun g => ⟨g.fine, g.job, g.other⟩⟩
          · rw [(ref_Pool_l1 hk hp a1 c).2 b3]
            exact ⟨fun g => absurd g.ids.tabs b3, fun _ => rfl⟩
        · have q2 := q2 b2
          exact ⟨fun g => absurd g.ids.devs b2, fun _ => q2⟩
      · rw [decide_eq_false b1]
        rw [show (!false) = true from rfl, jt]
        refine ⟨fun g => absurd ⟨?_, g.ids.max⟩ b1, fun _ => rfl⟩
        obtain ⟨m, hm, _⟩ := g.other
        have := dev_id a1 hm
        have := g.ids.devs m (by omega) hm
        omega
    by_cases a3 : p.Job.Dev = 0
    · rw [if_pos a3]
      exact tail fun z => absurd a3 z
    · rw [if_neg a3]
      by_cases a4 : 12 ≤ (p.Tables.length : Int)
      · rw [if_pos a4, jt]
        exact ⟨fun g => by have := g.jobLen a3; omega, fun _ => rfl⟩
      · rw [if_neg a4]
        exact tail fun _ => by omega
  · rw [(ref_Devices_says (by omega) hp.devs).2 a1]
    simp only [Option.bind_some]
    rw [if_neg (by simp), jt]
    exact ⟨fun g => absurd g.devs a1, fun _ => rfl⟩
end Go.Proofs.Ytnaajldlloglkaa.W
