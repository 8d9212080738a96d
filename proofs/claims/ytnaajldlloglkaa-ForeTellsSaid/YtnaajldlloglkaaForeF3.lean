/- Plain facts: tables of a pool: IDs, and whether one leads back to itself. -/
import Derived.Test.YtnaajldlloglkaaForeF1
import Derived.Test.YtnaajldlloglkaaForeF2
import Derived.Test.YtnaajldlloglkaaHO
set_option linter.unusedVariables false
set_option linter.unusedSimpArgs false
namespace Go.Proofs.Ytnaajldlloglkaa.W
open Go.H
theorem chain_Find_l0 {p : Pool} (hl : p.Tables.length ≤ 1000) (hb : ∀ j : Nat, j < p.Tables.length → 0 ≤ (rd p.Tables (j : Int)).Dev ∧ (rd p.Tables (j : Int)).Dev ≤ 1000) (ha : ∀ j : Nat, j < p.Tables.length → 0 < j → (rd p.Tables ((j - 1 : Nat) : Int)).Dev < (rd p.Tables (j : Int)).Dev) {id : Int} (i0 : -9223372036854775808 ≤ id) (i1 : id < 9223372036854775808) :
    ∀ (n lo hi : Nat), lo ≤ hi → hi ≤ p.Tables.length → hi - lo < n → (∀ m : Nat, m < p.Tables.length → (rd p.Tables (m : Int)).Dev = id → lo ≤ m ∧ m ≤ hi) → Spot (fun m => (rd p.Tables (m : Int)).Dev) p.Tables.length id (chain_Find.l0 p id n lo hi)
  | 0, lo, hi, _, _, h, _ => by omega
  | n + 1, lo, hi, h1, h2, hn, hm => by
    unfold chain_Find.l0
    by_cases c : lo < hi
    · rw [if_pos (by omega), mid_eq (by omega) (by omega), if_pos (by omega)]
      unfold chain_Find_1.f
      simp only [Option.bind_some]
      have hj : (lo + hi) / 2 < p.Tables.length := by omega
      by_cases d : w64 ((rd p.Tables (((lo + hi) / 2 : Nat) : Int)).Dev - id) < 0
      · rw [if_pos d, w64_succ hj (by omega)]
        refine chain_Find_l0 hl hb ha i0 i1 n _ hi (by omega) h2 (by omega) fun m hml e => ?_
        have q := hm m hml e
        refine ⟨?_, q.2⟩
        have b1 := hb m hml
        have b2 := hb _ hj
        rw [w64_id (by omega) (by omega)] at d
        rcases Nat.lt_or_ge ((lo + hi) / 2) m with z | z
        · omega
        · exfalso
          rcases Nat.lt_or_ge m ((lo + hi) / 2) with y | y
          · have := asc_lt (g := fun j => (rd p.Tables (j : Int)).Dev) ha y hj
            omega
          · have : m = (lo + hi) / 2 := by omega
            subst this
            omega
      · rw [if_neg d]
        refine chain_Find_l0 hl hb ha i0 i1 n lo _ (by omega) (by omega) (by omega) fun m hml e => ?_
        have q := hm m hml e
        refine ⟨q.1, ?_⟩
        have b1 := hb m hml
        have b2 := hb _ hj
        rw [w64_id (by omega) (by omega)] at d
        rcases Nat.lt_or_ge ((lo + hi) / 2) m with z | z
        · exfalso
          have := asc_lt (g := fun j => (rd p.Tables (j : Int)).Dev) ha z hml
          omega
        · omega
    · have e : hi = lo := by omega
      subst e
      rw [if_neg (by omega)]
      by_cases f : hi < p.Tables.length
      · rw [if_pos (by omega), if_pos (by omega)]
        unfold chain_Find_1.f chain_Find.j0
        simp only [Option.bind_some]
        by_cases g : (rd p.Tables (hi : Int)).Dev = id
        · refine .inl ⟨hi, f, g, ?_⟩
          rw [g, Int.sub_self]
          rfl
        · refine .inr ⟨fun m hml e => g ?_, hi, ?_⟩
          · have := hm m hml e
            have : m = hi := by omega
            rw [← this]; exact e
          · have : ¬ w64 ((rd p.Tables (hi : Int)).Dev - id) = 0 := fun z => by
              have z := w64_zero z
              have := hb hi f
              omega
            simp [this]
      · rw [if_neg (by omega)]
        refine .inr ⟨fun m hml e => ?_, hi, rfl⟩
        have := hm m hml e
        omega
theorem ref_Table_l0 {p : Pool} (hl : p.Tables.length ≤ 1000) {id : Int} : ∀ (n i : Nat), i ≤ p.Tables.length → p.Tables.length - i < n → (∀ m : Nat, m < i → (rd p.Tables (m : Int)).Dev ≠ id) →
    (∃ m : Nat, m < p.Tables.length ∧ (rd p.Tables (m : Int)).Dev = id ∧ hermitageref9_Table.l0 p id n i = some (m : Int)) ∨ ((∀ m : Nat, m < p.Tables.length → (rd p.Tables (m : Int)).Dev ≠ id) ∧ hermitageref9_Table.l0 p id n i = some (-1))
  | 0, i, _, h, _ => by omega
  | n + 1, i, hi, hn, hm => by
    unfold hermitageref9_Table.l0
    by_cases c : i < p.Tables.length
    · rw [if_pos (by omega), if_pos (by omega)]
      by_cases d : (rd p.Tables (i : Int)).Dev = id
      · rw [if_pos d]; exact .inl ⟨i, c, d, rfl⟩
      · rw [if_neg d, w64_succ c (by omega)]
        refine ref_Table_l0 hl n (i + 1) (by omega) (by omega) fun m h => ?_
        rcases Nat.lt_or_ge m i with z | z
        · exact hm m z
        · rw [show m = i by omega]; exact d
    · rw [if_neg (by omega)]
      exact .inr ⟨fun m h => hm m (by omega), rfl⟩

def IsDev (p : Pool) (d : Int) : Prop := ∃ m : Nat, m < p.Devices.length ∧ (rd p.Devices (m : Int)).ID = d
def IsTab (p : Pool) (d : Int) : Prop := ∃ m : Nat, m < p.Tables.length ∧ (rd p.Tables (m : Int)).Dev = d
/-- How great a pool may be, and that its numbers are numbers. -/
structure PIn (p : Pool) : Prop where
  devs : DevsIn p.Devices
  devs_len : p.Devices.length ≤ 1000
  tabs_len : p.Tables.length ≤ 1000
  tabs : ∀ t ∈ p.Tables, t.List_.length ≤ 1000
  job : p.Job.Table.List_.length ≤ 1000
  jobDev : -9223372036854775808 ≤ p.Job.Dev ∧ p.Job.Dev < 9223372036854775808
theorem device_says {p : Pool} {k : Nat} (hk : 1000 < k) (h : DevsOk p.Devices) {id : Int} (i0 : -9223372036854775808 ≤ id) (i1 : id < 9223372036854775808) : Says (chain_device.f k p id) (IsDev p id) := by
  unfold chain_device.f
  rcases room_Find_spot hk h i0 i1 with ⟨m, hm, e, f⟩ | ⟨a, m, f⟩
  · rw [f]; exact ⟨fun _ => rfl, fun g => absurd ⟨m, hm, e⟩ g⟩
  · rw [f]; exact ⟨fun ⟨m, hm, e⟩ => absurd e (a m hm), fun _ => rfl⟩
structure TabsOk (p : Pool) (j : Nat) : Prop where
  ok : T.tabOk' (rd p.Tables (j : Int)) = true
  dev : ¬ IsDev p (rd p.Tables (j : Int)).Dev
  next : (rd p.Tables (j : Int)).Dev < p.Next
  asc : 0 < j → (rd p.Tables ((j - 1 : Nat) : Int)).Dev < (rd p.Tables (j : Int)).Dev
structure IdsOk (p : Pool) : Prop where
  max : p.Next ≤ 41
  tabs : ∀ j : Nat, 0 ≤ j → j < p.Tables.length → TabsOk p j
  devs : ∀ j : Nat, 0 ≤ j → j < p.Devices.length → (rd p.Devices (j : Int)).ID < p.Next
theorem tab_dev {t : Table} (h : T.tabOk' t = true) : 1 ≤ t.Dev ∧ t.Dev ≤ 40 ∧ 1 ≤ t.Size ∧ t.Size ≤ 64 := (T.tabOk_iff.1 h).1
theorem ids_says {p : Pool} {k : Nat} (hk : 1000 < k) (hp : PIn p) (h : DevsOk p.Devices) : Says (chain_ids.f k p) (IdsOk p) := by
  unfold chain_ids.f
  by_cases c : 41 < p.Next
  · rw [if_pos c]; exact ⟨fun g => by have := g.max; omega, fun _ => rfl⟩
  rw [if_neg c]
  have hl := hp.tabs_len
  have hd := h.1
  have q1 := loop_says (f := chain_ids.l1 p) (len := p.Devices.length) (E := some true) (F := some false) (P := fun j => (rd p.Devices (j : Int)).ID < p.Next) ?_ ?_ ?_ k 0 (by omega) (by omega)
  have q2 := loop_says (f := chain_ids.l0 p k) (len := p.Tables.length) (E := chain_ids.l1 p k 0) (F := some false) (P := fun j => TabsOk p j) ?_ ?_ ?_ k 0 (by omega) (by omega)
  · refine ⟨fun g => (q2.1 g.tabs).trans (q1.1 g.devs), fun g => ?_⟩
    by_cases d : ∀ j : Nat, 0 ≤ j → j < p.Tables.length → TabsOk p j
    · exact (q2.1 d).trans (q1.2 fun e => g ⟨by omega, d, e⟩)
    · exact q2.2 d
  · intro n i hi ho
    have hm := rd_mem hi
    rw [chain_ids.l0, if_pos (by omega), if_pos (by omega), T.May_eq (by have := hp.tabs _ hm; omega) (by have := hp.tabs _ hm; omega), ho.ok]
    simp only [Option.bind_some, if_true]
    have td := tab_dev ho.ok
    rw [(device_says hk h (by omega) (by omega)).2 ho.dev]
    simp only [Option.bind_some]
    have := ho.next
    rw [if_neg (by simp), if_neg (by omega)]
    rcases Nat.eq_zero_or_pos i with z | z
    · rw [if_neg (by omega)]
      unfold chain_ids.j0
      rw [if_neg (by simp), w64_succ hi (by omega)]
    · rw [if_pos (by omega), w64_pred z (Nat.le_of_lt hi) (by omega), if_pos (by omega)]
      unfold chain_ids.j0
      have := ho.asc z
      rw [if_neg (by simp only [decide_eq_true_eq]; omega), w64_succ hi (by omega)]
  · intro n i hi ho
    have hm := rd_mem hi
    rw [chain_ids.l0, if_pos (by omega), if_pos (by omega), T.May_eq (by have := hp.tabs _ hm; omega) (by have := hp.tabs _ hm; omega)]
    simp only [Option.bind_some]
    by_cases a1 : T.tabOk' (rd p.Tables (i : Int)) = true
    · rw [if_pos a1]
      have td := tab_dev a1
      by_cases a2 : IsDev p (rd p.Tables (i : Int)).Dev
      · rw [(device_says hk h (by omega) (by omega)).1 a2]
        simp only [Option.bind_some, if_true]
        unfold chain_ids.j0
        rw [if_pos rfl]
      · rw [(device_says hk h (by omega) (by omega)).2 a2]
        simp only [Option.bind_some]
        rw [if_neg (by simp)]
        by_cases a3 : p.Next ≤ (rd p.Tables (i : Int)).Dev
        · rw [if_pos a3]
          unfold chain_ids.j0
          rw [if_pos rfl]
        · rw [if_neg a3]
          have q : ¬ (0 < i → (rd p.Tables ((i - 1 : Nat) : Int)).Dev < (rd p.Tables (i : Int)).Dev) := fun g => ho ⟨a1, a2, by omega, g⟩
          have z : 0 < i := by
            rcases Nat.eq_zero_or_pos i with z | z
            · exact absurd (fun h => by omega) q
            · exact z
          have q : ¬ (rd p.Tables ((i - 1 : Nat) : Int)).Dev < (rd p.Tables (i : Int)).Dev := fun g => q fun _ => g
          rw [if_pos (by omega), w64_pred z (Nat.le_of_lt hi) (by omega), if_pos (by omega)]
          unfold chain_ids.j0
          rw [if_pos (by simp only [decide_eq_true_eq]; omega)]
    · rw [if_neg a1]
      unfold chain_ids.j0
      rw [if_pos rfl]
  · intro n
    rw [chain_ids.l0, if_neg (by omega)]
  · intro n i hi ho
    rw [chain_ids.l1, if_pos (by omega), if_pos (by omega), if_neg (by omega), w64_succ hi (by omega)]
  · intro n i hi ho
    rw [chain_ids.l1, if_pos (by omega), if_pos (by omega), if_pos (by omega)]
    unfold chain_ids.j1
    simp
  · intro n
    rw [chain_ids.l1, if_neg (by omega)]
    unfold chain_ids.j1
    simp
end Go.Proofs.Ytnaajldlloglkaa.W
