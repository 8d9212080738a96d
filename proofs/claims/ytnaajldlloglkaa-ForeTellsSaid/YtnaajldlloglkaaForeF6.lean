/- Plain facts: jobs and pools that may be. -/
import Derived.Test.YtnaajldlloglkaaForeF5
set_option linter.unusedVariables false
set_option linter.unusedSimpArgs false
namespace Go.Proofs.Ytnaajldlloglkaa.W
open Go.H
variable {p : Pool} {k : Nat}
structure Begun (p : Pool) (m : Nat) : Prop where
  lt : m < p.Devices.length
  id : (rd p.Devices (m : Int)).ID = p.Job.Dev
  at0 : 0 ≤ p.Job.At
  at1 : p.Job.At < (rd p.Devices (m : Int)).Size
  dev : p.Job.Table.Dev = p.Job.Dev
  size : p.Job.Table.Size = (rd p.Devices (m : Int)).Size
  tab : T.tabOk' p.Job.Table = true
  list : ∀ x ∈ p.Job.Table.List_, x.From + x.Len ≤ p.Job.At ∧ IsDev p x.Dev
structure Idle (p : Pool) : Prop where
  dev : p.Job.Dev = 0
  at0 : p.Job.At = 0
  tab : p.Job.Table = ⟨0, 0, []⟩
def JobOk (p : Pool) : Prop := Idle p ∨ ∃ m, Begun p m
theorem dev_id (h : DevsOk p.Devices) {m : Nat} (hm : m < p.Devices.length) : 1 ≤ (rd p.Devices (m : Int)).ID ∧ (rd p.Devices (m : Int)).ID ≤ 40 := (h.2 m (by omega) hm).1.id
theorem dev_ok (h : DevsOk p.Devices) {m : Nat} (hm : m < p.Devices.length) : DevOk (rd p.Devices (m : Int)) := (h.2 m (by omega) hm).1
theorem dev_asc (h : DevsOk p.Devices) : ∀ j : Nat, j < p.Devices.length → 0 < j → (rd p.Devices ((j - 1 : Nat) : Int)).ID < (rd p.Devices (j : Int)).ID := fun j hj z => (h.2 j (by omega) hj).2 z
theorem dev_inj (h : DevsOk p.Devices) {i j : Nat} (hi : i < p.Devices.length) (hj : j < p.Devices.length) (e : (rd p.Devices (i : Int)).ID = (rd p.Devices (j : Int)).ID) : i = j :=
  asc_inj (g := fun m => (rd p.Devices (m : Int)).ID) (dev_asc h) hi hj e
theorem not_begun (h : DevsOk p.Devices) (z : p.Job.Dev = 0) {m : Nat} : ¬ Begun p m := fun b => by
  have := dev_id h b.lt
  have := b.id
  omega
theorem ref_At_in (hk : 1000 < k) (h : DevsOk p.Devices) {m : Nat} (hm : m < p.Devices.length) {id : Int} (e : (rd p.Devices (m : Int)).ID = id) : hermitageref7_At.f k p.Devices id = some (m : Int) := by
  have := h.1
  rcases ref_At_spot (l := p.Devices) hk (by omega) id with ⟨m', hm', e', f⟩ | ⟨a, f⟩
  · rw [f, dev_inj h hm' hm (e'.trans e.symm)]
  · exact absurd e (a m hm)
theorem ref_At_out (hk : 1000 < k) (h : DevsOk p.Devices) {id : Int} (n : ¬ IsDev p id) : hermitageref7_At.f k p.Devices id = some (-1) := by
  have := h.1
  rcases ref_At_spot (l := p.Devices) hk (by omega) id with ⟨m', hm', e', f⟩ | ⟨a, f⟩
  · exact absurd ⟨m', hm', e'⟩ n
  · exact f
theorem find_in (hk : 1000 < k) (h : DevsOk p.Devices) {m : Nat} (hm : m < p.Devices.length) {id : Int} (i0 : -9223372036854775808 ≤ id) (i1 : id < 9223372036854775808) (e : (rd p.Devices (m : Int)).ID = id) : room_Find.f k p.Devices id = some ((m : Int), true) := by
  rcases room_Find_spot hk h i0 i1 with ⟨m', hm', e', f⟩ | ⟨a, m', f⟩
  · rw [f, dev_inj h hm' hm (e'.trans e.symm)]
  · exact absurd e (a m hm)
theorem find_out (hk : 1000 < k) (h : DevsOk p.Devices) {id : Int} (i0 : -9223372036854775808 ≤ id) (i1 : id < 9223372036854775808) (n : ¬ IsDev p id) : ∃ m : Nat, room_Find.f k p.Devices id = some ((m : Int), false) := by
  rcases room_Find_spot hk h i0 i1 with ⟨m', hm', e', f⟩ | ⟨a, m', f⟩
  · exact absurd ⟨m', hm', e'⟩ n
  · exact ⟨m', f⟩
theorem job_ent {x : Entry} (t : T.tabOk' p.Job.Table = true) (hx : x ∈ p.Job.Table.List_) : T.EntOk p.Job.Table.Dev p.Job.Table.Size x := T.tab_elem (T.tabOk_iff.1 t).2 x hx
theorem job_says (hk : 1000 < k) (hp : PIn p) (h : DevsOk p.Devices) : Says (chain_job.f k p) (JobOk p) := by
  have hl := hp.job
  unfold chain_job.f chain_none.f
  have hno : ¬ Idle p → Says ((room_Find.f k p.Devices p.Job.Dev).bind fun y2 => (if y2.2 = true then (if p.Job.At < 0 then (chain_job.j0 p k true) else (if 0 ≤ y2.1 ∧ y2.1 < (p.Devices.length : Int) then (if ((rd p.Devices y2.1).Size) ≤ p.Job.At then (chain_job.j0 p k true) else (if p.Job.Table.Dev = p.Job.Dev then (if 0 ≤ y2.1 ∧ y2.1 < (p.Devices.length : Int) then (if p.Job.Table.Size = (rd p.Devices y2.1).Size then ((table_May.f k p.Job.Table).bind fun y3 => (chain_job.j0 p k (!y3))) else (chain_job.j0 p k true)) else none) else (chain_job.j0 p k true))) else none)) else (chain_job.j0 p k true))) (JobOk p) := by
    intro ni
    have jt : chain_job.j0 p k true = some false := by unfold chain_job.j0; rw [if_pos rfl]
    have bad : (∀ m, ¬ Begun p m) → ¬ JobOk p := fun a b => b.elim ni fun ⟨m, c⟩ => a m c
    by_cases a1 : IsDev p p.Job.Dev
    · obtain ⟨m, hm, e⟩ := a1
      have uniq : ∀ {m'}, Begun p m' → m' = m := fun b => dev_inj h b.lt hm (b.id.trans e.symm)
      rw [find_in hk h hm hp.jobDev.1 hp.jobDev.2 e]
      simp only [Option.bind_some, if_true]
      by_cases a2 : p.Job.At < 0
      · rw [if_pos a2, jt]
        exact ⟨fun g => absurd g (bad fun m' b => by have := b.at0; omega), fun _ => rfl⟩
      rw [if_neg a2, if_pos (by omega)]
      by_cases a3 : (rd p.Devices (m : Int)).Size ≤ p.Job.At
      · rw [if_pos a3, jt]
        exact ⟨fun g => absurd g (bad fun m' b => by have := uniq b; subst this; have := b.at1; omega), fun _ => rfl⟩
      rw [if_neg a3]
      by_cases a4 : p.Job.Table.Dev = p.Job.Dev
      · rw [if_pos a4, if_pos (by omega)]
        by_cases a5 : p.Job.Table.Size = (rd p.Devices (m : Int)).Size
        · rw [if_pos a5, T.May_eq (by omega) (by omega)]
          simp only [Option.bind_some]
          by_cases a6 : T.tabOk' p.Job.Table = true
          · rw [a6]
            unfold chain_job.j0
            rw [if_neg (by simp)]
            have q := loop_says (f := chain_job.l0 p k) (len := p.Job.Table.List_.length) (E := some true) (F := some false) (P := fun j => (rd p.Job.Table.List_ (j : Int)).From + (rd p.Job.Table.List_ (j : Int)).Len ≤ p.Job.At ∧ IsDev p (rd p.Job.Table.List_ (j : Int)).Dev) ?_ ?_ ?_ k 0 (by omega) (by omega)
            · have i1 : (∀ j : Nat, 0 ≤ j → j < p.Job.Table.List_.length → (rd p.Job.Table.List_ (j : Int)).From + (rd p.Job.Table.List_ (j : Int)).Len ≤ p.Job.At ∧ IsDev p (rd p.Job.Table.List_ (j : Int)).Dev) → ∀ x ∈ p.Job.Table.List_, x.From + x.Len ≤ p.Job.At ∧ IsDev p x.Dev := by
                intro a x hx
                obtain ⟨j, hj, ex⟩ := List.getElem_of_mem hx
                have := a j (by omega) hj
                rw [rd_nat hj, ex] at this
                exact this
              refine ⟨fun g => q.1 fun j _ hj => ?_, fun g => q.2 fun a => g (.inr ⟨m, hm, e, by omega, by omega, a4, a5, a6, i1 a⟩)⟩
              obtain ⟨m', b⟩ := g.resolve_left ni
              exact b.list _ (rd_mem hj)
            · intro n j hj ho
              have eo := job_ent a6 (rd_mem hj)
              have ts := tab_dev a6
              unfold T.EntOk at eo
              rw [chain_job.l0, if_pos (by omega), if_pos (by omega), w64_id (x := (rd p.Job.Table.List_ (j : Int)).From + (rd p.Job.Table.List_ (j : Int)).Len) (by omega) (by omega), if_neg (by omega), (device_says hk h (by omega) (by omega)).1 ho.2]
              unfold chain_job.j2
              simp only [Option.bind_some]
              rw [if_neg (by simp), w64_succ hj (by omega)]
            · intro n j hj ho
              have eo := job_ent a6 (rd_mem hj)
              have ts := tab_dev a6
              unfold T.EntOk at eo
              rw [chain_job.l0, if_pos (by omega), if_pos (by omega), w64_id (x := (rd p.Job.Table.List_ (j : Int)).From + (rd p.Job.Table.List_ (j : Int)).Len) (by omega) (by omega)]
              have jf : chain_job.j1 (j : Int) = some false := by
                unfold chain_job.j1
                rw [decide_eq_true (by omega : (0 : Int) ≤ (j : Int))]
                rfl
              by_cases b1 : p.Job.At < (rd p.Job.Table.List_ (j : Int)).From + (rd p.Job.Table.List_ (j : Int)).Len
              · rw [if_pos b1]
                unfold chain_job.j2
                rw [if_pos rfl, jf]
              · rw [if_neg b1, (device_says hk h (by omega) (by omega)).2 fun g => ho ⟨by omega, g⟩]
                unfold chain_job.j2
                simp only [Option.bind_some]
                rw [if_pos (by simp), jf]
            · intro n
              rw [chain_job.l0, if_neg (by omega)]
              rfl
          · rw [show T.tabOk' p.Job.Table = false by simpa using a6]
            rw [show (!false) = true from rfl, jt]
            exact ⟨fun g => absurd g (bad fun m' b => a6 b.tab), fun _ => rfl⟩
        · rw [if_neg a5, jt]
          exact ⟨fun g => absurd g (bad fun m' b => by have := uniq b; subst this; exact a5 b.size), fun _ => rfl⟩
      · rw [if_neg a4, jt]
        exact ⟨fun g => absurd g (bad fun m' b => a4 b.dev), fun _ => rfl⟩
    · obtain ⟨m, f⟩ := find_out hk h hp.jobDev.1 hp.jobDev.2 a1
      rw [f]
      simp only [Option.bind_some]
      rw [if_neg (by simp), jt]
      exact ⟨fun g => absurd g (bad fun m' b => a1 ⟨m', b.lt, b.id⟩), fun _ => rfl⟩
  by_cases a1 : p.Job.Dev = 0
  rw [if_pos a1]
  by_cases a2 : p.Job.At = 0
  rw [if_pos a2]
  by_cases a3 : p.Job.Table.Dev = 0
  rw [if_pos a3]
  by_cases a4 : p.Job.Table.Size = 0
  rw [if_pos a4]
  simp only [Option.bind_some]
  by_cases a5 : (p.Job.Table.List_.length : Int) = 0
  · rw [if_pos (by simpa using a5)]
    have : p.Job.Table.List_ = [] := List.eq_nil_of_length_eq_zero (by omega)
    exact ⟨fun _ => rfl, fun g => absurd (.inl ⟨a1, a2, by
      rw [show p.Job.Table = ⟨p.Job.Table.Dev, p.Job.Table.Size, p.Job.Table.List_⟩ from rfl, a3, a4, this]⟩) g⟩
  · rw [if_neg (by simpa using a5)]
    exact hno fun i => a5 (by rw [i.tab]; rfl)
  · rw [if_neg a4]
    simp only [Option.bind_some]
    rw [if_neg (by simp)]
    exact hno fun i => a4 (by rw [i.tab])
  · rw [if_neg a3]
    simp only [Option.bind_some]
    rw [if_neg (by simp)]
    exact hno fun i => a3 (by rw [i.tab])
  · rw [if_neg a2]
    simp only [Option.bind_some]
    rw [if_neg (by simp)]
    exact hno fun i => a2 i.at0
  · rw [if_neg a1]
    simp only [Option.bind_some]
    rw [if_neg (by simp)]
    exact hno fun i => a1 i.dev
theorem ref_job_says (hk : 1000 < k) (hp : PIn p) (h : DevsOk p.Devices) : Says (hermitageref9_job.f k p) (JobOk p) := by
  have hl := hp.job
  unfold hermitageref9_job.f
  by_cases z : p.Job.Dev = 0
  · rw [if_pos z]
    by_cases a2 : p.Job.At = 0
    · rw [if_pos a2, T.EqT_eq hp.job hk]
      simp only [Option.bind_some]
      refine Says.iff says_dec ⟨fun a => .inl ⟨z, a2, a⟩, fun a => ?_⟩
      rcases a with a | ⟨m, a⟩
      · exact a.tab
      · exact absurd a (not_begun h z)
    · rw [if_neg a2]
      refine ⟨fun a => ?_, fun _ => rfl⟩
      rcases a with a | ⟨m, a⟩
      · exact absurd a.at0 a2
      · exact absurd a (not_begun h z)
  rw [if_neg z]
  have bad : (∀ m, ¬ Begun p m) → ¬ JobOk p := fun a b => b.elim (fun i => z i.dev) fun ⟨m, c⟩ => a m c
  have jt : hermitageref9_job.j0 p k true = some false := by unfold hermitageref9_job.j0; rw [if_pos rfl]
  by_cases a1 : IsDev p p.Job.Dev
  · obtain ⟨m, hm, e⟩ := a1
    have uniq : ∀ {m'}, Begun p m' → m' = m := fun b => dev_inj h b.lt hm (b.id.trans e.symm)
    have ds := (dev_ok h hm).size
    rw [ref_At_in hk h hm e]
    simp only [Option.bind_some]
    rw [if_neg (by omega), if_pos (by omega), T.Num_eq, w64_id (x := (rd p.Devices (m : Int)).Size - 1) (by omega) (by omega)]
    simp only [Option.bind_some]
    by_cases a2 : 0 ≤ p.Job.At ∧ p.Job.At ≤ (rd p.Devices (m : Int)).Size - 1
    · rw [if_pos (decide_eq_true a2), T.refTable_eq (by omega) (by omega)]
      simp only [Option.bind_some]
      by_cases a6 : T.tabOk' p.Job.Table = true
      · rw [if_pos a6]
        by_cases a4 : p.Job.Table.Dev = p.Job.Dev
        · rw [if_pos a4, if_pos (by omega)]
          by_cases a5 : p.Job.Table.Size = (rd p.Devices (m : Int)).Size
          · rw [if_pos a5, T.End_eq hp.job a6]
            simp only [Option.bind_some]
            have te := fun x hx => T.tab_end (T.tabOk_iff.1 a6).2 x hx
            by_cases a7 : p.Job.At < T.endOf p.Job.Table.List_
            · rw [decide_eq_true a7, jt]
              refine ⟨fun g => absurd g (bad fun m' b => ?_), fun _ => rfl⟩
              rcases snoc_cases p.Job.Table.List_ with q | ⟨l, x, q⟩
              · rw [q] at a7
                have : p.Job.At < 0 := a7
                omega
              · have := (b.list x (by rw [q]; simp)).1
                rw [q, T.endOf_snoc] at a7
                omega
            · rw [decide_eq_false a7]
              unfold hermitageref9_job.j0
              rw [if_neg (by simp)]
              have q := loop_says (f := hermitageref9_job.l0 p k) (len := p.Job.Table.List_.length) (E := some true) (F := some false) (P := fun j => IsDev p (rd p.Job.Table.List_ (j : Int)).Dev) ?_ ?_ ?_ k 0 (by omega) (by omega)
              · refine ⟨fun g => q.1 fun j _ hj => ?_, fun g => q.2 fun a => g (.inr ⟨m, hm, e, by omega, by omega, a4, a5, a6, fun x hx => ?_⟩)⟩
                · obtain ⟨m', b⟩ := g.resolve_left fun i => z i.dev
                  exact (b.list _ (rd_mem hj)).2
                · obtain ⟨j, hj, ex⟩ := List.getElem_of_mem hx
                  have b := a j (by omega) hj
                  rw [rd_nat hj, ex] at b
                  exact ⟨by have := (te x hx).1; omega, b⟩
              · intro n j hj ⟨m', hm', e'⟩
                rw [hermitageref9_job.l0, if_pos (by omega), if_pos (by omega), ref_At_in hk h hm' e']
                simp only [Option.bind_some]
                rw [if_neg (by omega), w64_succ hj (by omega)]
              · intro n j hj ho
                rw [hermitageref9_job.l0, if_pos (by omega), if_pos (by omega), ref_At_out hk h ho]
                simp only [Option.bind_some]
                rw [if_pos (by omega)]
              · intro n
                rw [hermitageref9_job.l0, if_neg (by omega)]
          · rw [if_neg a5, jt]
            exact ⟨fun g => absurd g (bad fun m' b => by have := uniq b; subst this; exact a5 b.size), fun _ => rfl⟩
        · rw [if_neg a4, jt]
          exact ⟨fun g => absurd g (bad fun m' b => a4 b.dev), fun _ => rfl⟩
      · rw [if_neg a6, jt]
        exact ⟨fun g => absurd g (bad fun m' b => a6 b.tab), fun _ => rfl⟩
    · rw [if_neg (by simpa using a2), jt]
      exact ⟨fun g => absurd g (bad fun m' b => by have := uniq b; subst this; have := b.at0; have := b.at1; omega), fun _ => rfl⟩
  · rw [ref_At_out hk h a1]
    simp only [Option.bind_some]
    rw [if_pos (by omega), jt]
    exact ⟨fun g => absurd g (bad fun m' b => a1 ⟨m', b.lt, b.id⟩), fun _ => rfl⟩
end Go.Proofs.Ytnaajldlloglkaa.W
