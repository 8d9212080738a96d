/- Plain facts: weights, copies, and what is the same. -/
import Derived.Test.YtnaajldlloglkaaForeG1
set_option linter.unusedVariables false
set_option linter.unusedSimpArgs false
namespace Go.Proofs.Ytnaajldlloglkaa.W
open Go.H
theorem weigh {R α : Type} [Inhabited α] {l : List α} {g : α → Nat} {f : Nat → Int → Int → Option R} {out : Int → Option R}
    (h1 : ∀ n (t i : Nat), i < l.length → t < 1048576 → f (n + 1) (t : Int) (i : Int) = f n ((t + g (rd l (i : Int)) : Nat) : Int) ((i + 1 : Nat) : Int))
    (h2 : ∀ n (t i : Nat), i < l.length → ¬ t < 1048576 → f (n + 1) (t : Int) (i : Int) = out t)
    (h3 : ∀ n (t i : Nat), ¬ i < l.length → f (n + 1) (t : Int) (i : Int) = out t)
    (hg : ∀ x ∈ l, g x < 4503599627370496) {Bd : Nat} (hB : 4503599628419072 ≤ Bd) : ∀ (n i t : Nat), i ≤ l.length → l.length - i < n → t < Bd → (∀ x ∈ l.take i, g x ≤ t) →
    ∃ t' : Nat, f n (t : Int) (i : Int) = out t' ∧ t ≤ t' ∧ t' < Bd ∧ (t' < 1048576 → ∀ x ∈ l, g x ≤ t')
  | 0, i, t, _, h, _, _ => by omega
  | n + 1, i, t, hi, hn, ht, hx => by
    by_cases c : i < l.length
    · by_cases d : t < 1048576
      · rw [h1 n t i c d]
        have w := hg _ (rd_mem c)
        obtain ⟨t', e, a, b, q⟩ := weigh h1 h2 h3 hg hB n (i + 1) (t + g (rd l (i : Int))) (by omega) (by omega) (by omega) fun x hm => by
          rw [List.take_succ_eq_append_getElem c] at hm
          rcases List.mem_append.1 hm with hm | hm
          · have := hx x hm; omega
          · rw [List.mem_singleton] at hm
            rw [rd_nat c, hm]; omega
        exact ⟨t', e, by omega, b, q⟩
      · rw [h2 n t i c d]
        exact ⟨t, rfl, Nat.le_refl _, ht, fun z => absurd z d⟩
    · rw [h3 n t i c]
      refine ⟨t, rfl, Nat.le_refl _, ht, fun _ x hm => hx x ?_⟩
      rw [List.take_of_length_le (by omega)]; exact hm
structure Sized (p : hermitagelaw10Script) : Prop where
  D : p.P.Devices.length < 1125899906842624
  Dl : ∀ d ∈ p.P.Devices, d.Free.length < 1125899906842624 ∧ d.Late.length < 1125899906842624
  T : p.P.Tables.length < 1125899906842624
  Tl : ∀ t ∈ p.P.Tables, t.List_.length < 1125899906842624
  J : p.P.Job.Table.List_.length < 1125899906842624
  jobDev : -9223372036854775808 ≤ p.P.Job.Dev ∧ p.P.Job.Dev < 9223372036854775808
  A : p.A.length < 1125899906842624
  Al : ∀ a ∈ p.A, a.Q.length < 1125899906842624 ∧ -9223372036854775808 ≤ a.N ∧ a.N < 9223372036854775808
theorem DevicesWeight_eq {l : List Device} {k : Nat} (h1 : l.length < 1125899906842624) (h2 : ∀ d ∈ l, d.Free.length < 1125899906842624 ∧ d.Late.length < 1125899906842624) (hk : l.length < k) :
    ∃ t : Nat, hermitagelaw0_DevicesWeight.f k l = some (t : Int) ∧ t < 9007199254740992 ∧ (t < 1048576 → l.length ≤ t ∧ ∀ d ∈ l, d.Free.length ≤ t ∧ d.Late.length ≤ t) := by
  have q := weigh (l := l) (g := fun d => d.Free.length + d.Late.length) (f := hermitagelaw0_DevicesWeight.l0 l) (out := fun t => some t) ?_ ?_ ?_ (fun d hd => by have := h2 d hd; omega) (Bd := 9007199254740992) (by omega) k 0 l.length (by omega) (by omega) (by omega) (fun x hx => by simp at hx)
  · obtain ⟨t', e, a, b, q⟩ := q
    exact ⟨t', e, b, fun z => ⟨a, fun d hd => by have := q z d hd; omega⟩⟩
  · intro n t i c d
    have w := h2 _ (rd_mem c)
    rw [hermitagelaw0_DevicesWeight.l0, if_pos (by omega), decide_eq_true (by omega)]
    unfold hermitagelaw0_DevicesWeight.j0
    rw [if_pos rfl, if_pos (by omega), if_pos (by omega), w64_succ c (by omega), w64_id (x := (t : Int) + ((rd l (i : Int)).Free.length : Int)) (by omega) (by omega), w64_id (by omega) (by omega), show (t : Int) + ((rd l (i : Int)).Free.length : Int) + ((rd l (i : Int)).Late.length : Int) = ((t + ((rd l (i : Int)).Free.length + (rd l (i : Int)).Late.length) : Nat) : Int) by omega]
  · intro n t i c d
    rw [hermitagelaw0_DevicesWeight.l0, if_pos (by omega), decide_eq_false (by omega)]
    unfold hermitagelaw0_DevicesWeight.j0
    rw [if_neg (by simp)]
  · intro n t i c
    rw [hermitagelaw0_DevicesWeight.l0, if_neg (by omega)]
    unfold hermitagelaw0_DevicesWeight.j0
    rw [if_neg (by simp)]
theorem PoolWeight_eq {p : hermitagelaw10Script} {k : Nat} (hs : Sized p) (hd : p.P.Devices.length < k) (ht : p.P.Tables.length < k) :
    ∃ t : Nat, hermitagelaw0_PoolWeight.f k p.P = some (t : Int) ∧ t < 18014398509481984 ∧ (t < 1048576 → (p.P.Devices.length ≤ t ∧ ∀ d ∈ p.P.Devices, d.Free.length ≤ t ∧ d.Late.length ≤ t) ∧ p.P.Tables.length ≤ t ∧ p.P.Job.Table.List_.length ≤ t ∧ ∀ x ∈ p.P.Tables, x.List_.length ≤ t) := by
  obtain ⟨u, eu, bu, qu⟩ := DevicesWeight_eq hs.D hs.Dl hd
  have h1 := hs.T
  have h2 := hs.J
  unfold hermitagelaw0_PoolWeight.f
  rw [eu]
  simp only [Option.bind_some]
  rw [w64_id (x := (u : Int) + (p.P.Tables.length : Int)) (by omega) (by omega), w64_id (by omega) (by omega), show (u : Int) + (p.P.Tables.length : Int) + (p.P.Job.Table.List_.length : Int) = ((u + p.P.Tables.length + p.P.Job.Table.List_.length : Nat) : Int) by omega]
  by_cases big : u < 1048576
  · have q := weigh (l := p.P.Tables) (g := fun x => x.List_.length) (f := hermitagelaw0_PoolWeight.l0 p.P) (out := fun t => some t) ?_ ?_ ?_ (fun d hd => by have := hs.Tl d hd; omega) (Bd := 18014398509481984) (by omega) k 0 (u + p.P.Tables.length + p.P.Job.Table.List_.length) (by omega) (by omega) (by omega) (fun x hx => by simp at hx)
    · obtain ⟨t', e, a, b, q⟩ := q
      refine ⟨t', e, b, fun z => ⟨⟨by have := (qu big).1; omega, fun d hd => by have := (qu big).2 d hd; omega⟩, by omega, by omega, q z⟩⟩
    · intro n t i c d
      have w := hs.Tl _ (rd_mem c)
      rw [hermitagelaw0_PoolWeight.l0, if_pos (by omega), decide_eq_true (by omega)]
      unfold hermitagelaw0_PoolWeight.j0
      rw [if_pos rfl, if_pos (by omega), w64_succ c (by omega), w64_id (by omega) (by omega), show (t : Int) + ((rd p.P.Tables (i : Int)).List_.length : Int) = ((t + (rd p.P.Tables (i : Int)).List_.length : Nat) : Int) by omega]
    · intro n t i c d
      rw [hermitagelaw0_PoolWeight.l0, if_pos (by omega), decide_eq_false (by omega)]
      unfold hermitagelaw0_PoolWeight.j0
      rw [if_neg (by simp)]
    · intro n t i c
      rw [hermitagelaw0_PoolWeight.l0, if_neg (by omega)]
      unfold hermitagelaw0_PoolWeight.j0
      rw [if_neg (by simp)]
  · match k with
    | 0 => omega
    | k + 1 =>
      refine ⟨u + p.P.Tables.length + p.P.Job.Table.List_.length, ?_, by omega, fun z => by omega⟩
      rw [hermitagelaw0_PoolWeight.l0, decide_eq_false (by omega)]
      unfold hermitagelaw0_PoolWeight.j0
      by_cases c : (0 : Int) < (p.P.Tables.length : Int)
      · rw [if_pos c, if_neg (by simp)]
      · rw [if_neg c, if_neg (by simp)]
structure Light (p : hermitagelaw10Script) : Prop where
  D : p.P.Devices.length ≤ 1000
  T : p.P.Tables.length ≤ 1000
  inn : PIn p.P
theorem Heavy_eq {p : hermitagelaw10Script} {k : Nat} (hs : Sized p) (hd : p.P.Devices.length < k) (ht : p.P.Tables.length < k) (ha : p.A.length < k) :
    ∃ h, hermitagelaw10_Heavy.f k p = some h ∧ (h = false → Light p) := by
  obtain ⟨u, eu, bu, qu⟩ := PoolWeight_eq hs hd ht
  have h1 := hs.A
  unfold hermitagelaw10_Heavy.f
  rw [eu]
  simp only [Option.bind_some]
  rw [w64_id (by omega) (by omega), show (u : Int) + (p.A.length : Int) = ((u + p.A.length : Nat) : Int) by omega]
  by_cases big : u < 1048576
  · have q := weigh (l := p.A) (g := fun x => x.Q.length) (f := hermitagelaw10_Heavy.l0 p) (out := fun t => some (decide (1000 < t))) ?_ ?_ ?_ (fun d hd => by have := (hs.Al d hd).1; omega) (Bd := 36028797018963968) (by omega) k 0 (u + p.A.length) (by omega) (by omega) (by omega) (fun x hx => by simp at hx)
    · obtain ⟨t', e, a, b, q⟩ := q
      refine ⟨_, e, fun z => ?_⟩
      have z := of_decide_eq_false z
      obtain ⟨⟨g1, g2⟩, g3, g4, g5⟩ := qu big
      exact ⟨by omega, by omega, ⟨fun d hd => by have := g2 d hd; omega, by omega, by omega, fun x hx => by have := g5 x hx; omega, by omega, hs.jobDev⟩⟩
    · intro n t i c d
      have w := (hs.Al _ (rd_mem c)).1
      rw [hermitagelaw10_Heavy.l0, if_pos (by omega), decide_eq_true (by omega)]
      unfold hermitagelaw10_Heavy.j0
      rw [if_pos rfl, if_pos (by omega), w64_succ c (by omega), w64_id (by omega) (by omega), show (t : Int) + ((rd p.A (i : Int)).Q.length : Int) = ((t + (rd p.A (i : Int)).Q.length : Nat) : Int) by omega]
    · intro n t i c d
      rw [hermitagelaw10_Heavy.l0, if_pos (by omega), decide_eq_false (by omega)]
      unfold hermitagelaw10_Heavy.j0
      rw [if_neg (by simp)]
    · intro n t i c
      rw [hermitagelaw10_Heavy.l0, if_neg (by omega)]
      unfold hermitagelaw10_Heavy.j0
      rw [if_neg (by simp)]
  · match k with
    | 0 => omega
    | k + 1 =>
      refine ⟨decide ((1000 : Int) < ((u + p.A.length : Nat) : Int)), ?_, fun z => by have := of_decide_eq_false z; omega⟩
      rw [hermitagelaw10_Heavy.l0, decide_eq_false (by omega)]
      unfold hermitagelaw10_Heavy.j0
      by_cases c : (0 : Int) < (p.A.length : Int)
      · rw [if_pos c, if_neg (by simp)]
      · rw [if_neg c, if_neg (by simp)]
variable {p : Pool} {k : Nat}
theorem CopyD_eq {d : Device} (hk : 1000 < k) (h : d.Free.length ≤ 1000 ∧ d.Late.length ≤ 1000) : hermitageref0_CopyDevice.f k d = some d := by
  unfold hermitageref0_CopyDevice.f hermitageref0_CopySegs.f
  have a := S.Copy_l0 (l := d.Free) (by omega) k 0 (by omega) (by omega) (by omega)
  have b := S.Copy_l0 (l := d.Late) (by omega) k 0 (by omega) (by omega) (by omega)
  have a : hermitageref0_CopySegs.l0 d.Free k [] 0 = some d.Free := a
  have b : hermitageref0_CopySegs.l0 d.Late k [] 0 = some d.Late := b
  rw [a, b]
  rfl
theorem CopyDs_l0 {l : List Device} (hk : 1000 < k) (hl : l.length ≤ 1000) (h : DevsIn l) : ∀ (n i : Nat), i ≤ l.length → l.length - i < n → hermitageref0_CopyDevices.l0 l k n (l.take i) i = some l
  | 0, i, _, h => by omega
  | n + 1, i, hi, hn => by
    rw [hermitageref0_CopyDevices.l0]
    by_cases c : i < l.length
    · rw [if_pos (by omega), if_pos (by omega), CopyD_eq hk (h _ (rd_mem c))]
      simp only [Option.bind_some]
      rw [if_pos (by rw [List.length_take]; omega), w64_succ c (by omega), rd_nat c, ← List.take_succ_eq_append_getElem c]
      exact CopyDs_l0 hk hl h n (i + 1) (by omega) (by omega)
    · rw [if_neg (by omega), List.take_of_length_le (by omega)]
theorem CopyTs_l0 {l : List Table} (hk : 1000 < k) (hl : l.length ≤ 1000) (h : ∀ t ∈ l, t.List_.length ≤ 1000) : ∀ (n i : Nat), i ≤ l.length → l.length - i < n → hermitageref0_CopyTables.l0 l k n (l.take i) i = some l
  | 0, i, _, h => by omega
  | n + 1, i, hi, hn => by
    rw [hermitageref0_CopyTables.l0]
    by_cases c : i < l.length
    · rw [if_pos (by omega), if_pos (by omega), T.CopyT_eq (h _ (rd_mem c)) hk]
      simp only [Option.bind_some]
      rw [if_pos (by rw [List.length_take]; omega), w64_succ c (by omega), rd_nat c, ← List.take_succ_eq_append_getElem c]
      exact CopyTs_l0 hk hl h n (i + 1) (by omega) (by omega)
    · rw [if_neg (by omega), List.take_of_length_le (by omega)]
theorem CopyPool_eq (hk : 1000 < k) (hp : PIn p) : hermitageref0_CopyPool.f k p = some p := by
  unfold hermitageref0_CopyPool.f hermitageref0_CopyDevices.f hermitageref0_CopyTables.f
  have hd := hp.devs_len
  have ht := hp.tabs_len
  have a : hermitageref0_CopyDevices.l0 p.Devices k k [] 0 = some p.Devices := CopyDs_l0 hk hd hp.devs k 0 (by omega) (by omega)
  have b : hermitageref0_CopyTables.l0 p.Tables k k [] 0 = some p.Tables := CopyTs_l0 hk ht hp.tabs k 0 (by omega) (by omega)
  rw [a, b, T.CopyT_eq hp.job hk]
  rfl
theorem EqD_self {d : Device} (hk : 1000 < k) (h : d.Free.length ≤ 1000 ∧ d.Late.length ≤ 1000) : hermitageref0_EqDevice.f k d d = some true := by
  unfold hermitageref0_EqDevice.f
  rw [if_pos rfl, if_pos rfl, S.EqSegs_eq (by omega) (by omega), S.EqSegs_eq (by omega) (by omega)]
  simp
theorem EqDs_self {l : List Device} (hk : 1000 < k) (hl : l.length ≤ 1000) (h : DevsIn l) : hermitageref0_EqDevices.f k l l = some true := by
  unfold hermitageref0_EqDevices.f
  rw [if_pos rfl]
  refine (loop_says (f := hermitageref0_EqDevices.l0 l l k) (len := l.length) (E := some true) (F := some true) (P := fun _ => True) ?_ ?_ ?_ k 0 (by omega) (by omega)).1 fun _ _ _ => trivial
  · intro n i c _
    rw [hermitageref0_EqDevices.l0, if_pos (by omega), if_pos (by omega), if_pos (by omega), EqD_self hk (h _ (rd_mem c))]
    simp only [Option.bind_some, if_true]
    rw [w64_succ c (by omega)]
  · intro n i c a
    exact absurd trivial a
  · intro n
    rw [hermitageref0_EqDevices.l0, if_neg (by omega)]
theorem EqTs_self {l : List Table} (hk : 1000 < k) (hl : l.length ≤ 1000) (h : ∀ t ∈ l, t.List_.length ≤ 1000) : hermitageref0_EqTables.f k l l = some true := by
  unfold hermitageref0_EqTables.f
  rw [if_pos rfl]
  refine (loop_says (f := hermitageref0_EqTables.l0 l l k) (len := l.length) (E := some true) (F := some true) (P := fun _ => True) ?_ ?_ ?_ k 0 (by omega) (by omega)).1 fun _ _ _ => trivial
  · intro n i c _
    rw [hermitageref0_EqTables.l0, if_pos (by omega), if_pos (by omega), if_pos (by omega), T.EqT_eq (h _ (rd_mem c)) hk]
    simp only [Option.bind_some, decide_true, if_true]
    rw [w64_succ c (by omega)]
  · intro n i c a
    exact absurd trivial a
  · intro n
    rw [hermitageref0_EqTables.l0, if_neg (by omega)]
theorem EqPool_self (hk : 1000 < k) (hp : PIn p) : hermitageref0_EqPool.f k p p = some true := by
  unfold hermitageref0_EqPool.f
  rw [EqDs_self hk hp.devs_len hp.devs, EqTs_self hk hp.tabs_len hp.tabs, T.EqT_eq hp.job hk]
  simp
end Go.Proofs.Ytnaajldlloglkaa.W
