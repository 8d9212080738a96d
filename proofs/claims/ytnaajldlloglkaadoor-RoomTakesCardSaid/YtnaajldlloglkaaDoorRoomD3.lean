/- Plain facts; lines of the claims before, printed by mkfacts.py. -/
import Derived.Test.YtnaajldlloglkaaDoorRoomT1
import Derived.Test.YtnaajldlloglkaaDoorRoomD2
import Derived.Test.YtnaajldlloglkaaDoorRoomE1
set_option linter.unusedVariables false
set_option linter.unusedSimpArgs false
namespace Go.Proofs.YtnaajldlloglkaaDoor.W
open Go.H
theorem ref_Device_says {d : Device} {k : Nat} (hf : d.Free.length ≤ 1000) (hg : d.Late.length ≤ 1000) (hk : 1000 < k) : Says (hermitageref7_Device.f k d) (DevOk d) := by
  unfold hermitageref7_Device.f
  rw [T.Between_eq, T.Between_eq, S.Segs_eq (by omega) (by omega), S.Segs_eq (by omega) (by omega)]
  simp only [Option.bind_some]
  by_cases a1 : 1 ≤ d.ID ∧ d.ID ≤ 40
  rw [if_pos (decide_eq_true a1)]
  by_cases a3 : 1 ≤ d.Size ∧ d.Size ≤ 64
  rw [if_pos (decide_eq_true a3)]
  by_cases a5 : S.ok d.Free = true
  rw [if_pos a5]
  by_cases a6 : S.ok d.Late = true
  rw [if_pos a6]
  have s1 := ok_short a5
  have s2 := ok_short a6
  rw [S.Ends_eq (by omega) a5, S.Ends_eq (by omega) a6]
  simp only [Option.bind_some]
  have e1 := S.ends_below (n := d.Size) a5 (by omega)
  have e2 := S.ends_below (n := d.Size) a6 (by omega)
  by_cases a7 : S.ends d.Free ≤ d.Size
  rw [if_pos a7]
  rw [decide_eq_true a7] at e1
  by_cases a8 : S.ends d.Late ≤ d.Size
  rw [if_pos a8]
  rw [decide_eq_true a8] at e2
  rw [S.Two_eq hk (by omega) (by omega) a5 a6]
  simp only [Option.bind_some]
  refine Says.iff says_bool ?_
  rw [beq_iff_eq]
  have pk : ∀ j, S.pick2 2 (S.mem d.Free j) (S.mem d.Late j) = (S.mem d.Free j && S.mem d.Late j) := fun j => by simp [S.pick2]
  simp only [pk]
  refine ⟨fun g => ⟨a1, a3, ⟨a5, e1.symm⟩, ⟨a6, e2.symm⟩, fun i hi => ?_⟩, fun g => ?_⟩
  · have gz : S.segsOf (fun j => S.mem d.Free j && S.mem d.Late j) = [] := List.eq_nil_of_length_eq_zero (by omega)
    rw [← S.mem_segsOf (b := fun j => S.mem d.Free j && S.mem d.Late j) hi, gz]
    rfl
  · rw [S.segsOf_congr (c := fun _ => false) g.dis, S.segsOf_none]; rfl
  · rw [if_neg a8]
    rw [decide_eq_false a8] at e2
    exact ⟨fun g => absurd g.late.2 (by rw [← e2]; simp), fun _ => rfl⟩
  · rw [if_neg a7]
    rw [decide_eq_false a7] at e1
    exact ⟨fun g => absurd g.free.2 (by rw [← e1]; simp), fun _ => rfl⟩
  · rw [if_neg a6]; exact ⟨fun g => absurd g.late.1 a6, fun _ => rfl⟩
  · rw [if_neg a5]; exact ⟨fun g => absurd g.free.1 a5, fun _ => rfl⟩
  · rw [if_neg (by simpa using a3)]; exact ⟨fun g => absurd g.size a3, fun _ => rfl⟩
  · rw [if_neg (by simpa using a1)]; exact ⟨fun g => absurd g.id a1, fun _ => rfl⟩
theorem ref_Devices_says {l : List Device} {k : Nat} (hk : 1000 < k) (hl : DevsIn l) : Says (hermitageref7_Devices.f k l) (DevsOk l) := by
  unfold hermitageref7_Devices.f
  by_cases c : 6 < (l.length : Int)
  · rw [if_pos c]; exact ⟨fun g => by have := g.1; omega, fun _ => rfl⟩
  rw [if_neg c]
  have := loop_says (f := hermitageref7_Devices.l0 l k) (len := l.length) (E := some true) (F := some false) (P := fun j => DevOk (rd l (j : Int)) ∧ (0 < j → (rd l ((j - 1 : Nat) : Int)).ID < (rd l (j : Int)).ID)) ?_ ?_ ?_ k 0 (by omega) (by omega)
  · refine ⟨fun g => this.1 fun j hj hl => g.2 j hj hl, fun g => this.2 fun a => g ⟨by omega, a⟩⟩
  · intro n i hi hp
    have hd := hl _ (rd_mem hi)
    rw [hermitageref7_Devices.l0]
    rw [if_pos (by omega), if_pos (by omega), (ref_Device_says hd.1 hd.2 hk).1 hp.1]
    simp only [Option.bind_some, if_true]
    rcases Nat.eq_zero_or_pos i with z | z
    · rw [if_neg (by omega)]
      unfold hermitageref7_Devices.j0
      rw [if_neg (by simp), w64_succ hi (by omega)]
    · rw [if_pos (by omega), w64_pred z (Nat.le_of_lt hi) (by omega), if_pos (by omega), if_pos (by omega)]
      unfold hermitageref7_Devices.j0
      have := hp.2 z
      rw [if_neg (by simp only [decide_eq_true_eq]; omega), w64_succ hi (by omega)]
  · intro n i hi hp
    have hd := hl _ (rd_mem hi)
    rw [hermitageref7_Devices.l0]
    rw [if_pos (by omega), if_pos (by omega)]
    by_cases d : DevOk (rd l (i : Int))
    · rw [(ref_Device_says hd.1 hd.2 hk).1 d]
      simp only [Option.bind_some, if_true]
      have hp2 : ¬ (0 < i → (rd l ((i - 1 : Nat) : Int)).ID < (rd l (i : Int)).ID) := fun g => hp ⟨d, g⟩
      have z : 0 < i := by
        rcases Nat.eq_zero_or_pos i with z | z
        · exact absurd (fun h => by omega) hp2
        · exact z
      have q : ¬ (rd l ((i - 1 : Nat) : Int)).ID < (rd l (i : Int)).ID := fun g => hp2 fun _ => g
      rw [if_pos (by omega), w64_pred z (Nat.le_of_lt hi) (by omega), if_pos (by omega), if_pos (by omega)]
      unfold hermitageref7_Devices.j0
      rw [if_pos (by simp only [decide_eq_true_eq]; omega)]
    · rw [(ref_Device_says hd.1 hd.2 hk).2 d]
      simp only [Option.bind_some]
      rw [if_neg (by simp)]
      unfold hermitageref7_Devices.j0
      rw [if_pos rfl]
  · intro n
    unfold hermitageref7_Devices.l0
    rw [if_neg (by omega)]
theorem ref_At_l0 {l : List Device} (hl : l.length ≤ 1000) {id : Int} : ∀ (n i : Nat), i ≤ l.length → l.length - i < n → (∀ m : Nat, m < i → (rd l (m : Int)).ID ≠ id) →
    (∃ m : Nat, m < l.length ∧ (rd l (m : Int)).ID = id ∧ hermitageref7_At.l0 l id n i = some (m : Int)) ∨ ((∀ m : Nat, m < l.length → (rd l (m : Int)).ID ≠ id) ∧ hermitageref7_At.l0 l id n i = some (-1))
  | 0, i, _, h, _ => by omega
  | n + 1, i, hi, hn, hm => by
    unfold hermitageref7_At.l0
    by_cases c : i < l.length
    · rw [if_pos (by omega), if_pos (by omega)]
      by_cases d : (rd l (i : Int)).ID = id
      · rw [if_pos d]; exact .inl ⟨i, c, d, rfl⟩
      · rw [if_neg d, w64_succ c (by omega)]
        refine ref_At_l0 hl n (i + 1) (by omega) (by omega) fun m h => ?_
        rcases Nat.lt_or_ge m i with z | z
        · exact hm m z
        · rw [show m = i by omega]; exact d
    · rw [if_neg (by omega)]
      exact .inr ⟨fun m h => hm m (by omega), rfl⟩
theorem ref_At_spot {l : List Device} {k : Nat} (hk : 1000 < k) (hl : l.length ≤ 1000) (id : Int) : 
    (∃ m : Nat, m < l.length ∧ (rd l (m : Int)).ID = id ∧ hermitageref7_At.f k l id = some (m : Int)) ∨ ((∀ m : Nat, m < l.length → (rd l (m : Int)).ID ≠ id) ∧ hermitageref7_At.f k l id = some (-1)) :=
  ref_At_l0 hl k 0 (by omega) (by omega) fun m h => by omega
def busy (d : Device) (i : Nat) : Bool := decide ((i : Int) < d.Size) && !(S.mem d.Free i || S.mem d.Late i)
def usedN (d : Device) : Nat := (S.secFrom 0 (busy d)).length
theorem usedN_le (d : Device) : usedN d ≤ 64 := S.secFrom_len _ _
theorem Busy_set {k : Nat} {d : Device} (hk : 1000 < k) (h : DevOk d) : ∃ x, room_Busy.f k d = some x ∧ S.IsSet x (busy d) := by
  have s1 := ok_short h.free.1
  have s2 := ok_short h.late.1
  obtain ⟨t, et, ht⟩ := S.To_set (n := d.Size) (by have := h.size; omega) h.size.2
  obtain ⟨x, ex, hx⟩ := S.Make_set (k := k) (l := d.Free) (by omega) (by omega) h.free.1
  obtain ⟨y, ey, hy⟩ := S.Make_set (k := k) (l := d.Late) (by omega) (by omega) h.late.1
  unfold room_Busy.f
  rw [et, ex, ey]
  exact ⟨_, rfl, ht.andn (hx.or hy)⟩
theorem Used_eq {k : Nat} {d : Device} (hk : 1000 < k) (h : DevOk d) : hermitageref7_Used.f k d = some (usedN d : Int) := by
  have s1 := ok_short h.free.1
  have s2 := ok_short h.late.1
  unfold hermitageref7_Used.f
  rw [S.refCount_eq hk (by omega) h.free.1, S.refCount_eq hk (by omega) h.late.1]
  simp only [Option.bind_some]
  have hz := h.size
  have c0 : ((S.secFrom 0 fun i => decide ((i : Int) < d.Size)).length : Int) = d.Size := by
    have := S.sec_below ⟨d.Size.toNat, by omega⟩
    simp only at this
    rw [Int.toNat_of_nonneg (by omega)] at this
    omega
  have q1 := S.sec_split (b := fun i => decide ((i : Int) < d.Size)) (c := S.mem d.Free) 0
  have e1 : S.secFrom 0 (fun i => decide ((i : Int) < d.Size) && S.mem d.Free i) = S.secFrom 0 (S.mem d.Free) := S.secFrom_congr 64 0 rfl fun j _ hj => by
    cases m : S.mem d.Free j
    · simp
    · simp [S.below_iff.1 h.free.2 j hj m]
  have q2 := S.sec_split (b := fun i => decide ((i : Int) < d.Size) && !S.mem d.Free i) (c := S.mem d.Late) 0
  have e2 : S.secFrom 0 (fun i => decide ((i : Int) < d.Size) && !S.mem d.Free i && S.mem d.Late i) = S.secFrom 0 (S.mem d.Late) := S.secFrom_congr 64 0 rfl fun j _ hj => by
    cases m : S.mem d.Late j
    · simp
    · have := h.dis j hj
      rw [m, Bool.and_true] at this
      simp [S.below_iff.1 h.late.2 j hj m, this]
  have e3 : S.secFrom 0 (fun i => decide ((i : Int) < d.Size) && !S.mem d.Free i && !S.mem d.Late i) = S.secFrom 0 (busy d) := S.secFrom_congr 64 0 rfl fun j _ hj => by
    unfold busy
    cases S.mem d.Free j <;> cases S.mem d.Late j <;> simp
  rw [e1] at q1
  rw [e2, e3] at q2
  have l1 := S.secFrom_len (S.mem d.Free) 0
  have l2 := S.secFrom_len (S.mem d.Late) 0
  have l3 : usedN d = (S.secFrom 0 (busy d)).length := rfl
  rw [w64_id (x := d.Size - _) (by omega) (by omega), w64_id (by omega) (by omega)]
  congr 1
  omega
/-- The sum over the first ones that are asked. -/
theorem CopyD_eq {k : Nat} {d : Device} (hk : 1000 < k) (h : d.Free.length ≤ 1000 ∧ d.Late.length ≤ 1000) : hermitageref0_CopyDevice.f k d = some d := by
  unfold hermitageref0_CopyDevice.f hermitageref0_CopySegs.f
  have a := S.Copy_l0 (l := d.Free) (by omega) k 0 (by omega) (by omega) (by omega)
  have b := S.Copy_l0 (l := d.Late) (by omega) k 0 (by omega) (by omega) (by omega)
  have a : hermitageref0_CopySegs.l0 d.Free k [] 0 = some d.Free := a
  have b : hermitageref0_CopySegs.l0 d.Late k [] 0 = some d.Late := b
  rw [a, b]
  rfl
theorem CopyDs_l0 {k : Nat} {l : List Device} (hk : 1000 < k) (hl : l.length ≤ 1000) (h : DevsIn l) : ∀ (n i : Nat), i ≤ l.length → l.length - i < n → hermitageref0_CopyDevices.l0 l k n (l.take i) i = some l
  | 0, i, _, h => by omega
  | n + 1, i, hi, hn => by
    rw [hermitageref0_CopyDevices.l0]
    by_cases c : i < l.length
    · rw [if_pos (by omega), if_pos (by omega), CopyD_eq hk (h _ (rd_mem c))]
      simp only [Option.bind_some]
      rw [if_pos (by rw [List.length_take]; omega), w64_succ c (by omega), rd_nat c, ← List.take_succ_eq_append_getElem c]
      exact CopyDs_l0 hk hl h n (i + 1) (by omega) (by omega)
    · rw [if_neg (by omega), List.take_of_length_le (by omega)]
end Go.Proofs.YtnaajldlloglkaaDoor.W
