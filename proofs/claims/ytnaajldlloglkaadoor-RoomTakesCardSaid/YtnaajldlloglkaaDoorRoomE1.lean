/- Plain facts: devices told by their sets; own memory; all that is late made free. -/
import Derived.Test.YtnaajldlloglkaaDoorRoomD1
set_option linter.unusedVariables false
set_option linter.unusedSimpArgs false
namespace Go.Proofs.YtnaajldlloglkaaDoor.W
open Go.H
/-- Devices with other sets that are free, and late. -/
structure Sets (P : List Device) (F L : Nat → Nat → Bool) (x : List Device) : Prop where
  len : x.length = P.length
  at_ : ∀ j : Nat, j < P.length → rd x (j : Int) = ⟨(rd P (j : Int)).ID, (rd P (j : Int)).Size, S.segsOf (F j), S.segsOf (L j)⟩
/-- Sets that may be. -/
structure SetsOk (P : List Device) (F L : Nat → Nat → Bool) : Prop where
  free : ∀ j i : Nat, j < P.length → i < 64 → F j i = true → (i : Int) < (rd P (j : Int)).Size
  late : ∀ j i : Nat, j < P.length → i < 64 → L j i = true → (i : Int) < (rd P (j : Int)).Size
  dis : ∀ j i : Nat, j < P.length → i < 64 → (F j i && L j i) = false
theorem below_segsOf {b : Nat → Bool} {n : Int} (h : ∀ i, i < 64 → b i = true → (i : Int) < n) : S.below (S.segsOf b) n = true :=
  S.below_iff.2 fun i hi hm => h i hi (by rwa [S.mem_segsOf hi] at hm)
theorem Sets.ok {P x : List Device} {F L : Nat → Nat → Bool} (hP : DevsOk P) (s : Sets P F L x) (o : SetsOk P F L) : DevsOk x := by
  refine ⟨by rw [s.len]; exact hP.1, fun j _ hj => ?_⟩
  rw [s.len] at hj
  have p := hP.2 j (by omega) hj
  rw [s.at_ j hj]
  refine ⟨⟨p.1.id, p.1.size, ⟨S.segsOf_ok _, below_segsOf (o.free j · hj)⟩, ⟨S.segsOf_ok _, below_segsOf (o.late j · hj)⟩, fun i hi => ?_⟩, fun z => ?_⟩
  · rw [S.mem_segsOf hi, S.mem_segsOf hi]; exact o.dis j i hj hi
  · rw [s.at_ (j - 1) (by omega)]; exact p.2 z
theorem rd_ext {α : Type} [Inhabited α] {x y : List α} (h : x.length = y.length) (e : ∀ j : Nat, j < x.length → rd x (j : Int) = rd y (j : Int)) : x = y := by
  refine List.ext_getElem h fun j h1 h2 => ?_
  have := e j h1
  rwa [rd_nat h1, rd_nat h2] at this
theorem Sets.ext {P x y : List Device} {F L G M : Nat → Nat → Bool} (s : Sets P F L x) (t : Sets P G M y) (h : ∀ j i : Nat, j < P.length → i < 64 → F j i = G j i ∧ L j i = M j i) : x = y := by
  refine rd_ext (s.len.trans t.len.symm) fun j hj => ?_
  rw [s.len] at hj
  rw [s.at_ j hj, t.at_ j hj, S.segsOf_congr fun i hi => (h j i hj hi).1, S.segsOf_congr fun i hi => (h j i hj hi).2]
theorem rd_setD {l : List Device} {i s : Nat} {v : Device} (hi : i < l.length) (hs : s < l.length) : rd (l.set i v) (s : Int) = if s = i then v else rd l (s : Int) := by
  rw [rd_nat (by rw [List.length_set]; exact hs), rd_nat hs, List.getElem_set]
  by_cases c : i = s
  · rw [if_pos c, if_pos c.symm]
  · rw [if_neg c, if_neg fun e => c e.symm]
/-- A device's sets turned. -/
theorem Sets.set {P x : List Device} {F L : Nat → Nat → Bool} (s : Sets P F L x) {m : Nat} (hm : m < P.length) {b c : Nat → Bool} : Sets P (fun j => if j = m then b else F j) (fun j => if j = m then c else L j) (x.set m ⟨(rd P (m : Int)).ID, (rd P (m : Int)).Size, S.segsOf b, S.segsOf c⟩) := by
  refine ⟨by rw [List.length_set]; exact s.len, fun j hj => ?_⟩
  have h1 := s.len
  rw [rd_setD (by omega) (by omega)]
  by_cases d : j = m
  · simp only [if_pos d]; rw [d]
  · simp only [if_neg d]; exact s.at_ j hj
theorem DevsOk.sets {P : List Device} (h : DevsOk P) : Sets P (fun j => S.mem (rd P (j : Int)).Free) (fun j => S.mem (rd P (j : Int)).Late) P := by
  refine ⟨rfl, fun j hj => ?_⟩
  have p := (h.2 j (by omega) hj).1
  rw [S.segsOf_mem p.free.1, S.segsOf_mem p.late.1]
theorem DevsOk.setsOk {P : List Device} (h : DevsOk P) : SetsOk P (fun j => S.mem (rd P (j : Int)).Free) (fun j => S.mem (rd P (j : Int)).Late) :=
  ⟨fun j i hj hi m => S.below_iff.1 (h.2 j (by omega) hj).1.free.2 i hi m, fun j i hj hi m => S.below_iff.1 (h.2 j (by omega) hj).1.late.2 i hi m, fun j i hj hi => (h.2 j (by omega) hj).1.dis i hi⟩
theorem dev_short {P : List Device} (h : DevsOk P) {j : Nat} (hj : j < P.length) : (rd P (j : Int)).Free.length ≤ 33 ∧ (rd P (j : Int)).Late.length ≤ 33 :=
  ⟨ok_short (h.2 j (by omega) hj).1.free.1, ok_short (h.2 j (by omega) hj).1.late.1⟩
theorem devs_in {P : List Device} (h : DevsOk P) : DevsIn P := fun d hd => by
  obtain ⟨j, hj, e⟩ := List.getElem_of_mem hd
  have := dev_short h hj
  rw [rd_nat hj, e] at this
  omega
theorem Clone_eq {l : List Seg} (h : l.length ≤ 1000) : slices_Clone_Seg.f l = some l := by
  unfold slices_Clone_Seg.f
  rw [if_pos (by simp; omega), List.nil_append]
theorem Own_l0 {P : List Device} (h : DevsOk P) : ∀ (n i : Nat), i ≤ P.length → P.length - i < n → room_Own.l0 P n P i = some P
  | 0, i, _, hn => by omega
  | n + 1, i, hi, hn => by
    have hl := h.1
    rw [room_Own.l0]
    by_cases c : i < P.length
    · have sh := dev_short h c
      have e1 : ∀ d : Device, (⟨d.ID, d.Size, d.Free, d.Late⟩ : Device) = d := fun d => rfl
      have e2 : P.set i (rd P (i : Int)) = P := by rw [rd_nat c]; exact List.set_getElem_self c
      rw [if_pos (by omega), if_pos (by omega), if_pos (by omega), Clone_eq (by omega), Clone_eq (by omega)]
      simp only [Option.bind_some, Int.toNat_natCast, e1, e2]
      rw [if_pos (by omega), if_pos (by omega), w64_succ c (by omega)]
      exact Own_l0 h n (i + 1) (by omega) (by omega)
    · rw [if_neg (by omega)]
theorem Own_eq {P : List Device} {k : Nat} (hk : 1000 < k) (h : DevsOk P) : room_Own.f k P = some P := by
  have hl := h.1
  unfold room_Own.f slices_Clone_Device.f
  rw [if_pos (by simp; omega), List.nil_append]
  exact Own_l0 h k 0 (by omega) (by omega)
theorem Make_segs {b : Nat → Bool} {k : Nat} (hk : 1000 < k) : ∃ x, seg_Make.f k (S.segsOf b) = some x ∧ S.IsSet x b := by
  have := S.segsOf_len b
  obtain ⟨x, e, hx⟩ := S.Make_set (k := k) (by omega) (by omega) (S.segsOf_ok b)
  exact ⟨x, e, hx.congr fun i hi => S.mem_segsOf hi⟩
/-- What is late is free. -/
theorem Settle_l0 {P : List Device} {k : Nat} {F L : Nat → Nat → Bool} (hk : 1000 < k) (hP : DevsOk P) {y : List Device} (hy : y.length = P.length) : ∀ (n i : Nat) (x : List Device), i ≤ P.length → P.length - i < n → Sets P (fun j => if j < i then fun s => F j s || L j s else F j) (fun j => if j < i then fun _ => false else L j) x →
    ∃ x', Sets P (fun j s => F j s || L j s) (fun _ _ => false) x' ∧ room_Commit.l0 k y n x i = some (x', 0)
  | 0, i, x, _, hn, _ => by omega
  | n + 1, i, x, hi, hn, s => by
    have hl := hP.1
    have hx := s.len
    rw [room_Commit.l0]
    by_cases c : i < P.length
    · have ri := s.at_ i c
      simp only [Nat.lt_irrefl, if_false] at ri
      obtain ⟨u, eu, hu⟩ := Make_segs (b := F i) hk
      obtain ⟨v, ev, hv⟩ := Make_segs (b := L i) hk
      rw [if_pos (by omega), if_pos (by omega), ri]
      simp only
      rw [eu, ev]
      simp only [Option.bind_some]
      rw [S.Set_Segs_eq (hu.or hv) (by omega)]
      simp only [Option.bind_some, Int.toNat_natCast]
      rw [if_pos (by omega), if_pos (by rw [List.length_set]; omega), w64_succ c (by omega)]
      have r2 : rd (x.set i (⟨(rd P (i : Int)).ID, (rd P (i : Int)).Size, S.segsOf (fun s => F i s || L i s), S.segsOf (L i)⟩ : Device)) (i : Int) = ⟨(rd P (i : Int)).ID, (rd P (i : Int)).Size, S.segsOf (fun s => F i s || L i s), S.segsOf (L i)⟩ := by
        rw [rd_setD (by omega) (by omega), if_pos rfl]
      rw [r2]
      simp only
      rw [List.set_set]
      have q := s.set c (b := fun s => F i s || L i s) (c := fun _ => false)
      rw [S.segsOf_none] at q
      refine Settle_l0 hk hP hy n (i + 1) _ (by omega) (by omega) ⟨q.len, fun j hj => ?_⟩
      rw [q.at_ j hj]
      by_cases d : j = i
      · simp only [if_pos d]
        rw [if_pos (by omega), if_pos (by omega), d]
      · simp only [if_neg d]
        by_cases e : j < i
        · rw [if_pos e, if_pos e, if_pos (by omega), if_pos (by omega)]
        · rw [if_neg e, if_neg e, if_neg (by omega), if_neg (by omega)]
    · rw [if_neg (by omega)]
      refine ⟨x, ⟨hx, fun j hj => ?_⟩, rfl⟩
      rw [s.at_ j hj, if_pos (by omega), if_pos (by omega)]
theorem Commit_sets {P x : List Device} {k : Nat} {F L : Nat → Nat → Bool} (hk : 1000 < k) (hP : DevsOk P) (s : Sets P F L x) (o : SetsOk P F L) : ∃ x', Sets P (fun j i => F j i || L j i) (fun _ _ => false) x' ∧ room_Commit.f k x = some (x', 0) := by
  have ox := s.ok hP o
  have hl := hP.1
  unfold room_Commit.f
  rw [(room_May_says hk (devs_in ox)).1 ox]
  simp only [Option.bind_some, if_true]
  rw [Own_eq hk ox]
  simp only [Option.bind_some]
  exact Settle_l0 hk hP s.len k 0 x (by omega) (by omega) ⟨s.len, fun j hj => by rw [s.at_ j hj]; simp⟩
theorem Commit_bad {x : List Device} {k : Nat} (hk : 1000 < k) (hx : DevsIn x) (h : ¬ DevsOk x) : room_Commit.f k x = some ([], 1) := by
  unfold room_Commit.f
  rw [(room_May_says hk hx).2 h]
  rfl
end Go.Proofs.YtnaajldlloglkaaDoor.W
