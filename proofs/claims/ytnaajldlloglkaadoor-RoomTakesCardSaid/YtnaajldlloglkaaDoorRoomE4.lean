/- Plain facts: what was taken is given back. -/
import Derived.Test.YtnaajldlloglkaaDoorRoomE3
set_option linter.unusedVariables false
set_option linter.unusedSimpArgs false
namespace Go.Proofs.YtnaajldlloglkaaDoor.W
open Go.H
def inT (T : List Pl) : Nat → Nat → Bool := fun j i => decide ((j, i) ∈ T)
theorem inT_snoc {T : List Pl} {t : Pl} (j i : Nat) : inT (T ++ [t]) j i = (inT T j i || decide (j = t.1 ∧ i = t.2)) := by
  unfold inT
  by_cases c : (j, i) ∈ T
  · simp [c]
  · by_cases d : j = t.1 ∧ i = t.2
    · obtain ⟨rfl, rfl⟩ := d
      simp
    · have : ¬ (j, i) ∈ T ++ [t] := fun z => by
        rcases List.mem_append.1 z with z | z
        · exact c z
        · rw [List.mem_singleton] at z
          rw [← z] at d
          exact d ⟨rfl, rfl⟩
      simp [c, d, this]
theorem given_ok {P : List Device} {F : Nat → Nat → Bool} {no : Int} {T U : List Pl} (o : SetsOk P F (fun _ _ => false)) (t : Took P no F T) (hU : ∀ u ∈ U, u ∈ T) : SetsOk P (left F T) (inT U) := by
  refine ⟨fun j i hj hi h => ?_, fun j i hj hi h => ?_, fun j i hj hi => ?_⟩
  · unfold left at h
    rw [Bool.and_eq_true] at h
    exact o.free j i hj hi h.1
  · have := hU _ (of_decide_eq_true h)
    exact o.free j i hj hi (t.in_ _ this).2.2.1
  · unfold left inT
    by_cases c : (j, i) ∈ U
    · simp [hU _ c]
    · simp [c]
theorem id_inj {P : List Device} (h : DevsOk P) {i j : Nat} (hi : i < P.length) (hj : j < P.length) (e : (rd P (i : Int)).ID = (rd P (j : Int)).ID) : i = j :=
  asc_inj (g := fun m => (rd P (m : Int)).ID) (fun j hj z => (h.2 j (by omega) hj).2 z) hi hj e
theorem Give_l0 {P : List Device} {k : Nat} {F : Nat → Nat → Bool} {no : Int} {T : List Pl} (hk : 1000 < k) (hP : DevsOk P) (o : SetsOk P F (fun _ _ => false)) (t : Took P no F T) (hT : T.length ≤ 1000) : ∀ (n i : Nat) (x : List Device), i ≤ T.length → T.length - i < n → Sets P (left F T) (inT (T.take i)) x →
    ∃ x', Sets P (left F T) (inT T) x' ∧ room_Give.l0 (T.map (place P)) k n x (i : Int) = some (x', 0)
  | 0, i, x, _, h, _ => by omega
  | n + 1, i, x, hi, hn, s => by
    have hl := hP.1
    have hx := s.len
    rw [room_Give.l0, List.length_map]
    by_cases c : i < T.length
    · have ox := s.ok hP (given_ok o t fun u hu => List.mem_of_mem_take hu)
      have ti := t.in_ _ (List.getElem_mem c)
      have hr : rd (T.map (place P)) (i : Int) = place P T[i] := by rw [rd_nat (by rw [List.length_map]; exact c)]; simp
      obtain ⟨⟨m, a⟩, hTi⟩ : ∃ q : Pl, T[i] = q := ⟨_, rfl⟩
      rw [hTi] at ti hr
      simp only at ti
      have hm := ti.1
      have idr := (hP.2 m (by omega) hm).1.id
      have tk : T.take (i + 1) = T.take i ++ [(m, a)] := by rw [List.take_succ_eq_append_getElem c, hTi]
      have nin : ¬ (m, a) ∈ T.take i := fun z => by
        have nd := t.nd
        rw [← List.take_append_drop i T, List.nodup_append] at nd
        refine nd.2.2 _ z (m, a) ?_ rfl
        rw [← hTi, List.drop_eq_getElem_cons c]
        exact List.mem_cons_self
      have hat : (rd (T.map (place P)) (i : Int)).At = (a : Int) := by rw [hr]; rfl
      have hdv : (rd (T.map (place P)) (i : Int)).Dev = (rd P (m : Int)).ID := by rw [hr]; rfl
      rw [if_pos (by omega), if_pos (by omega), hdv]
      have fs : room_Find.f k x (rd P (m : Int)).ID = some ((m : Int), true) := by
        rcases room_Find_spot hk ox (id := (rd P (m : Int)).ID) (by omega) (by omega) with ⟨m', hm', e, f⟩ | ⟨no', m', f⟩
        · have e : (rd x (m' : Int)).ID = (rd P (m : Int)).ID := e
          rw [s.at_ m' (by omega)] at e
          rw [f, id_inj hP (by omega) hm e]
        · refine absurd ?_ (no' m (by omega))
          show (rd x (m : Int)).ID = _
          rw [s.at_ m hm]
      have hsz : (a : Int) < (rd P (m : Int)).Size := o.free m a hm ti.2.1 ti.2.2.1
      have dz := (hP.2 m (by omega) hm).1.size
      have hz : decide ((rd x (m : Int)).Size ≤ (rd (T.map (place P)) (i : Int)).At) = false := by rw [hat, s.at_ m hm]; exact decide_eq_false (by show ¬ (rd P (m : Int)).Size ≤ (a : Int); omega)
      rw [fs]
      simp only [Option.bind_some, if_true]
      rw [if_neg (by omega), if_pos (by omega), hz]
      unfold room_Give.j1
      rw [if_neg (by simp), hat]
      simp only
      rw [if_pos (by omega), s.at_ m hm]
      unfold room_Busy.f
      simp only
      obtain ⟨u, eu, hu⟩ := S.To_set (n := (rd P (m : Int)).Size) (by omega) dz.2
      obtain ⟨v, ev, hv⟩ := Make_segs (b := left F T m) hk
      obtain ⟨w, ew, hw⟩ := Make_segs (b := inT (T.take i) m) hk
      rw [eu, ev, ew]
      simp only [Option.bind_some]
      rw [S.SetHas_eq (hu.andn (hv.or hw))]
      simp only [Option.bind_some]
      have hh : (S.inNum (a : Int) && (decide ((((a : Int).toNat : Nat) : Int) < (rd P (m : Int)).Size) && !(left F T m (a : Int).toNat || inT (T.take i) m (a : Int).toNat))) = true := by
        have h1 : S.inNum (a : Int) = true := S.inNum_iff.2 (by omega)
        have h2 : left F T m a = false := by
          unfold left
          have : (m, a) ∈ T := by rw [← hTi]; exact List.getElem_mem c
          simp [this]
        have h3 : inT (T.take i) m a = false := by unfold inT; simp [nin]
        rw [Int.toNat_natCast, h1, h2, h3]
        simp [hsz]
      rw [if_pos hh, if_pos (by omega)]
      obtain ⟨y, ey, hy⟩ := S.One_set (n := (a : Int)) (by omega) (by omega)
      rw [ey]
      simp only [Option.bind_some]
      rw [S.Set_Segs_eq ((hw.or hy).congr (c := inT (T.take (i + 1)) m) fun s _ => by
        rw [tk, inT_snoc]
        congr 1
        rw [decide_eq_decide]
        show ((s : Int) = (a : Int)) ↔ (m = m ∧ s = a)
        omega) (by omega)]
      simp only [Option.bind_some]
      rw [if_pos (by omega)]
      unfold room_Give.j0
      rw [if_pos rfl, w64_succ c (by omega), Int.toNat_natCast]
      have q := s.set hm (b := left F T m) (c := inT (T.take (i + 1)) m)
      refine Give_l0 hk hP o t hT n (i + 1) _ (by omega) (by omega) ⟨q.len, fun j hj => ?_⟩
      rw [q.at_ j hj]
      by_cases z : j = m
      · subst z; simp only [if_true]
      · simp only [if_neg z]
        rw [S.segsOf_congr (b := inT (T.take i) j) (c := inT (T.take (i + 1)) j) fun s _ => by rw [tk, inT_snoc]; simp [z]]
    · rw [if_neg (by omega)]
      refine ⟨x, ?_, rfl⟩
      rw [List.take_of_length_le (by omega)] at s
      exact s
theorem Give_eq {P x : List Device} {k : Nat} {F : Nat → Nat → Bool} {no : Int} {T : List Pl} (hk : 1000 < k) (hP : DevsOk P) (o : SetsOk P F (fun _ _ => false)) (t : Took P no F T) (hT : T.length ≤ 1000) (s : Sets P (left F T) (fun _ _ => false) x) :
    ∃ x', Sets P (left F T) (inT T) x' ∧ room_Give.f k x (T.map (place P)) = some (x', 0) := by
  have s0 : Sets P (left F T) (inT (T.take 0)) x := ⟨s.len, fun j hj => by rw [s.at_ j hj, S.segsOf_congr (b := inT (T.take 0) j) (c := fun _ => false) fun i _ => by simp [inT]]⟩
  have ox := s0.ok hP (given_ok o t fun u hu => List.mem_of_mem_take hu)
  unfold room_Give.f
  rw [(room_May_says hk (devs_in ox)).1 ox]
  simp only [Option.bind_some, if_true]
  rw [Own_eq hk ox]
  simp only [Option.bind_some]
  exact Give_l0 hk hP o t hT k 0 x (by omega) (by omega) s0
end Go.Proofs.YtnaajldlloglkaaDoor.W
