/- The plain law of RoomBack. -/
import Derived.Test.YtnaajldlloglkaaDoorRoomE4
import Derived.Test.YtnaajldlloglkaaDoorRoomD2
set_option linter.unusedVariables false
set_option linter.unusedSimpArgs false
namespace Go.Proofs.YtnaajldlloglkaaDoor.W
open Go.H
theorem places_apart {P : List Device} {no : Int} {F : Nat → Nat → Bool} {T : List Pl} (hP : DevsOk P) (t : Took P no F T) {a b : Nat} (ha : a < T.length) (hb : b < a) : ¬ rd (T.map (place P)) (a : Int) = rd (T.map (place P)) (b : Int) := by
  rw [rd_nat (by rw [List.length_map]; exact ha), rd_nat (by rw [List.length_map]; omega)]
  simp only [List.getElem_map]
  intro e
  have ia := t.in_ _ (List.getElem_mem ha)
  have ib := t.in_ _ (List.getElem_mem (show b < T.length by omega))
  unfold place at e
  injection e with e1 e2
  have h1 := id_inj hP ia.1 ib.1 e1
  have h2 : T[a] = T[b] := Prod.ext h1 (by omega)
  exact List.pairwise_iff_getElem.1 t.nd b a (by omega) ha hb h2.symm
theorem Back_l2 {y : List Ptr × List Device × Int} {P : List Device} {no : Int} {F : Nat → Nat → Bool} {T : List Pl} (hP : DevsOk P) (t : Took P no F T) (hT : T.length ≤ 1000) (hy : y.1 = T.map (place P)) {a : Nat} (ha : a < T.length) (re : Int → Option Bool) : ∀ (n b : Nat), b ≤ a → a - b < n → hermitagelaw7_RoomBack.l2 y a re n b = re (w64 ((a : Int) + 1))
  | 0, b, _, h => by omega
  | n + 1, b, hb, hn => by
    rw [hermitagelaw7_RoomBack.l2]
    by_cases c : b < a
    · have hl : y.1.length = T.length := by rw [hy, List.length_map]
      rw [if_pos (by omega), if_pos (by omega), if_pos (by omega), if_neg (by rw [hy]; exact places_apart hP t ha c), w64_succ c (by omega)]
      exact Back_l2 hP t hT hy ha re n (b + 1) (by omega) (by omega)
    · rw [if_neg (by omega)]
theorem Back_l1 {y : List Ptr × List Device × Int} {k : Nat} {P : List Device} {no : Int} {F : Nat → Nat → Bool} {T : List Pl} (hk : 1000 < k) (hP : DevsOk P) (t : Took P no F T) (hT : T.length ≤ 1000) (hy : y.1 = T.map (place P)) (re : Int → Option Bool) : ∀ (n a : Nat), a ≤ T.length → T.length - a < n → hermitagelaw7_RoomBack.l1 k (T.length : Int) y re n a = re (w64 ((T.length : Int) + 1))
  | 0, a, _, h => by omega
  | n + 1, a, ha, hn => by
    rw [hermitagelaw7_RoomBack.l1]
    by_cases c : a < T.length
    · rw [if_pos (by omega)]
      have q := Back_l2 hP t hT hy c (hermitagelaw7_RoomBack.l1 k (T.length : Int) y re n) k 0 (by omega) (by omega)
      have q : hermitagelaw7_RoomBack.l2 y a (hermitagelaw7_RoomBack.l1 k (T.length : Int) y re n) k 0 = hermitagelaw7_RoomBack.l1 k (T.length : Int) y re n (w64 ((a : Int) + 1)) := q
      rw [q, w64_succ c (by omega)]
      exact Back_l1 hk hP t hT hy re n (a + 1) (by omega) (by omega)
    · rw [if_neg (by omega)]
      unfold hermitagelaw7_RoomBack.j1
      rfl
theorem num7 {x : Int} : hermitagelaw7_num.f x = some x := rfl
theorem ids_not {P : List Device} (hP : DevsOk P) {j : Nat} (hj : j < P.length) : (rd P (j : Int)).ID ≠ 0 := by
  have := (hP.2 j (by omega) hj).1.id
  omega
theorem Back_j0 {k : Nat} {P : List Device} {F : Nat → Nat → Bool} {y2 : List Device × Int} {y4 : Int × Int} (hk : 1000 < k) (hP : DevsOk P) (o : SetsOk P F (fun _ _ => false)) (s : Sets P F (fun _ _ => false) y2.1) (h4 : y4.1 = (tot P 0 F P.length : Int)) {c : Nat} (hc : c ≤ tot P 0 F P.length) (re : Int → Option Bool) : hermitagelaw7_RoomBack.j0 k y2 y4 c re true = re (w64 ((c : Int) + 1)) := by
  have hl := hP.1
  have tb := tot_le P 0 F P.length
  unfold hermitagelaw7_RoomBack.j0
  rw [if_pos rfl]
  obtain ⟨T, x, hT, t, sx, e⟩ := Take_eq (no := 0) hk hP s o hc
  have o0 : SetsOk P (left F T) (fun _ _ => false) := ⟨fun j i hj hi h => by
    unfold left at h
    rw [Bool.and_eq_true] at h
    exact o.free j i hj hi h.1, fun j i hj hi h => by simp at h, fun j i hj hi => by simp⟩
  rw [e]
  simp only [Option.bind_some]
  rw [Count_eq2 hk hP sx o0]
  simp only [Option.bind_some]
  obtain ⟨x2, s2, e2⟩ := Give_eq hk hP o t (by omega) sx
  rw [e2]
  simp only [Option.bind_some]
  obtain ⟨w, sw, e3⟩ := Commit_sets hk hP s2 (given_ok o t fun u hu => hu)
  rw [e3]
  simp only [Option.bind_some, num7]
  have ew : w = y2.1 := sw.ext s fun j i hj hi => ⟨by
    unfold left inT
    by_cases d : (j, i) ∈ T
    · have := (t.in_ _ d).2.2.1
      simp only at this
      simp [d, this]
    · simp [d], rfl⟩
  have z0 : w64 (w64 (w64 (0 + 0) + 0) + 0) = 0 := by decide
  have cn := t.cnt
  rw [if_pos z0, if_pos (by rw [List.length_map, hT]), if_pos (by rw [h4, w64_id (by omega) (by omega)]; omega), ew]
  have oy := s.ok hP o
  rw [EqDs_self hk (by have := oy.1; omega) (devs_in oy)]
  simp only [Option.bind_some]
  unfold hermitagelaw7_RoomBack.j2
  rw [if_neg (by simp)]
  have q := Back_l1 (y := (T.map (place P), x, 0)) hk hP t (by omega) rfl re k 0 (by omega) (by omega)
  rw [hT] at q
  exact q
theorem Back_l0 {k : Nat} {P : List Device} {F : Nat → Nat → Bool} {y2 : List Device × Int} {y4 : Int × Int} (hk : 1000 < k) (hw : hermitagelaw7_wakes.f k = some true) (hP : DevsOk P) (o : SetsOk P F (fun _ _ => false)) (s : Sets P F (fun _ _ => false) y2.1) (h4 : y4.1 = (tot P 0 F P.length : Int)) : ∀ (n c : Nat), c ≤ 20 → 20 - c < n → hermitagelaw7_RoomBack.l0 k y2 y4 n c = some true
  | 0, c, _, h => by omega
  | n + 1, c, hc, hn => by
    have fin : ∀ re, hermitagelaw7_RoomBack.j0 k y2 y4 (c : Int) re false = some true := fun re => by
      unfold hermitagelaw7_RoomBack.j0
      rw [if_neg (by simp), S.Segs_eq (by simp) (by simp; omega)]
      simp only [Option.bind_some]
      rw [if_pos (by rfl), hw]
      rfl
    rw [hermitagelaw7_RoomBack.l0]
    by_cases d : (c : Int) ≤ y4.1
    · rw [if_pos d]
      by_cases e : (c : Int) < 20
      · rw [decide_eq_true e, Back_j0 hk hP o s h4 (by omega), show w64 ((c : Int) + 1) = ((c + 1 : Nat) : Int) by rw [w64_id (by omega) (by omega)]; omega]
        exact Back_l0 hk hw hP o s h4 n (c + 1) (by omega) (by omega)
      · rw [decide_eq_false e, fin]
    · rw [if_neg d, fin]
structure SizedR (p : Script) : Prop where
  L : p.L.length < 1125899906842624
  Ll : ∀ d ∈ p.L, d.Free.length < 1125899906842624 ∧ d.Late.length < 1125899906842624
  A : p.A.length < 1125899906842624
  Al : ∀ a ∈ p.A, a.P.length < 1125899906842624 ∧ (-9223372036854775808 ≤ a.N ∧ a.N < 9223372036854775808) ∧ (-9223372036854775808 ≤ a.Not ∧ a.Not < 9223372036854775808)
structure LightR (p : Script) : Prop where
  L : p.L.length ≤ 800
  inn : DevsIn p.L
  A : p.A.length ≤ 800
  Al : ∀ a ∈ p.A, a.P.length ≤ 800
theorem HeavyR_eq {p : Script} {k : Nat} (hs : SizedR p) (hd : p.L.length < k) (ha : p.A.length < k) : ∃ h, hermitagelaw7_Heavy.f k p = some h ∧ (h = false → LightR p) := by
  obtain ⟨u, eu, bu, qu⟩ := DevicesWeight_eq hs.L hs.Ll hd
  have h1 := hs.A
  unfold hermitagelaw7_Heavy.f
  rw [eu]
  simp only [Option.bind_some]
  rw [w64_id (by omega) (by omega), show (u : Int) + (p.A.length : Int) = ((u + p.A.length : Nat) : Int) by omega]
  by_cases big : u < 1048576
  · have q := weigh (l := p.A) (g := fun x => x.P.length) (f := hermitagelaw7_Heavy.l0 p) (out := fun t => some (decide (800 < t))) ?_ ?_ ?_ (fun d hd => by have := (hs.Al d hd).1; omega) (Bd := 36028797018963968) (by omega) k 0 (u + p.A.length) (by omega) (by omega) (by omega) (fun x hx => by simp at hx)
    · obtain ⟨t', e, a, b, q⟩ := q
      refine ⟨_, e, fun z => ?_⟩
      have z := of_decide_eq_false z
      obtain ⟨g1, g2⟩ := qu big
      exact ⟨by omega, fun d hd => by have := g2 d hd; omega, by omega, fun x hx => by have := q (by omega) x hx; omega⟩
    · intro n t i c d
      have w := (hs.Al _ (rd_mem c)).1
      rw [hermitagelaw7_Heavy.l0, if_pos (by omega), decide_eq_true (by omega)]
      unfold hermitagelaw7_Heavy.j0
      rw [if_pos rfl, if_pos (by omega), w64_succ c (by omega), w64_id (by omega) (by omega), show (t : Int) + ((rd p.A (i : Int)).P.length : Int) = ((t + (rd p.A (i : Int)).P.length : Nat) : Int) by omega]
    · intro n t i c d
      rw [hermitagelaw7_Heavy.l0, if_pos (by omega), decide_eq_false (by omega)]
      unfold hermitagelaw7_Heavy.j0
      rw [if_neg (by simp)]
    · intro n t i c
      rw [hermitagelaw7_Heavy.l0, if_neg (by omega)]
      unfold hermitagelaw7_Heavy.j0
      rw [if_neg (by simp)]
  · match k with
    | 0 => omega
    | k + 1 =>
      refine ⟨decide ((800 : Int) < ((u + p.A.length : Nat) : Int)), ?_, fun z => by have := of_decide_eq_false z; omega⟩
      rw [hermitagelaw7_Heavy.l0, decide_eq_false (by omega)]
      unfold hermitagelaw7_Heavy.j0
      by_cases c : (0 : Int) < (p.A.length : Int)
      · rw [if_pos c, if_neg (by simp)]
      · rw [if_neg c, if_neg (by simp)]
set_option maxRecDepth 100000 in
theorem wakes7 : hermitagelaw7_wakes.f 1500 = some true := by decide +kernel
theorem Back_k {p : Script} {k : Nat} (hk : 1000 < k) (hw : hermitagelaw7_wakes.f k = some true) (hin : DevsIn p.L) (hh : hermitagelaw7_Heavy.f k p = some false) : hermitagelaw7_RoomBack.f k p = some true := by
  unfold hermitagelaw7_RoomBack.f
  rw [hh]
  simp only [Option.bind_some]
  rw [if_neg (by simp)]
  by_cases c : DevsOk p.L
  · have o := c.setsOk
    obtain ⟨l, s, e⟩ := Commit_sets hk c c.sets o
    have o2 : SetsOk p.L (fun j i => S.mem (rd p.L (j : Int)).Free i || S.mem (rd p.L (j : Int)).Late i) (fun _ _ => false) := ⟨fun j i hj hi h => by
      rcases Bool.or_eq_true _ _ ▸ h with h | h
      · exact o.free j i hj hi h
      · exact o.late j i hj hi h, fun j i hj hi h => by simp at h, fun j i hj hi => by simp⟩
    rw [e]
    simp only [Option.bind_some, num7, if_true]
    rw [Count_eq2 hk c s o2]
    simp only [Option.bind_some, if_true]
    exact Back_l0 hk hw c o2 s rfl k 0 (by omega) (by omega)
  · rw [Commit_bad hk hin c]
    simp only [Option.bind_some, num7]
    rw [if_neg (by omega)]
theorem RoomBack_plain {p : Script} (hs : SizedR p) : ∃ k, hermitagelaw7_RoomBack.f k p = some true := by
  obtain ⟨h, e, hl⟩ := HeavyR_eq (k := p.L.length + p.A.length + 1) hs (by omega) (by omega)
  cases h
  · have lt := hl rfl
    obtain ⟨h', e', _⟩ := HeavyR_eq (k := 1500) hs (by have := lt.L; omega) (by have := lt.A; omega)
    cases h'
    · exact ⟨1500, Back_k (by omega) wakes7 lt.inn e'⟩
    · exact ⟨1500, by unfold hermitagelaw7_RoomBack.f; rw [e']; rfl⟩
  · exact ⟨_, by unfold hermitagelaw7_RoomBack.f; rw [e]; rfl⟩
end Go.Proofs.YtnaajldlloglkaaDoor.W
