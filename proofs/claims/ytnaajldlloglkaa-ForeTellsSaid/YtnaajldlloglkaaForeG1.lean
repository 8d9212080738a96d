/- Plain facts: what is spare, and what fits. -/
import Derived.Test.YtnaajldlloglkaaForeF9
set_option linter.unusedVariables false
set_option linter.unusedSimpArgs false
namespace Go.Proofs.Ytnaajldlloglkaa.W
open Go.H
variable {p : Pool} {k : Nat}
def busy (d : Device) (i : Nat) : Bool := decide ((i : Int) < d.Size) && !(S.mem d.Free i || S.mem d.Late i)
def usedN (d : Device) : Nat := (S.secFrom 0 (busy d)).length
theorem usedN_le (d : Device) : usedN d ≤ 64 := S.secFrom_len _ _
theorem Busy_set {d : Device} (hk : 1000 < k) (h : DevOk d) : ∃ x, room_Busy.f k d = some x ∧ S.IsSet x (busy d) := by
  have s1 := ok_short h.free.1
  have s2 := ok_short h.late.1
  obtain ⟨t, et, ht⟩ := S.To_set (n := d.Size) (by have := h.size; omega) h.size.2
  obtain ⟨x, ex, hx⟩ := S.Make_set (k := k) (l := d.Free) (by omega) (by omega) h.free.1
  obtain ⟨y, ey, hy⟩ := S.Make_set (k := k) (l := d.Late) (by omega) (by omega) h.late.1
  unfold room_Busy.f
  rw [et, ex, ey]
  exact ⟨_, rfl, ht.andn (hx.or hy)⟩
theorem Used_eq {d : Device} (hk : 1000 < k) (h : DevOk d) : hermitageref7_Used.f k d = some (usedN d : Int) := by
  have s1 := ok_short h.free.1
  have s2 := ok_short h.late.1
  unfold hermitageref7_Used.f
  rw [S.refCount_eq hk (by omega) h.free.1, S.refCount_eq hk (by omega) h.late.1]
  simp only [Option.bind_some]
  have hz := h.size
  have c0 : ((S.secFrom 0 fun i => decide ((i : Int) < d.Size)).length : Int) = d.Size := by
    have := S.sec_below ⟨d.Size.toNat, by omega⟩
    simp only at this
    rw [Int.toNat_of_nonneg (by omega)] at this
    omega
  have q1 := S.sec_split (b := fun i => decide ((i : Int) < d.Size)) (c := S.mem d.Free) 0
  have e1 : S.secFrom 0 (fun i => decide ((i : Int) < d.Size) && S.mem d.Free i) = S.secFrom 0 (S.mem d.Free) := S.secFrom_congr 64 0 rfl fun j _ hj => by
    cases m : S.mem d.Free j
    · simp
    · simp [S.below_iff.1 h.free.2 j hj m]
  have q2 := S.sec_split (b := fun i => decide ((i : Int) < d.Size) && !S.mem d.Free i) (c := S.mem d.Late) 0
  have e2 : S.secFrom 0 (fun i => decide ((i : Int) < d.Size) && !S.mem d.Free i && S.mem d.Late i) = S.secFrom 0 (S.mem d.Late) := S.secFrom_congr 64 0 rfl fun j _ hj => by
    cases m : S.mem d.Late j
    · simp
    · have := h.dis j hj
      rw [m, Bool.and_true] at this
      simp [S.below_iff.1 h.late.2 j hj m, this]
  have e3 : S.secFrom 0 (fun i => decide ((i : Int) < d.Size) && !S.mem d.Free i && !S.mem d.Late i) = S.secFrom 0 (busy d) := S.secFrom_congr 64 0 rfl fun j _ hj => by
    unfold busy
    cases S.mem d.Free j <;> cases S.mem d.Late j <;> simp
  rw [e1] at q1
  rw [e2, e3] at q2
  have l1 := S.secFrom_len (S.mem d.Free) 0
  have l2 := S.secFrom_len (S.mem d.Late) 0
  have l3 : usedN d = (S.secFrom 0 (busy d)).length := rfl
  rw [w64_id (x := d.Size - _) (by omega) (by omega), w64_id (by omega) (by omega)]
  congr 1
  omega
/-- The sum over the first ones that are asked. -/
def sm (q : Nat → Bool) (f : Nat → Int) : Nat → Int
  | 0 => 0
  | n + 1 => if q n = true then sm q f n + f n else sm q f n
theorem sm_bound {q : Nat → Bool} {f : Nat → Int} : ∀ n, (∀ i, i < n → 0 ≤ f i ∧ f i ≤ 64) → 0 ≤ sm q f n ∧ sm q f n ≤ 64 * (n : Int)
  | 0, _ => by simp [sm]
  | n + 1, h => by
    have := sm_bound (q := q) n fun i hi => h i (by omega)
    have := h n (by omega)
    unfold sm
    split <;> omega
theorem sm_congr {q r : Nat → Bool} {f : Nat → Int} : ∀ n, (∀ i, i < n → q i = r i) → sm q f n = sm r f n
  | 0, _ => rfl
  | n + 1, h => by
    have := sm_congr (f := f) n fun i hi => h i (by omega)
    unfold sm
    rw [this, h n (by omega)]
abbrev loose1 (p : Pool) (i : Nat) : Int := (rd p.Devices (i : Int)).Size - (usedN (rd p.Devices (i : Int)) : Int)
abbrev notId (p : Pool) (id : Int) (i : Nat) : Bool := !((rd p.Devices (i : Int)).ID == id)
theorem used_size {d : Device} (hk : 1000 < k) (h : DevOk d) : (usedN d : Int) ≤ d.Size := by
  have hz := h.size
  have c0 : ((S.secFrom 0 fun i => decide ((i : Int) < d.Size)).length : Int) = d.Size := by
    have := S.sec_below ⟨d.Size.toNat, by omega⟩
    simp only at this
    rw [Int.toNat_of_nonneg (by omega)] at this
    omega
  have q1 := S.sec_split (b := fun i => decide ((i : Int) < d.Size)) (c := fun i => S.mem d.Free i || S.mem d.Late i) 0
  have : (S.secFrom 0 (busy d)).length = (S.secFrom 0 fun i => decide ((i : Int) < d.Size) && !(S.mem d.Free i || S.mem d.Late i)).length := rfl
  unfold usedN
  omega
theorem loose_in (hk : 1000 < k) (h : DevsOk p.Devices) {i : Nat} (hi : i < p.Devices.length) : 0 ≤ loose1 p i ∧ loose1 p i ≤ 64 := by
  have := used_size hk (dev_ok h hi)
  have := (dev_ok h hi).size
  unfold loose1
  omega
theorem Loose_l0 (hk : 1000 < k) (h : DevsOk p.Devices) {id : Int} : ∀ (n i : Nat), i ≤ p.Devices.length → p.Devices.length - i < n → move_Loose.l0 p.Devices id k n (sm (notId p id) (loose1 p) i) i = some (sm (notId p id) (loose1 p) p.Devices.length)
  | 0, i, _, h => by omega
  | n + 1, i, hi, hn => by
    have hd := h.1
    rw [move_Loose.l0]
    by_cases c : i < p.Devices.length
    · rw [if_pos (by omega), if_pos (by omega)]
      have ih := Loose_l0 hk h (id := id) n (i + 1) (by omega) (by omega)
      have b := sm_bound (q := notId p id) (f := loose1 p) i fun j hj => loose_in hk h (by omega)
      have l := loose_in hk h c
      unfold move_Loose.j0
      by_cases a : (rd p.Devices (i : Int)).ID = id
      · have e : sm (notId p id) (loose1 p) (i + 1) = sm (notId p id) (loose1 p) i := by
          show (if notId p id i = true then _ else _) = _
          rw [if_neg (by simp [notId, a])]
        rw [if_pos a, w64_succ c (by omega), ← ih, e]
      · have e : sm (notId p id) (loose1 p) (i + 1) = sm (notId p id) (loose1 p) i + loose1 p i := by
          show (if notId p id i = true then _ else _) = _
          rw [if_pos (by simp [notId, a])]
        obtain ⟨x, ex, hx⟩ := Busy_set hk (dev_ok h c)
        rw [if_neg a, ex]
        simp only [Option.bind_some]
        rw [S.Count_eq hx]
        simp only [Option.bind_some]
        rw [w64_id (x := (rd p.Devices (i : Int)).Size - ((S.secFrom 0 (busy (rd p.Devices (i : Int)))).length : Int)) (by have : loose1 p i = (rd p.Devices (i : Int)).Size - ((S.secFrom 0 (busy (rd p.Devices (i : Int)))).length : Int) := rfl; omega) (by have : loose1 p i = (rd p.Devices (i : Int)).Size - ((S.secFrom 0 (busy (rd p.Devices (i : Int)))).length : Int) := rfl; omega)]
        have e2 : w64 (sm (notId p id) (loose1 p) i + ((rd p.Devices (i : Int)).Size - ((S.secFrom 0 (busy (rd p.Devices (i : Int)))).length : Int))) = sm (notId p id) (loose1 p) (i + 1) := by
          rw [e]
          exact w64_id (by show _ ≤ sm (notId p id) (loose1 p) i + loose1 p i; omega) (by show sm (notId p id) (loose1 p) i + loose1 p i < _; omega)
        rw [e2, w64_succ c (by omega), ih]
    · rw [if_neg (by omega)]
      rw [show i = p.Devices.length by omega]
theorem Loose_eq (hk : 1000 < k) (h : DevsOk p.Devices) (id : Int) : move_Loose.f k p.Devices id = some (sm (notId p id) (loose1 p) p.Devices.length) := by
  have hd := h.1
  exact Loose_l0 hk h k 0 (by omega) (by omega)
theorem refSpare_l0 (hk : 1000 < k) (h : DevsOk p.Devices) : ∀ (n i : Nat), i ≤ p.Devices.length → p.Devices.length - i < n → hermitageref9_Spare.l0 p k n (sm (notId p p.Job.Dev) (loose1 p) i) i = ((hermitageref9_Rest.f k p).bind fun y2 => (some (w64 (sm (notId p p.Job.Dev) (loose1 p) p.Devices.length - y2.2))))
  | 0, i, _, h => by omega
  | n + 1, i, hi, hn => by
    have hd := h.1
    rw [hermitageref9_Spare.l0]
    by_cases c : i < p.Devices.length
    · rw [if_pos (by omega), if_pos (by omega)]
      have ih := refSpare_l0 hk h n (i + 1) (by omega) (by omega)
      have b := sm_bound (q := notId p p.Job.Dev) (f := loose1 p) i fun j hj => loose_in hk h (by omega)
      have l := loose_in hk h c
      have z := (dev_ok h c).size
      unfold hermitageref9_Spare.j0
      by_cases a : (rd p.Devices (i : Int)).ID = p.Job.Dev
      · have e : sm (notId p p.Job.Dev) (loose1 p) (i + 1) = sm (notId p p.Job.Dev) (loose1 p) i := by
          show (if notId p p.Job.Dev i = true then _ else _) = _
          rw [if_neg (by simp [notId, a])]
        rw [if_pos a, w64_succ c (by omega), ← ih, e]
      · have e : sm (notId p p.Job.Dev) (loose1 p) (i + 1) = sm (notId p p.Job.Dev) (loose1 p) i + loose1 p i := by
          show (if notId p p.Job.Dev i = true then _ else _) = _
          rw [if_pos (by simp [notId, a])]
        rw [if_neg a, if_pos (by omega), if_pos (by omega), Used_eq hk (dev_ok h c)]
        simp only [Option.bind_some]
        have l' : loose1 p i = (rd p.Devices (i : Int)).Size - (usedN (rd p.Devices (i : Int)) : Int) := rfl
        rw [w64_id (x := sm (notId p p.Job.Dev) (loose1 p) i + (rd p.Devices (i : Int)).Size) (by omega) (by omega), w64_id (x := _ - (usedN (rd p.Devices (i : Int)) : Int)) (by omega) (by omega)]
        rw [show sm (notId p p.Job.Dev) (loose1 p) i + (rd p.Devices (i : Int)).Size - (usedN (rd p.Devices (i : Int)) : Int) = sm (notId p p.Job.Dev) (loose1 p) (i + 1) by omega, w64_succ c (by omega), ih]
    · rw [if_neg (by omega)]
      rw [show i = p.Devices.length by omega]
theorem refFits_l0 (hk : 1000 < k) (h : DevsOk p.Devices) {m : Nat} (hm : m < p.Devices.length) : ∀ (n i : Nat), i ≤ p.Devices.length → p.Devices.length - i < n → hermitageref9_Fits.l0 p m k n (sm (notId p (rd p.Devices (m : Int)).ID) (loose1 p) i) i = some (decide ((usedN (rd p.Devices (m : Int)) : Int) ≤ sm (notId p (rd p.Devices (m : Int)).ID) (loose1 p) p.Devices.length))
  | 0, i, _, h => by omega
  | n + 1, i, hi, hn => by
    have hd := h.1
    rw [hermitageref9_Fits.l0]
    by_cases c : i < p.Devices.length
    · rw [if_pos (by omega)]
      have ih := refFits_l0 hk h hm n (i + 1) (by omega) (by omega)
      have b := sm_bound (q := notId p (rd p.Devices (m : Int)).ID) (f := loose1 p) i fun j hj => loose_in hk h (by omega)
      have l := loose_in hk h c
      have z := (dev_ok h c).size
      unfold hermitageref9_Fits.j0
      by_cases a : (i : Int) = (m : Int)
      · have a' : i = m := by omega
        have e : sm (notId p (rd p.Devices (m : Int)).ID) (loose1 p) (i + 1) = sm (notId p (rd p.Devices (m : Int)).ID) (loose1 p) i := by
          show (if notId p (rd p.Devices (m : Int)).ID i = true then _ else _) = _
          rw [if_neg (by simp [notId, a'])]
        rw [if_pos a, w64_succ c (by omega), ← ih, e]
      · have a' : ¬ (rd p.Devices (i : Int)).ID = (rd p.Devices (m : Int)).ID := fun z => a (by rw [dev_inj h c hm z])
        have e : sm (notId p (rd p.Devices (m : Int)).ID) (loose1 p) (i + 1) = sm (notId p (rd p.Devices (m : Int)).ID) (loose1 p) i + loose1 p i := by
          show (if notId p (rd p.Devices (m : Int)).ID i = true then _ else _) = _
          rw [if_pos (by simp [notId, a'])]
        rw [if_neg a, if_pos (by omega), if_pos (by omega), Used_eq hk (dev_ok h c)]
        simp only [Option.bind_some]
        have l' : loose1 p i = (rd p.Devices (i : Int)).Size - (usedN (rd p.Devices (i : Int)) : Int) := rfl
        rw [w64_id (x := sm (notId p (rd p.Devices (m : Int)).ID) (loose1 p) i + (rd p.Devices (i : Int)).Size) (by omega) (by omega), w64_id (x := _ - (usedN (rd p.Devices (i : Int)) : Int)) (by omega) (by omega)]
        rw [show sm (notId p (rd p.Devices (m : Int)).ID) (loose1 p) i + (rd p.Devices (i : Int)).Size - (usedN (rd p.Devices (i : Int)) : Int) = sm (notId p (rd p.Devices (m : Int)).ID) (loose1 p) (i + 1) by omega, w64_succ c (by omega), ih]
    · rw [if_neg (by omega), if_pos (by omega), Used_eq hk (dev_ok h hm)]
      simp only [Option.bind_some]
      rw [show i = p.Devices.length by omega]
theorem sec_none {b : Nat → Bool} {lo : Nat} (h : ∀ j, lo ≤ j → j < 64 → b j = false) : S.secFrom lo b = [] := by
  rw [S.secFrom_congr (c := fun _ => false) (64 - lo) lo rfl h]
  unfold S.secFrom
  simp
theorem Rest_l0 (hk : 1000 < k) (h : DevsOk p.Devices) {m : Nat} (hm : m < p.Devices.length) (hat : 0 ≤ p.Job.At) (hat2 : p.Job.At ≤ 64) : ∀ (n s c : Nat), (s : Int) ≤ (rd p.Devices (m : Int)).Size → 64 - s < n → c ≤ s → hermitageref9_Rest.l0 p k m n c s = some ((rd p.Devices (m : Int)).Size - p.Job.At, ((c + (S.secFrom s (busy (rd p.Devices (m : Int)))).length : Nat) : Int))
  | 0, s, c, hs, h, _ => by omega
  | n + 1, s, c, hs, hn, hc => by
    have d := dev_ok h hm
    have z := d.size
    have s1 := ok_short d.free.1
    have s2 := ok_short d.late.1
    rw [hermitageref9_Rest.l0, if_pos (by omega)]
    by_cases a : (s : Int) < (rd p.Devices (m : Int)).Size
    · have hn0 : S.inNum (s : Int) = true := S.inNum_iff.2 (by omega)
      rw [if_pos a, if_pos (by omega), S.refHas_eq hk (by omega) d.free.1, S.secFrom_cons (by omega)]
      simp only [Option.bind_some]
      rw [hn0, Int.toNat_natCast, Bool.true_and]
      unfold hermitageref9_Rest.j1 hermitageref9_Rest.j0
      have ws : w64 ((s : Int) + 1) = ((s + 1 : Nat) : Int) := by rw [w64_id (by omega) (by omega)]; omega
      by_cases f : S.mem (rd p.Devices (m : Int)).Free s = true
      · rw [if_pos f, if_neg (by simp), ws, Rest_l0 hk h hm hat hat2 n (s + 1) c (by omega) (by omega) (by omega), if_neg (by simp [busy, f])]
      · rw [if_neg f, if_pos (by omega), S.refHas_eq hk (by omega) d.late.1]
        simp only [Option.bind_some]
        rw [hn0, Int.toNat_natCast, Bool.true_and]
        by_cases g : S.mem (rd p.Devices (m : Int)).Late s = true
        · rw [if_neg (by simp [g]), ws, Rest_l0 hk h hm hat hat2 n (s + 1) c (by omega) (by omega) (by omega), if_neg (by simp [busy, g])]
        · rw [if_pos (by simp [g]), ws, w64_id (x := (c : Int) + 1) (by omega) (by omega), show (c : Int) + 1 = ((c + 1 : Nat) : Int) by omega, Rest_l0 hk h hm hat hat2 n (s + 1) (c + 1) (by omega) (by omega) (by omega), if_pos (by simp [busy, f, g, a])]
          simp only [List.length_cons]
          rw [show c + 1 + (S.secFrom (s + 1) (busy (rd p.Devices (m : Int)))).length = c + ((S.secFrom (s + 1) (busy (rd p.Devices (m : Int)))).length + 1) by omega]
    · rw [if_neg a, if_pos (by omega), w64_id (by omega) (by omega), sec_none fun j hj _ => by
        unfold busy
        rw [decide_eq_false (by omega)]; rfl]
      rfl
theorem Rest_begun (hk : 1000 < k) (h : DevsOk p.Devices) {m : Nat} (b : Begun p m) : hermitageref9_Rest.f k p = some ((rd p.Devices (m : Int)).Size - p.Job.At, ((S.secFrom p.Job.At.toNat (busy (rd p.Devices (m : Int)))).length : Int)) := by
  have z := (dev_ok h b.lt).size
  have b0 := b.at0
  have b1 := b.at1
  unfold hermitageref9_Rest.f
  rw [ref_At_in hk h b.lt b.id]
  simp only [Option.bind_some]
  rw [if_neg (by omega)]
  have := Rest_l0 hk h b.lt b0 (by omega) k p.Job.At.toNat 0 (by omega) (by omega) (by omega)
  rw [Int.toNat_of_nonneg b0, Nat.zero_add] at this
  exact this
theorem Spare_yes (hk : 1100 < k) (hp : PIn p) (c : PoolOk p) : ∃ s : Int, fore_Spare.f k p = some (s, 0) ∧ hermitageref9_Spare.f k p = some s := by
  have hd := c.devs.1
  unfold fore_Spare.f hermitageref9_Spare.f
  rw [(May_says (by omega) hp).1 c]
  simp only [Option.bind_some, if_true]
  rw [Loose_eq (by omega) c.devs]
  simp only [Option.bind_some]
  have r := refSpare_l0 (p := p) (k := k) (by omega) c.devs k 0 (by omega) (by omega)
  have r : hermitageref9_Spare.l0 p k k 0 0 = ((hermitageref9_Rest.f k p).bind fun y2 => (some (w64 (sm (notId p p.Job.Dev) (loose1 p) p.Devices.length - y2.2)))) := r
  rw [r]
  rcases c.job with i | ⟨m, b⟩
  · have nd : ¬ IsDev p p.Job.Dev := fun ⟨m, hm, e⟩ => by
      have := dev_id c.devs hm
      have := i.dev
      omega
    obtain ⟨m, f⟩ := find_out (k := k) (by omega) c.devs hp.jobDev.1 hp.jobDev.2 nd
    rw [f]
    unfold hermitageref9_Rest.f
    rw [ref_At_out (by omega) c.devs nd]
    simp only [Option.bind_some]
    rw [if_neg (by simp), if_pos (by omega)]
    simp only [Option.bind_some]
    have sb := sm_bound (q := notId p p.Job.Dev) (f := loose1 p) p.Devices.length fun j hj => loose_in (k := k) (by omega) c.devs (by omega)
    rw [w64_id (by omega) (by omega), Int.sub_zero]
    exact ⟨_, rfl, rfl⟩
  · have z := (dev_ok c.devs b.lt).size
    have b0 := b.at0
    have b1 := b.at1
    have lt := b.lt
    rw [find_in (by omega) c.devs b.lt hp.jobDev.1 hp.jobDev.2 b.id, Rest_begun (by omega) c.devs b]
    simp only [Option.bind_some, if_true]
    rw [if_pos (by omega)]
    obtain ⟨x, ex, hx⟩ := Busy_set (k := k) (by omega) (dev_ok c.devs b.lt)
    obtain ⟨t, et, ht⟩ := S.To_set (n := p.Job.At) b0 (by omega)
    rw [ex, et]
    simp only [Option.bind_some]
    rw [S.Count_eq (hx.andn ht)]
    simp only [Option.bind_some]
    unfold fore_Spare.j0
    have e1 : S.secFrom 0 (fun i => busy (rd p.Devices (m : Int)) i && !decide ((i : Int) < p.Job.At)) = S.secFrom p.Job.At.toNat (busy (rd p.Devices (m : Int))) := by
      rw [S.secFrom_skip p.Job.At.toNat 0 p.Job.At.toNat (by omega) (by omega) fun j _ hj => by
        rw [decide_eq_true (by omega)]; simp]
      exact S.secFrom_congr (64 - p.Job.At.toNat) _ rfl fun j hj _ => by
        rw [decide_eq_false (by omega)]; simp
    rw [e1]
    exact ⟨_, rfl, rfl⟩
theorem Spare_no (hk : 1100 < k) (hp : PIn p) (c : ¬ PoolOk p) : fore_Spare.f k p = some (0, 1) := by
  unfold fore_Spare.f
  rw [(May_says (by omega) hp).2 c]
  rfl
theorem Fits_in (hk : 1100 < k) (hp : PIn p) (c : PoolOk p) {id : Int} (i0 : -9223372036854775808 ≤ id) (i1 : id < 9223372036854775808) {m : Nat} (hm : m < p.Devices.length) (e : (rd p.Devices (m : Int)).ID = id) : ∃ b : Bool, fore_Fits.f k p id = some (b, 0) ∧ hermitageref9_Fits.f k p (m : Int) = some b := by
  have hd := c.devs.1
  unfold fore_Fits.f hermitageref9_Fits.f
  rw [(May_says (by omega) hp).1 c]
  simp only [Option.bind_some, if_true]
  rw [find_in (by omega) c.devs hm i0 i1 e]
  simp only [Option.bind_some, if_true]
  rw [if_pos (by omega), Loose_eq (by omega) c.devs]
  obtain ⟨x, ex, hx⟩ := Busy_set (k := k) (by omega) (dev_ok c.devs hm)
  rw [ex]
  simp only [Option.bind_some]
  rw [S.Count_eq hx]
  simp only [Option.bind_some]
  have r := refFits_l0 (p := p) (k := k) (by omega) c.devs hm k 0 (by omega) (by omega)
  have r : hermitageref9_Fits.l0 p m k k 0 0 = some (decide ((usedN (rd p.Devices (m : Int)) : Int) ≤ sm (notId p (rd p.Devices (m : Int)).ID) (loose1 p) p.Devices.length)) := r
  rw [r, ← e]
  exact ⟨_, rfl, rfl⟩
theorem Fits_out (hk : 1100 < k) (hp : PIn p) (c : PoolOk p) {id : Int} (i0 : -9223372036854775808 ≤ id) (i1 : id < 9223372036854775808) (nd : ¬ IsDev p id) : fore_Fits.f k p id = some (false, 3) := by
  unfold fore_Fits.f
  rw [(May_says (by omega) hp).1 c]
  simp only [Option.bind_some, if_true]
  obtain ⟨m, f⟩ := find_out (k := k) (by omega) c.devs i0 i1 nd
  rw [f]
  simp only [Option.bind_some]
  rw [if_neg (by simp)]
theorem Fits_no (hk : 1100 < k) (hp : PIn p) (c : ¬ PoolOk p) {id : Int} : fore_Fits.f k p id = some (false, 1) := by
  unfold fore_Fits.f
  rw [(May_says (by omega) hp).2 c]
  rfl
end Go.Proofs.Ytnaajldlloglkaa.W
