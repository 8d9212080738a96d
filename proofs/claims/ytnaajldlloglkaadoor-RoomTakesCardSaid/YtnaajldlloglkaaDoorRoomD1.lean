/- Plain facts; lines of the claims before, printed by mkfacts.py. -/
import Derived.Test.YtnaajldlloglkaaDoorRoomS4
import Derived.Test.YtnaajldlloglkaaDoorHP
set_option linter.unusedVariables false
set_option linter.unusedSimpArgs false
namespace Go.Proofs.YtnaajldlloglkaaDoor.W
open Go.H
def Says (o : Option Bool) (P : Prop) : Prop := (P → o = some true) ∧ (¬ P → o = some false)
theorem Says.both {o u : Option Bool} {P : Prop} (h : Says o P) (g : Says u P) : ∃ b : Bool, o = some b ∧ u = some b ∧ (b = true ↔ P) := by
  by_cases c : P
  · exact ⟨true, h.1 c, g.1 c, by simp [c]⟩
  · exact ⟨false, h.2 c, g.2 c, by simp [c]⟩
theorem Says.iff {o : Option Bool} {P Q : Prop} (h : Says o P) (e : P ↔ Q) : Says o Q := ⟨fun q => h.1 (e.2 q), fun q => h.2 fun p => q (e.1 p)⟩
theorem says_dec {P : Prop} [Decidable P] : Says (some (decide P)) P := ⟨fun h => by rw [decide_eq_true h], fun h => by rw [decide_eq_false h]⟩
theorem says_bool {b : Bool} : Says (some b) (b = true) := ⟨fun h => by rw [h], fun h => by cases b <;> simp_all⟩
theorem loop_says {R : Type} {f : Nat → Int → Option R} {len : Nat} {P : Nat → Prop} {E F : Option R}
    (h1 : ∀ n (i : Nat), i < len → P i → f (n + 1) (i : Int) = f n ((i + 1 : Nat) : Int))
    (h2 : ∀ n (i : Nat), i < len → ¬ P i → f (n + 1) (i : Int) = F)
    (h3 : ∀ n, f (n + 1) (len : Int) = E) : ∀ (n i : Nat), i ≤ len → len - i < n →
    ((∀ j, i ≤ j → j < len → P j) → f n (i : Int) = E) ∧ (¬ (∀ j, i ≤ j → j < len → P j) → f n (i : Int) = F)
  | 0, i, _, h => by omega
  | n + 1, i, hi, hn => by
    by_cases c : i < len
    · by_cases p : P i
      · have := loop_says h1 h2 h3 n (i + 1) (by omega) (by omega)
        rw [h1 n i c p]
        refine ⟨fun a => this.1 fun j hj hl => a j (by omega) hl, fun a => this.2 fun b => a fun j hj hl => ?_⟩
        rcases Nat.lt_or_ge i j with d | d
        · exact b j (by omega) hl
        · have : j = i := by omega
          rw [this]; exact p
      · rw [h2 n i c p]
        exact ⟨fun a => absurd (a i (by omega) c) p, fun _ => rfl⟩
    · have : i = len := by omega
      subst this
      rw [h3 n]
      exact ⟨fun _ => rfl, fun a => absurd (fun j hj hl => by omega) a⟩
theorem ok_len {lo : Int} : ∀ {l : List Seg}, lo ≤ 66 → S.okFrom lo l = true → lo + 2 * (l.length : Int) ≤ 66
  | [], h, _ => by simpa using h
  | s :: r, h, g => by
    have ⟨a, b, c, d⟩ := S.okFrom_cons.1 g
    have := ok_len (by omega) d
    simp only [List.length_cons]
    omega
theorem ok_short {l : List Seg} (h : S.ok l = true) : l.length ≤ 33 := by
  have := ok_len (by omega) h
  omega
theorem room_ok_eq {l : List Seg} {k : Nat} {n : Int} (hl : l.length ≤ 1000) (hk : 1000 < k) (h0 : 0 ≤ n) (h1 : n ≤ 64) : Says (room_ok.f k l n) (S.ok l = true ∧ S.below l n = true) := by
  unfold room_ok.f
  rw [S.May_eq (by omega) (by omega)]
  simp only [Option.bind_some]
  by_cases c : S.ok l = true
  · rw [if_pos c]
    obtain ⟨x, ex, hx⟩ := S.Make_set (k := k) (by omega) (by omega) c
    obtain ⟨y, ey, hy⟩ := S.To_set h0 h1
    rw [ex, ey]
    simp only [Option.bind_some]
    refine Says.iff says_bool ?_
    rw [beq_iff_eq, (hx.andn hy).zero_iff]
    refine ⟨fun g => ⟨c, S.below_iff.2 fun i hi hm => ?_⟩, fun g i hi => ?_⟩
    · have := g i hi
      simp only [hm, Bool.true_and, Bool.not_eq_false', decide_eq_true_eq] at this
      exact this
    · cases hm : S.mem l i
      · rfl
      · simp [S.below_iff.1 g.2 i hi hm]
  · rw [if_neg c]
    exact ⟨fun g => absurd g.1 c, fun _ => rfl⟩
structure DevOk (d : Device) : Prop where
  id : 1 ≤ d.ID ∧ d.ID ≤ 40
  size : 1 ≤ d.Size ∧ d.Size ≤ 64
  free : S.ok d.Free = true ∧ S.below d.Free d.Size = true
  late : S.ok d.Late = true ∧ S.below d.Late d.Size = true
  dis : ∀ i, i < 64 → (S.mem d.Free i && S.mem d.Late i) = false
theorem room_Device_says {d : Device} {k : Nat} (hf : d.Free.length ≤ 1000) (hg : d.Late.length ≤ 1000) (hk : 1000 < k) : Says (room_Device.f k d) (DevOk d) := by
  unfold room_Device.f
  by_cases a1 : 1 ≤ d.ID
  rw [if_pos a1]
  by_cases a2 : d.ID ≤ 40
  rw [if_pos a2]
  by_cases a3 : 1 ≤ d.Size
  rw [if_pos a3]
  by_cases a4 : d.Size ≤ 64
  rw [if_pos a4]
  have q1 := room_ok_eq (k := k) (n := d.Size) hf hk (by omega) a4
  have q2 := room_ok_eq (k := k) (n := d.Size) hg hk (by omega) a4
  by_cases a5 : S.ok d.Free = true ∧ S.below d.Free d.Size = true
  rw [q1.1 a5]
  simp only [Option.bind_some, if_true]
  by_cases a6 : S.ok d.Late = true ∧ S.below d.Late d.Size = true
  rw [q2.1 a6]
  simp only [Option.bind_some, if_true]
  obtain ⟨x, ex, hx⟩ := S.Make_set (k := k) (by omega) (by omega) a5.1
  obtain ⟨y, ey, hy⟩ := S.Make_set (k := k) (by omega) (by omega) a6.1
  rw [ex, ey]
  simp only [Option.bind_some]
  refine Says.iff says_bool ?_
  rw [beq_iff_eq, (hx.and hy).zero_iff]
  exact ⟨fun g => ⟨⟨a1, a2⟩, ⟨a3, a4⟩, a5, a6, g⟩, fun g => g.dis⟩
  · rw [q2.2 a6]; exact ⟨fun g => absurd g.late a6, fun _ => rfl⟩
  · rw [q1.2 a5]; exact ⟨fun g => absurd g.free a5, fun _ => rfl⟩
  · rw [if_neg a4]; exact ⟨fun g => absurd g.size.2 a4, fun _ => rfl⟩
  · rw [if_neg a3]; exact ⟨fun g => absurd g.size.1 a3, fun _ => rfl⟩
  · rw [if_neg a2]; exact ⟨fun g => absurd g.id.2 a2, fun _ => rfl⟩
  · rw [if_neg a1]; exact ⟨fun g => absurd g.id.1 a1, fun _ => rfl⟩
def DevsOk (l : List Device) : Prop := l.length ≤ 6 ∧ ∀ j : Nat, 0 ≤ j → j < l.length → DevOk (rd l (j : Int)) ∧ (0 < j → (rd l ((j - 1 : Nat) : Int)).ID < (rd l (j : Int)).ID)
def DevsIn (l : List Device) : Prop := ∀ d ∈ l, d.Free.length ≤ 1000 ∧ d.Late.length ≤ 1000
theorem rd_mem {α : Type} [Inhabited α] {l : List α} {i : Nat} (h : i < l.length) : rd l (i : Int) ∈ l := by rw [rd_nat h]; exact List.getElem_mem h
theorem room_May_says {l : List Device} {k : Nat} (hk : 1000 < k) (hl : DevsIn l) : Says (room_May.f k l) (DevsOk l) := by
  unfold room_May.f
  by_cases c : 6 < (l.length : Int)
  · rw [if_pos c]; exact ⟨fun g => by have := g.1; omega, fun _ => rfl⟩
  rw [if_neg c]
  have := loop_says (f := room_May.l0 l k) (len := l.length) (E := some true) (F := some false) (P := fun j => DevOk (rd l (j : Int)) ∧ (0 < j → (rd l ((j - 1 : Nat) : Int)).ID < (rd l (j : Int)).ID)) ?_ ?_ ?_ k 0 (by omega) (by omega)
  · refine ⟨fun g => this.1 fun j hj hl => g.2 j hj hl, fun g => this.2 fun a => g ⟨by omega, a⟩⟩
  · intro n i hi hp
    have hd := hl _ (rd_mem hi)
    rw [room_May.l0]
    rw [if_pos (by omega), if_pos (by omega), (room_Device_says hd.1 hd.2 hk).1 hp.1]
    simp only [Option.bind_some, if_true]
    rcases Nat.eq_zero_or_pos i with z | z
    · rw [if_neg (by omega)]
      unfold room_May.j0
      rw [if_neg (by simp), w64_succ hi (by omega)]
    · rw [if_pos (by omega), w64_pred z (Nat.le_of_lt hi) (by omega), if_pos (by omega)]
      unfold room_May.j0
      have := hp.2 z
      rw [if_neg (by simp only [decide_eq_true_eq]; omega), w64_succ hi (by omega)]
  · intro n i hi hp
    have hd := hl _ (rd_mem hi)
    rw [room_May.l0]
    rw [if_pos (by omega), if_pos (by omega)]
    by_cases d : DevOk (rd l (i : Int))
    · rw [(room_Device_says hd.1 hd.2 hk).1 d]
      simp only [Option.bind_some, if_true]
      have hp2 : ¬ (0 < i → (rd l ((i - 1 : Nat) : Int)).ID < (rd l (i : Int)).ID) := fun g => hp ⟨d, g⟩
      have z : 0 < i := by
        rcases Nat.eq_zero_or_pos i with z | z
        · exact absurd (fun h => by omega) hp2
        · exact z
      have q : ¬ (rd l ((i - 1 : Nat) : Int)).ID < (rd l (i : Int)).ID := fun g => hp2 fun _ => g
      rw [if_pos (by omega), w64_pred z (Nat.le_of_lt hi) (by omega), if_pos (by omega)]
      unfold room_May.j0
      rw [if_pos (by simp only [decide_eq_true_eq]; omega)]
    · rw [(room_Device_says hd.1 hd.2 hk).2 d]
      simp only [Option.bind_some]
      rw [if_neg (by simp)]
      unfold room_May.j0
      rw [if_pos rfl]
  · intro n
    unfold room_May.l0
    rw [if_neg (by omega)]
theorem asc_all {g : Nat → Int} {n : Nat} (h : ∀ j : Nat, j < n → 0 < j → g (j - 1) < g j) : ∀ (d i j : Nat), j = i + d + 1 → j < n → g i < g j
  | 0, i, j, e, hj => by have := h j hj (by omega); rwa [show j - 1 = i by omega] at this
  | d + 1, i, j, e, hj => by
    have a := asc_all h d i (j - 1) (by omega) (by omega)
    have b := h j hj (by omega)
    omega
theorem asc_lt {g : Nat → Int} {n : Nat} (h : ∀ j : Nat, j < n → 0 < j → g (j - 1) < g j) {i j : Nat} (hij : i < j) (hj : j < n) : g i < g j := asc_all h (j - i - 1) i j (by omega) hj
theorem asc_inj {g : Nat → Int} {n : Nat} (h : ∀ j : Nat, j < n → 0 < j → g (j - 1) < g j) {i j : Nat} (hi : i < n) (hj : j < n) (e : g i = g j) : i = j := by
  rcases Nat.lt_trichotomy i j with c | c | c
  · have := asc_lt h c hj; omega
  · exact c
  · have := asc_lt h c hi; omega
theorem mid_eq {a b : Nat} (ha : a ≤ 1000) (hb : b ≤ 1000) : w64 ((wu64 (w64 ((a : Int) + b))).fdiv (2 ^ min (1 : Int).toNat 64)) = (((a + b) / 2 : Nat) : Int) := by
  have e0 : w64 ((a : Int) + b) = (a : Int) + b := w64_id (by omega) (by omega)
  rw [e0, wu64_id (by omega) (by omega)]
  have : ((2 : Int) ^ min (1 : Int).toNat 64) = 2 := by decide
  rw [this, Int.fdiv_eq_ediv_of_nonneg _ (by omega)]
  rw [w64_id (by omega) (by omega)]
  omega
/-- The place of a number among rising numbers. -/
def Spot (g : Nat → Int) (n : Nat) (id : Int) (o : Option (Int × Bool)) : Prop :=
  (∃ m : Nat, m < n ∧ g m = id ∧ o = some ((m : Int), true)) ∨ ((∀ m, m < n → g m ≠ id) ∧ ∃ m : Nat, o = some ((m : Int), false))
theorem w64_zero {x : Int} (h : w64 x = 0) : x % 18446744073709551616 = 0 := by
  have hk : IntKind.i64.wrap x = if x % 18446744073709551616 ≥ 9223372036854775808 then x % 18446744073709551616 - 18446744073709551616 else x % 18446744073709551616 := by
    simp [IntKind.wrap, IntKind.bits, IntKind.signed]
  have : w64 x = IntKind.i64.wrap x := rfl
  rw [this, hk] at h
  split at h <;> omega
theorem room_Find_l0 {l : List Device} (hl : l.length ≤ 1000) (hb : ∀ j : Nat, j < l.length → 0 ≤ (rd l (j : Int)).ID ∧ (rd l (j : Int)).ID ≤ 1000) (ha : ∀ j : Nat, j < l.length → 0 < j → (rd l ((j - 1 : Nat) : Int)).ID < (rd l (j : Int)).ID) {id : Int} (i0 : -9223372036854775808 ≤ id) (i1 : id < 9223372036854775808) :
    ∀ (n lo hi : Nat), lo ≤ hi → hi ≤ l.length → hi - lo < n → (∀ m : Nat, m < l.length → (rd l (m : Int)).ID = id → lo ≤ m ∧ m ≤ hi) → Spot (fun m => (rd l (m : Int)).ID) l.length id (room_Find.l0 l id n lo hi)
  | 0, lo, hi, _, _, h, _ => by omega
  | n + 1, lo, hi, h1, h2, hn, hm => by
    unfold room_Find.l0
    by_cases c : lo < hi
    · rw [if_pos (by omega), mid_eq (by omega) (by omega), if_pos (by omega)]
      unfold room_Find_1.f
      simp only [Option.bind_some]
      have hj : (lo + hi) / 2 < l.length := by omega
      by_cases d : w64 ((rd l (((lo + hi) / 2 : Nat) : Int)).ID - id) < 0
      · rw [if_pos d, w64_succ hj (by omega)]
        refine room_Find_l0 hl hb ha i0 i1 n _ hi (by omega) h2 (by omega) fun m hml e => ?_
        have q := hm m hml e
        refine ⟨?_, q.2⟩
        have b1 := hb m hml
        have b2 := hb _ hj
        rw [w64_id (by omega) (by omega)] at d
        rcases Nat.lt_or_ge ((lo + hi) / 2) m with z | z
        · omega
        · exfalso
          rcases Nat.lt_or_ge m ((lo + hi) / 2) with y | y
          · have := asc_lt (g := fun j => (rd l (j : Int)).ID) ha y hj
            omega
          · have : m = (lo + hi) / 2 := by omega
            subst this
            omega
      · rw [if_neg d]
        refine room_Find_l0 hl hb ha i0 i1 n lo _ (by omega) (by omega) (by omega) fun m hml e => ?_
        have q := hm m hml e
        refine ⟨q.1, ?_⟩
        have b1 := hb m hml
        have b2 := hb _ hj
        rw [w64_id (by omega) (by omega)] at d
        rcases Nat.lt_or_ge ((lo + hi) / 2) m with z | z
        · exfalso
          have := asc_lt (g := fun j => (rd l (j : Int)).ID) ha z hml
          omega
        · omega
    · have e : hi = lo := by omega
      subst e
      rw [if_neg (by omega)]
      by_cases f : hi < l.length
      · rw [if_pos (by omega), if_pos (by omega)]
        unfold room_Find_1.f room_Find.j0
        simp only [Option.bind_some]
        by_cases g : (rd l (hi : Int)).ID = id
        · refine .inl ⟨hi, f, g, ?_⟩
          rw [g, Int.sub_self]
          rfl
        · refine .inr ⟨fun m hml e => g ?_, hi, ?_⟩
          · have := hm m hml e
            have : m = hi := by omega
            rw [← this]; exact e
          · have : ¬ w64 ((rd l (hi : Int)).ID - id) = 0 := fun z => by
              have z := w64_zero z
              have := hb hi f
              omega
            simp [this]
      · rw [if_neg (by omega)]
        refine .inr ⟨fun m hml e => ?_, hi, rfl⟩
        have := hm m hml e
        omega
theorem room_Find_spot {l : List Device} {k : Nat} (hk : 1000 < k) (h : DevsOk l) {id : Int} (i0 : -9223372036854775808 ≤ id) (i1 : id < 9223372036854775808) : Spot (fun m => (rd l (m : Int)).ID) l.length id (room_Find.f k l id) := by
  have := h.1
  exact room_Find_l0 (by omega) (fun j hj => by have := (h.2 j (by omega) hj).1.id; omega) (fun j hj z => (h.2 j (by omega) hj).2 z) i0 i1 k 0 l.length (by omega) (by omega) (by omega) fun m hm _ => ⟨by omega, by omega⟩
end Go.Proofs.YtnaajldlloglkaaDoor.W
