/- Plain facts; lines of the claims before, printed by mkfacts.py. -/
import Derived.Test.YtnaajldlloglkaaDoorRoomS3
set_option linter.unusedVariables false
set_option linter.unusedSimpArgs false
namespace Go.Proofs.YtnaajldlloglkaaDoor.W.S
open Go.H
theorem and_bytes {a b c d : Nat} (hb : b < 256) (hd : d < 256) : (256 * a + b) &&& (256 * c + d) = 256 * (a &&& c) + (b &&& d) := by
  have hbd : b &&& d < 2 ^ 8 := Nat.and_lt_two_pow _ (by omega)
  apply Nat.eq_of_testBit_eq
  intro j
  rw [Nat.testBit_and, show (256 : Nat) = 2 ^ 8 from rfl, Nat.testBit_two_pow_mul_add _ (by omega), Nat.testBit_two_pow_mul_add _ (by omega), Nat.testBit_two_pow_mul_add _ hbd]
  split
  · rw [Nat.testBit_and]
  · rw [Nat.testBit_and]
def pop8 (r : Nat) : Nat := ((List.range 8).filter fun i => r.testBit i).length
theorem low1 : ∀ r : Fin 256, ∀ q : Fin 2, (r.val / 2 + 128 * q.val) &&& 85 = (r.val / 2) &&& 85 := by decide +kernel
theorem low2 : ∀ r : Fin 256, ∀ q : Fin 4, (r.val / 4 + 64 * q.val) &&& 51 = (r.val / 4) &&& 51 := by decide +kernel
theorem all8 : ∀ r : Fin 256, ((r.val / 2 &&& 85) + (r.val &&& 85) < 256) ∧ ((((r.val / 2 &&& 85) + (r.val &&& 85)) / 4 &&& 51) + (((r.val / 2 &&& 85) + (r.val &&& 85)) &&& 51) ≤ 68) := by decide +kernel
def rep (d : Nat) : Nat → Nat
  | 0 => 0
  | k + 1 => 256 * rep d k + d
def S1 (k n : Nat) : Nat := (n / 2 &&& rep 85 k) + (n &&& rep 85 k)
def S2 (k n : Nat) : Nat := (n / 4 &&& rep 51 k) + (n &&& rep 51 k)
def S3 (k n : Nat) : Nat := (n / 16 + n) &&& rep 15 k
def g1 (r : Nat) : Nat := (r / 2 &&& 85) + (r &&& 85)
def g2 (r : Nat) : Nat := (r / 4 &&& 51) + (r &&& 51)
theorem g_all : ∀ r : Fin 256, g1 r.val < 256 ∧ g2 (g1 r.val) ≤ 68 ∧ g2 (g1 r.val) % 16 ≤ 4 := by decide +kernel
theorem g_pop : ∀ r : Fin 256, ∀ t : Fin 5, (g2 (g1 r.val) / 16 + g2 (g1 r.val) + 16 * t.val) &&& 15 = pop8 r.val := by decide +kernel
theorem S1_step {k q r : Nat} (hr : r < 256) : S1 (k + 1) (256 * q + r) = 256 * S1 k q + g1 r := by
  have e : (256 * q + r) / 2 = 256 * (q / 2) + (r / 2 + 128 * (q % 2)) := by omega
  have h1 := low1 ⟨r, hr⟩ ⟨q % 2, by omega⟩
  simp only at h1
  unfold S1 g1
  rw [show rep 85 (k + 1) = 256 * rep 85 k + 85 from rfl, e, and_bytes (by omega) (by omega), and_bytes hr (by omega), h1]
  omega
theorem S2_step {k q r : Nat} (hr : r < 256) : S2 (k + 1) (256 * q + r) = 256 * S2 k q + g2 r := by
  have e : (256 * q + r) / 4 = 256 * (q / 4) + (r / 4 + 64 * (q % 4)) := by omega
  have h1 := low2 ⟨r, hr⟩ ⟨q % 4, by omega⟩
  simp only at h1
  unfold S2 g2
  rw [show rep 51 (k + 1) = 256 * rep 51 k + 51 from rfl, e, and_bytes (by omega) (by omega), and_bytes hr (by omega), h1]
  omega
def T (k n : Nat) : Nat := S3 k (S2 k (S1 k n))
theorem S_low (k n : Nat) : S2 k (S1 k n) % 16 ≤ 4 := by
  cases k with
  | zero => simp [S2, rep]
  | succ k =>
    have e : n = 256 * (n / 256) + n % 256 := by omega
    have hr : n % 256 < 256 := by omega
    have hg := g_all ⟨n % 256, hr⟩
    simp only at hg
    rw [e, S1_step hr, S2_step hg.1]
    omega
theorem T_step {k q r : Nat} (hr : r < 256) : T (k + 1) (256 * q + r) = 256 * T k q + pop8 r := by
  have hg := g_all ⟨r, hr⟩
  simp only at hg
  have hl := S_low k q
  have hp := g_pop ⟨r, hr⟩ ⟨S2 k (S1 k q) % 16, by omega⟩
  simp only at hp
  unfold T
  rw [S1_step hr, S2_step hg.1]
  unfold S3
  rw [show rep 15 (k + 1) = 256 * rep 15 k + 15 from rfl]
  generalize S2 k (S1 k q) = B at *
  have e : (256 * B + g2 (g1 r)) / 16 + (256 * B + g2 (g1 r)) = 256 * (B / 16 + B) + (g2 (g1 r) / 16 + g2 (g1 r) + 16 * (B % 16)) := by omega
  rw [e, and_bytes (by omega) (by omega), hp]
theorem T_zero (n : Nat) : T 0 n = 0 := by simp [T, S3, rep]
theorem T_byte (k n : Nat) : T (k + 1) n = 256 * T k (n / 256) + pop8 (n % 256) := by
  have e : n = 256 * (n / 256) + n % 256 := by omega
  have := T_step (k := k) (q := n / 256) (r := n % 256) (by omega)
  rw [← e] at this
  exact this
theorem pop8_le (r : Nat) : pop8 r ≤ 8 := by
  unfold pop8
  refine Nat.le_trans (List.length_filter_le _ _) ?_
  simp
/-- How many of eight sectors from lo on. -/
def cnt (b : Nat → Bool) (lo : Nat) : Nat := ((List.range' lo 8).filter b).length
theorem cnt_pop {n lo : Nat} : cnt (fun i => n.testBit i) lo = pop8 (n / 2 ^ lo % 256) := by
  unfold cnt pop8
  rw [List.range'_eq_map_range, List.filter_map, List.length_map]
  congr 1
  apply List.filter_congr
  intro j hj
  have hj8 : j < 8 := List.mem_range.1 hj
  rw [show (256 : Nat) = 2 ^ 8 from rfl, Nat.testBit_mod_two_pow, Nat.testBit_div_two_pow]
  simp [hj8, Nat.add_comm]
theorem sec_cnt (b : Nat → Bool) : (secFrom 0 b).length = cnt b 0 + cnt b 8 + cnt b 16 + cnt b 24 + cnt b 32 + cnt b 40 + cnt b 48 + cnt b 56 := by
  have e : List.range' 0 (64 - 0) = List.range' 0 8 ++ List.range' 8 8 ++ List.range' 16 8 ++ List.range' 24 8 ++ List.range' 32 8 ++ List.range' 40 8 ++ List.range' 48 8 ++ List.range' 56 8 := by decide +kernel
  unfold secFrom cnt
  rw [e]
  simp only [List.filter_append, List.length_append]
theorem fdiv_pow (n j : Nat) (hj : j ≤ 64) : ((n : Nat) : Int).fdiv (2 ^ min ((j : Nat) : Int).toNat 64) = ((n / 2 ^ j : Nat) : Int) := by
  rw [Int.toNat_natCast, Nat.min_eq_left hj, Int.fdiv_eq_ediv_of_nonneg _ (Int.pow_nonneg (by decide))]
  simp
theorem uand_n {a b : Nat} (ha : a < 18446744073709551616) (hb : b < 18446744073709551616) : uand (a : Int) (b : Int) = ((a &&& b : Nat) : Int) := by
  rw [uand_nat (by omega) (by omega) (by omega) (by omega)]
  simp
theorem and_le_r (a b : Nat) : a &&& b ≤ b := Nat.and_le_right
theorem T8_sum (n : Nat) : ∃ p0 p1 p2 p3 p4 p5 p6 p7 : Nat, p0 ≤ 8 ∧ p1 ≤ 8 ∧ p2 ≤ 8 ∧ p3 ≤ 8 ∧ p4 ≤ 8 ∧ p5 ≤ 8 ∧ p6 ≤ 8 ∧ p7 ≤ 8 ∧
    T 8 n = p0 + 256 * p1 + 65536 * p2 + 16777216 * p3 + 4294967296 * p4 + 1099511627776 * p5 + 281474976710656 * p6 + 72057594037927936 * p7 ∧ (secFrom 0 fun i => n.testBit i).length = p0 + p1 + p2 + p3 + p4 + p5 + p6 + p7 := by
  refine ⟨_, _, _, _, _, _, _, _, pop8_le (n / 2 ^ 0 % 256), pop8_le (n / 2 ^ 8 % 256), pop8_le (n / 2 ^ 16 % 256), pop8_le (n / 2 ^ 24 % 256), pop8_le (n / 2 ^ 32 % 256), pop8_le (n / 2 ^ 40 % 256), pop8_le (n / 2 ^ 48 % 256), pop8_le (n / 2 ^ 56 % 256), ?_, ?_⟩
  · rw [T_byte, T_byte, T_byte, T_byte, T_byte, T_byte, T_byte, T_byte, T_zero]
    simp only [Nat.div_div_eq_div_mul]
    simp only [show (2 : Nat) ^ 0 = 1 from rfl, show (2 : Nat) ^ 8 = 256 from rfl, show (2 : Nat) ^ 16 = 256 * 256 from rfl, show (2 : Nat) ^ 24 = 256 * 256 * 256 from rfl, show (2 : Nat) ^ 32 = 256 * 256 * 256 * 256 from rfl, show (2 : Nat) ^ 40 = 256 * 256 * 256 * 256 * 256 from rfl, show (2 : Nat) ^ 48 = 256 * 256 * 256 * 256 * 256 * 256 from rfl, show (2 : Nat) ^ 56 = 256 * 256 * 256 * 256 * 256 * 256 * 256 from rfl, Nat.div_one]
    omega
  · rw [sec_cnt, cnt_pop, cnt_pop, cnt_pop, cnt_pop, cnt_pop, cnt_pop, cnt_pop, cnt_pop]
theorem rep85 : rep 85 8 = 6148914691236517205 := by decide
theorem rep51 : rep 51 8 = 3689348814741910323 := by decide
theorem rep15 : rep 15 8 = 1085102592571150095 := by decide
theorem iand_127 {x : Nat} (hx : x < 9223372036854775808) : iand (x : Int) 127 = ((x % 128 : Nat) : Int) := by
  have h1 : (BitVec.ofInt 64 (x : Int)).toNat = x := by simp; omega
  have h2 : (BitVec.ofInt 64 127).toNat = 127 := by decide
  show IntKind.i64.wrap ((BitVec.ofInt 64 (x : Int) &&& BitVec.ofInt 64 127).toNat : Int) = _
  rw [BitVec.toNat_and, h1, h2, show (127 : Nat) = 2 ^ 7 - 1 from rfl, Nat.and_two_pow_sub_one_eq_mod]
  exact w64_id (by omega) (by omega)
theorem digits {p0 p1 p2 p3 p4 p5 p6 p7 c d : Nat} (h0 : p0 ≤ 8) (h1 : p1 ≤ 8) (h2 : p2 ≤ 8) (h3 : p3 ≤ 8) (h4 : p4 ≤ 8) (h5 : p5 ≤ 8) (h6 : p6 ≤ 8) (h7 : p7 ≤ 8)
    (eT : c = p0 + 256 * p1 + 65536 * p2 + 16777216 * p3 + 4294967296 * p4 + 1099511627776 * p5 + 281474976710656 * p6 + 72057594037927936 * p7) (hd : (c + c / 256) + (c + c / 256) / 65536 = d) : (d + d / 4294967296) % 128 = p0 + p1 + p2 + p3 + p4 + p5 + p6 + p7 := by
  have e1 : c / 256 = p1 + 256 * p2 + 65536 * p3 + 16777216 * p4 + 4294967296 * p5 + 1099511627776 * p6 + 281474976710656 * p7 := by omega
  have e2 : c + c / 256 = (p0 + p1) + 256 * (p1 + p2) + 65536 * (p2 + p3) + 16777216 * (p3 + p4) + 4294967296 * (p4 + p5) + 1099511627776 * (p5 + p6) + 281474976710656 * (p6 + p7) + 72057594037927936 * p7 := by rw [e1, eT]; omega
  have e3 : (c + c / 256) / 65536 = (p2 + p3) + 256 * (p3 + p4) + 65536 * (p4 + p5) + 16777216 * (p5 + p6) + 4294967296 * (p6 + p7) + 1099511627776 * p7 := by rw [e2]; omega
  have e4 : d = (p0 + p1 + p2 + p3) + 256 * (p1 + p2 + p3 + p4) + 65536 * (p2 + p3 + p4 + p5) + 16777216 * (p3 + p4 + p5 + p6) + 4294967296 * (p4 + p5 + p6 + p7) + 1099511627776 * (p5 + p6 + p7) + 281474976710656 * (p6 + p7) + 72057594037927936 * p7 := by rw [← hd, e3, e2]; omega
  clear e1 e2 e3 hd eT
  have e5 : d / 4294967296 = (p4 + p5 + p6 + p7) + 256 * (p5 + p6 + p7) + 65536 * (p6 + p7) + 16777216 * p7 := by omega
  rw [e5]
  omega
theorem Ones_nat {n : Nat} (hn : n < 18446744073709551616) : math_bits_OnesCount64.f (n : Int) = some (((secFrom 0 fun i => n.testBit i).length : Nat) : Int) := by
  have f1 : ∀ a : Nat, (a : Int).fdiv (2 ^ min (1 : Int).toNat 64) = ((a / 2 : Nat) : Int) := fun a => fdiv_pow a 1 (by omega)
  have f2 : ∀ a : Nat, (a : Int).fdiv (2 ^ min (2 : Int).toNat 64) = ((a / 4 : Nat) : Int) := fun a => fdiv_pow a 2 (by omega)
  have f4 : ∀ a : Nat, (a : Int).fdiv (2 ^ min (4 : Int).toNat 64) = ((a / 16 : Nat) : Int) := fun a => fdiv_pow a 4 (by omega)
  have f8 : ∀ a : Nat, (a : Int).fdiv (2 ^ min (8 : Int).toNat 64) = ((a / 256 : Nat) : Int) := fun a => fdiv_pow a 8 (by omega)
  have f16 : ∀ a : Nat, (a : Int).fdiv (2 ^ min (16 : Int).toNat 64) = ((a / 65536 : Nat) : Int) := fun a => fdiv_pow a 16 (by omega)
  have f32 : ∀ a : Nat, (a : Int).fdiv (2 ^ min (32 : Int).toNat 64) = ((a / 4294967296 : Nat) : Int) := fun a => fdiv_pow a 32 (by omega)
  have m1 : ∀ a : Nat, a < 18446744073709551616 → uand (a : Int) 6148914691236517205 = ((a &&& 6148914691236517205 : Nat) : Int) := fun a ha => uand_n ha (by decide)
  have m2 : ∀ a : Nat, a < 18446744073709551616 → uand (a : Int) 3689348814741910323 = ((a &&& 3689348814741910323 : Nat) : Int) := fun a ha => uand_n ha (by decide)
  have m4 : ∀ a : Nat, a < 18446744073709551616 → uand (a : Int) 1085102592571150095 = ((a &&& 1085102592571150095 : Nat) : Int) := fun a ha => uand_n ha (by decide)
  have add : ∀ a b : Nat, a + b < 18446744073709551616 → wu64 ((a : Int) + (b : Int)) = ((a + b : Nat) : Int) := fun a b h => by rw [wu64_id (by omega) (by omega)]; omega
  have b1 := and_le_r (n / 2) 6148914691236517205
  have b2 := and_le_r n 6148914691236517205
  have e1 : wu64 ((uand ((n : Int).fdiv (2 ^ min (1 : Int).toNat 64)) 6148914691236517205) + (uand (n : Int) 6148914691236517205)) = ((S1 8 n : Nat) : Int) := by
    rw [f1, m1 _ (by omega), m1 _ hn, add _ _ (by omega)]
    unfold S1
    rw [rep85]
  have hs1 : S1 8 n < 18446744073709551616 := by unfold S1; rw [rep85]; omega
  have c1 := and_le_r (S1 8 n / 4) 3689348814741910323
  have c2 := and_le_r (S1 8 n) 3689348814741910323
  have e2 : wu64 ((uand (((S1 8 n : Nat) : Int).fdiv (2 ^ min (2 : Int).toNat 64)) 3689348814741910323) + (uand ((S1 8 n : Nat) : Int) 3689348814741910323)) = ((S2 8 (S1 8 n) : Nat) : Int) := by
    rw [f2, m2 _ (by omega), m2 _ hs1, add _ _ (by omega)]
    unfold S2
    rw [rep51]
  have hs2 : S2 8 (S1 8 n) ≤ 7378697629483820646 := by unfold S2; rw [rep51]; omega
  have e3 : uand (wu64 ((((S2 8 (S1 8 n) : Nat) : Int).fdiv (2 ^ min (4 : Int).toNat 64)) + ((S2 8 (S1 8 n) : Nat) : Int))) 1085102592571150095 = ((T 8 n : Nat) : Int) := by
    rw [f4, add _ _ (by omega), m4 _ (by omega)]
    unfold T S3
    rw [rep15]
  obtain ⟨p0, p1, p2, p3, p4, p5, p6, p7, h0, h1, h2, h3, h4, h5, h6, h7, eT, eS⟩ := T8_sum n
  unfold math_bits_OnesCount64.f
  simp only [e1, e2, e3]
  generalize T 8 n = c at *
  have hc : c < 1157442765409226769 := by omega
  have g1 : wu64 ((c : Int) + (c : Int).fdiv (2 ^ min (8 : Int).toNat 64)) = ((c + c / 256 : Nat) : Int) := by rw [f8, add _ _ (by omega)]
  have g2 : wu64 (((c + c / 256 : Nat) : Int) + ((c + c / 256 : Nat) : Int).fdiv (2 ^ min (16 : Int).toNat 64)) = (((c + c / 256) + (c + c / 256) / 65536 : Nat) : Int) := by rw [f16, add _ _ (by omega)]
  simp only [g1, g2]
  generalize hd : (c + c / 256) + (c + c / 256) / 65536 = d at *
  have hd2 : d < 1162000000000000000 := by omega
  have g3 : wu64 ((d : Int) + (d : Int).fdiv (2 ^ min (32 : Int).toNat 64)) = ((d + d / 4294967296 : Nat) : Int) := by rw [f32, add _ _ (by omega)]
  rw [g3, eS]
  have g4 : w64 ((d + d / 4294967296 : Nat) : Int) = ((d + d / 4294967296 : Nat) : Int) := w64_id (by omega) (by omega)
  rw [g4, iand_127 (by omega), digits h0 h1 h2 h3 h4 h5 h6 h7 eT hd]
theorem Count_eq {x : Int} {b : Nat → Bool} (hx : IsSet x b) : seg_Set_Count.f x = some (((secFrom 0 b).length : Nat) : Int) := by
  obtain ⟨x0, x1, x2⟩ := hx
  obtain ⟨n, rfl⟩ := Int.eq_ofNat_of_zero_le x0
  unfold seg_Set_Count.f
  rw [Ones_nat (by omega)]
  simp only [Option.bind_some]
  have e : secFrom 0 (fun i => n.testBit i) = secFrom 0 b := secFrom_congr 64 0 rfl fun j _ hj => by have := x2 j hj; rwa [Int.toNat_natCast] at this
  rw [e]
theorem IsSet.zero_iff {x : Int} {b : Nat → Bool} (hx : IsSet x b) : x = 0 ↔ ∀ i, i < 64 → b i = false := by
  constructor
  · rintro rfl i hi
    rw [← hx.bit i hi]
    simp
  · intro h
    exact IsSet.eq hx (IsSet.zero.congr fun i hi => (h i hi).symm)
/-- All sectors of l stand below n. -/
def below (l : List Seg) (n : Int) : Bool := (List.range 64).all fun i => !mem l i || decide ((i : Int) < n)
theorem below_iff {l : List Seg} {n : Int} : below l n = true ↔ ∀ i, i < 64 → mem l i = true → (i : Int) < n := by
  unfold below
  rw [List.all_eq_true]
  constructor
  · intro h i hi hm
    have := h i (List.mem_range.2 hi)
    rw [hm] at this
    simpa using this
  · intro h i hi
    have hi' := List.mem_range.1 hi
    cases hm : mem l i with
    | false => rfl
    | true => simpa using h i hi' hm
theorem segsOf_none : segsOf (fun _ => false) = [] := by decide +kernel
theorem sec_below : ∀ n : Fin 65, (secFrom 0 fun i => decide ((i : Int) < (n.val : Int))).length = n.val := by decide +kernel
def inNum (n : Int) : Bool := decide (0 ≤ n) && decide (n < 64)
theorem inNum_iff {n : Int} : inNum n = true ↔ 0 ≤ n ∧ n < 64 := by simp [inNum]
theorem One_set {n : Int} (h0 : 0 ≤ n) (h1 : n < 64) : ∃ x, seg_One.f n = some x ∧ IsSet x fun i => decide ((i : Int) = n) := by
  unfold seg_One.f
  rw [if_pos h0]
  obtain ⟨m, rfl⟩ := Int.eq_ofNat_of_zero_le h0
  have hm : m < 64 := by omega
  have hp : 2 ^ m < 2 ^ 64 := Nat.pow_lt_pow_right (by omega) hm
  have hp0 : 0 < 2 ^ m := Nat.two_pow_pos m
  have e1 : (1 * 2 ^ min (m : Int).toNat 64 : Int) = ((2 ^ m : Nat) : Int) := by
    rw [Int.toNat_natCast, Nat.min_eq_left (by omega)]
    simp
  have e2 : wu64 (1 * 2 ^ min (m : Int).toNat 64 : Int) = ((2 ^ m : Nat) : Int) := by rw [e1]; exact wu64_id (by omega) (by omega)
  refine ⟨_, rfl, ?_⟩
  rw [e2]
  refine ⟨by omega, by omega, fun i hi => ?_⟩
  rw [Int.toNat_natCast, Nat.testBit_two_pow]
  rw [Bool.eq_iff_iff]
  simp
  omega
theorem sec_split {b c : Nat → Bool} (lo : Nat) : (secFrom lo fun i => b i && !c i).length + (secFrom lo fun i => b i && c i).length = (secFrom lo b).length := by
  unfold secFrom
  induction List.range' lo (64 - lo) with
  | nil => rfl
  | cons a r ih =>
    rw [List.filter_cons, List.filter_cons, List.filter_cons]
    cases b a <;> cases c a <;> simp <;> omega
theorem mem_sec {b : Nat → Bool} {t : Nat} (ht : t < 64) : decide ((t : Int) ∈ (secFrom 0 b).map fun (i : Nat) => (i : Int)) = b t := by
  rw [Bool.eq_iff_iff, decide_eq_true_iff, List.mem_map]
  unfold secFrom
  constructor
  · rintro ⟨a, ha, e⟩
    obtain rfl : a = t := by omega
    exact (List.mem_filter.1 ha).2
  · intro h
    refine ⟨t, List.mem_filter.2 ⟨List.mem_range'_1.2 ⟨by omega, by omega⟩, h⟩, rfl⟩
theorem SetHas_eq {x : Int} {b : Nat → Bool} {n : Int} (hx : IsSet x b) : seg_Set_Has.f x n = some (inNum n && b n.toNat) := by
  unfold seg_Set_Has.f inNum
  by_cases h0 : 0 ≤ n
  · rw [if_pos h0, decide_eq_true h0]
    by_cases h1 : n < 64
    · rw [if_pos h1, decide_eq_true h1]
      obtain ⟨y, e, hy⟩ := One_set h0 h1
      rw [e]
      simp only [Option.bind_some, Bool.true_and]
      have hz := hx.and hy
      cases hb : b n.toNat with
      | true =>
        rw [bne_t fun e => ?_]
        have := hz.zero_iff.1 e n.toNat (by omega)
        rw [hb] at this
        simp at this
        omega
      | false =>
        rw [bne_f (hz.zero_iff.2 fun i hi => ?_)]
        by_cases e : (i : Int) = n
        · rw [show n.toNat = i by omega] at hb
          rw [hb]; rfl
        · simp [e]
    · rw [if_neg h1, decide_eq_false h1]; rfl
  · rw [if_neg h0, decide_eq_false h0]; rfl
end Go.Proofs.YtnaajldlloglkaaDoor.W.S
