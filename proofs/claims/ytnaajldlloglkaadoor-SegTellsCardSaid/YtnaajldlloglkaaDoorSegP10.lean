/- Plain facts: OnesCount64 tells how many sectors a set has. -/
import Derived.Test.YtnaajldlloglkaaDoorSegP9
set_option linter.unusedVariables false
set_option linter.unusedSimpArgs false
namespace Go.Proofs.YtnaajldlloglkaaDoor.W
open Go.H
theorem fdiv_pow (n j : Nat) (hj : j ≤ 64) : ((n : Nat) : Int).fdiv (2 ^ min ((j : Nat) : Int).toNat 64) = ((n / 2 ^ j : Nat) : Int) := by
  rw [Int.toNat_natCast, Nat.min_eq_left hj, Int.fdiv_eq_ediv_of_nonneg _ (Int.pow_nonneg (by decide))]
  simp
theorem uand_n {a b : Nat} (ha : a < 18446744073709551616) (hb : b < 18446744073709551616) : uand (a : Int) (b : Int) = ((a &&& b : Nat) : Int) := by
  rw [uand_nat (by omega) (by omega) (by omega) (by omega)]
  simp
theorem and_le_r (a b : Nat) : a &&& b ≤ b := Nat.and_le_right
theorem T8_sum (n : Nat) : ∃ p0 p1 p2 p3 p4 p5 p6 p7 : Nat, p0 ≤ 8 ∧ p1 ≤ 8 ∧ p2 ≤ 8 ∧ p3 ≤ 8 ∧ p4 ≤ 8 ∧ p5 ≤ 8 ∧ p6 ≤ 8 ∧ p7 ≤ 8 ∧
    T 8 n = p0 + 256 * p1 + 65536 * p2 + 16777216 * p3 + 4294967296 * p4 + 1099511627776 * p5 + 281474976710656 * p6 + 72057594037927936 * p7 ∧ (secFrom 0 fun i => n.testBit i).length = p0 + p1 + p2 + p3 + p4 + p5 + p6 + p7 := by
  refine ⟨_, _, _, _, _, _, _, _, pop8_le (n / 2 ^ 0 % 256), pop8_le (n / 2 ^ 8 % 256), pop8_le (n / 2 ^ 16 % 256), pop8_le (n / 2 ^ 24 % 256), pop8_le (n / 2 ^ 32 % 256), pop8_le (n / 2 ^ 40 % 256), pop8_le (n / 2 ^ 48 % 256), pop8_le (n / 2 ^ 56 % 256), ?_, ?_⟩
  · rw [T_byte, T_byte, T_byte, T_byte, T_byte, T_byte, T_byte, T_byte, T_zero]
    simp only [Nat.div_div_eq_div_mul]
    simp only [show (2 : Nat) ^ 0 = 1 from rfl, show (2 : Nat) ^ 8 = 256 from rfl, show (2 : Nat) ^ 16 = 256 * 256 from rfl, show (2 : Nat) ^ 24 = 256 * 256 * 256 from rfl, show (2 : Nat) ^ 32 = 256 * 256 * 256 * 256 from rfl, show (2 : Nat) ^ 40 = 256 * 256 * 256 * 256 * 256 from rfl, show (2 : Nat) ^ 48 = 256 * 256 * 256 * 256 * 256 * 256 from rfl, show (2 : Nat) ^ 56 = 256 * 256 * 256 * 256 * 256 * 256 * 256 from rfl, Nat.div_one]
    omega
  · rw [sec_cnt, cnt_pop, cnt_pop, cnt_pop, cnt_pop, cnt_pop, cnt_pop, cnt_pop, cnt_pop]
theorem rep85 : rep 85 8 = 6148914691236517205 := by decide
theorem rep51 : rep 51 8 = 3689348814741910323 := by decide
theorem rep15 : rep 15 8 = 1085102592571150095 := by decide
theorem iand_127 {x : Nat} (hx : x < 9223372036854775808) : iand (x : Int) 127 = ((x % 128 : Nat) : Int) := by
  have h1 : (BitVec.ofInt 64 (x : Int)).toNat = x := by simp; omega
  have h2 : (BitVec.ofInt 64 127).toNat = 127 := by decide
  show IntKind.i64.wrap ((BitVec.ofInt 64 (x : Int) &&& BitVec.ofInt 64 127).toNat : Int) = _
  rw [BitVec.toNat_and, h1, h2, show (127 : Nat) = 2 ^ 7 - 1 from rfl, Nat.and_two_pow_sub_one_eq_mod]
  exact w64_id (by omega) (by omega)
theorem digits {p0 p1 p2 p3 p4 p5 p6 p7 c d : Nat} (h0 : p0 ≤ 8) (h1 : p1 ≤ 8) (h2 : p2 ≤ 8) (h3 : p3 ≤ 8) (h4 : p4 ≤ 8) (h5 : p5 ≤ 8) (h6 : p6 ≤ 8) (h7 : p7 ≤ 8)
    (eT : c = p0 + 256 * p1 + 65536 * p2 + 16777216 * p3 + 4294967296 * p4 + 1099511627776 * p5 + 281474976710656 * p6 + 72057594037927936 * p7) (hd : (c + c / 256) + (c + c / 256) / 65536 = d) : (d + d / 4294967296) % 128 = p0 + p1 + p2 + p3 + p4 + p5 + p6 + p7 := by
  have e1 : c / 256 = p1 + 256 * p2 + 65536 * p3 + 16777216 * p4 + 4294967296 * p5 + 1099511627776 * p6 + 281474976710656 * p7 := by omega
  have e2 : c + c / 256 = (p0 + p1) + 256 * (p1 + p2) + 65536 * (p2 + p3) + 16777216 * (p3 + p4) + 4294967296 * (p4 + p5) + 1099511627776 * (p5 + p6) + 281474976710656 * (p6 + p7) + 72057594037927936 * p7 := by rw [e1, eT]; omega
  have e3 : (c + c / 256) / 65536 = (p2 + p3) + 256 * (p3 + p4) + 65536 * (p4 + p5) + 16777216 * (p5 + p6) + 4294967296 * (p6 + p7) + 1099511627776 * p7 := by rw [e2]; omega
  have e4 : d = (p0 + p1 + p2 + p3) + 256 * (p1 + p2 + p3 + p4) + 65536 * (p2 + p3 + p4 + p5) + 16777216 * (p3 + p4 + p5 + p6) + 4294967296 * (p4 + p5 + p6 + p7) + 1099511627776 * (p5 + p6 + p7) + 281474976710656 * (p6 + p7) + 72057594037927936 * p7 := by rw [← hd, e3, e2]; omega
  clear e1 e2 e3 hd eT
  have e5 : d / 4294967296 = (p4 + p5 + p6 + p7) + 256 * (p5 + p6 + p7) + 65536 * (p6 + p7) + 16777216 * p7 := by omega
  rw [e5]
  omega
theorem Ones_nat {n : Nat} (hn : n < 18446744073709551616) : math_bits_OnesCount64.f (n : Int) = some (((secFrom 0 fun i => n.testBit i).length : Nat) : Int) := by
  have f1 : ∀ a : Nat, (a : Int).fdiv (2 ^ min (1 : Int).toNat 64) = ((a / 2 : Nat) : Int) := fun a => fdiv_pow a 1 (by omega)
  have f2 : ∀ a : Nat, (a : Int).fdiv (2 ^ min (2 : Int).toNat 64) = ((a / 4 : Nat) : Int) := fun a => fdiv_pow a 2 (by omega)
  have f4 : ∀ a : Nat, (a : Int).fdiv (2 ^ min (4 : Int).toNat 64) = ((a / 16 : Nat) : Int) := fun a => fdiv_pow a 4 (by omega)
  have f8 : ∀ a : Nat, (a : Int).fdiv (2 ^ min (8 : Int).toNat 64) = ((a / 256 : Nat) : Int) := fun a => fdiv_pow a 8 (by omega)
  have f16 : ∀ a : Nat, (a : Int).fdiv (2 ^ min (16 : Int).toNat 64) = ((a / 65536 : Nat) : Int) := fun a => fdiv_pow a 16 (by omega)
  have f32 : ∀ a : Nat, (a : Int).fdiv (2 ^ min (32 : Int).toNat 64) = ((a / 4294967296 : Nat) : Int) := fun a => fdiv_pow a 32 (by omega)
  have m1 : ∀ a : Nat, a < 18446744073709551616 → uand (a : Int) 6148914691236517205 = ((a &&& 6148914691236517205 : Nat) : Int) := fun a ha => uand_n ha (by decide)
  have m2 : ∀ a : Nat, a < 18446744073709551616 → uand (a : Int) 3689348814741910323 = ((a &&& 3689348814741910323 : Nat) : Int) := fun a ha => uand_n ha (by decide)
  have m4 : ∀ a : Nat, a < 18446744073709551616 → uand (a : Int) 1085102592571150095 = ((a &&& 1085102592571150095 : Nat) : Int) := fun a ha => uand_n ha (by decide)
  have add : ∀ a b : Nat, a + b < 18446744073709551616 → wu64 ((a : Int) + (b : Int)) = ((a + b : Nat) : Int) := fun a b h => by rw [wu64_id (by omega) (by omega)]; omega
  have b1 := and_le_r (n / 2) 6148914691236517205
  have b2 := and_le_r n 6148914691236517205
  have e1 : wu64 ((uand ((n : Int).fdiv (2 ^ min (1 : Int).toNat 64)) 6148914691236517205) + (uand (n : Int) 6148914691236517205)) = ((S1 8 n : Nat) : Int) := by
    rw [f1, m1 _ (by omega), m1 _ hn, add _ _ (by omega)]
    unfold S1
    rw [rep85]
  have hs1 : S1 8 n < 18446744073709551616 := by unfold S1; rw [rep85]; omega
  have c1 := and_le_r (S1 8 n / 4) 3689348814741910323
  have c2 := and_le_r (S1 8 n) 3689348814741910323
  have e2 : wu64 ((uand (((S1 8 n : Nat) : Int).fdiv (2 ^ min (2 : Int).toNat 64)) 3689348814741910323) + (uand ((S1 8 n : Nat) : Int) 3689348814741910323)) = ((S2 8 (S1 8 n) : Nat) : Int) := by
    rw [f2, m2 _ (by omega), m2 _ hs1, add _ _ (by omega)]
    unfold S2
    rw [rep51]
  have hs2 : S2 8 (S1 8 n) ≤ 7378697629483820646 := by unfold S2; rw [rep51]; omega
  have e3 : uand (wu64 ((((S2 8 (S1 8 n) : Nat) : Int).fdiv (2 ^ min (4 : Int).toNat 64)) + ((S2 8 (S1 8 n) : Nat) : Int))) 1085102592571150095 = ((T 8 n : Nat) : Int) := by
    rw [f4, add _ _ (by omega), m4 _ (by omega)]
    unfold T S3
    rw [rep15]
  obtain ⟨p0, p1, p2, p3, p4, p5, p6, p7, h0, h1, h2, h3, h4, h5, h6, h7, eT, eS⟩ := T8_sum n
  unfold math_bits_OnesCount64.f
  simp only [e1, e2, e3]
  generalize T 8 n = c at *
  have hc : c < 1157442765409226769 := by omega
  have g1 : wu64 ((c : Int) + (c : Int).fdiv (2 ^ min (8 : Int).toNat 64)) = ((c + c / 256 : Nat) : Int) := by rw [f8, add _ _ (by omega)]
  have g2 : wu64 (((c + c / 256 : Nat) : Int) + ((c + c / 256 : Nat) : Int).fdiv (2 ^ min (16 : Int).toNat 64)) = (((c + c / 256) + (c + c / 256) / 65536 : Nat) : Int) := by rw [f16, add _ _ (by omega)]
  simp only [g1, g2]
  generalize hd : (c + c / 256) + (c + c / 256) / 65536 = d at *
  have hd2 : d < 1162000000000000000 := by omega
  have g3 : wu64 ((d : Int) + (d : Int).fdiv (2 ^ min (32 : Int).toNat 64)) = ((d + d / 4294967296 : Nat) : Int) := by rw [f32, add _ _ (by omega)]
  rw [g3, eS]
  have g4 : w64 ((d + d / 4294967296 : Nat) : Int) = ((d + d / 4294967296 : Nat) : Int) := w64_id (by omega) (by omega)
  rw [g4, iand_127 (by omega), digits h0 h1 h2 h3 h4 h5 h6 h7 eT hd]
theorem Count_eq {x : Int} {b : Nat → Bool} (hx : IsSet x b) : seg_Set_Count.f x = some (((secFrom 0 b).length : Nat) : Int) := by
  obtain ⟨x0, x1, x2⟩ := hx
  obtain ⟨n, rfl⟩ := Int.eq_ofNat_of_zero_le x0
  unfold seg_Set_Count.f
  rw [Ones_nat (by omega)]
  simp only [Option.bind_some]
  have e : secFrom 0 (fun i => n.testBit i) = secFrom 0 b := secFrom_congr 64 0 rfl fun j _ hj => by have := x2 j hj; rwa [Int.toNat_natCast] at this
  rw [e]
end Go.Proofs.YtnaajldlloglkaaDoor.W
