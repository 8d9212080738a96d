/- Plain facts: how many sectors a set has. -/
import Derived.Test.YtnaajldlloglkaaDoorSegP7
set_option linter.unusedVariables false
set_option linter.unusedSimpArgs false
namespace Go.Proofs.YtnaajldlloglkaaDoor.W
open Go.H
theorem and_bytes {a b c d : Nat} (hb : b < 256) (hd : d < 256) : (256 * a + b) &&& (256 * c + d) = 256 * (a &&& c) + (b &&& d) := by
  have hbd : b &&& d < 2 ^ 8 := Nat.and_lt_two_pow _ (by omega)
  apply Nat.eq_of_testBit_eq
  intro j
  rw [Nat.testBit_and, show (256 : Nat) = 2 ^ 8 from rfl, Nat.testBit_two_pow_mul_add _ (by omega), Nat.testBit_two_pow_mul_add _ (by omega), Nat.testBit_two_pow_mul_add _ hbd]
  split
  · rw [Nat.testBit_and]
  · rw [Nat.testBit_and]
def pop8 (r : Nat) : Nat := ((List.range 8).filter fun i => r.testBit i).length
theorem low1 : ∀ r : Fin 256, ∀ q : Fin 2, (r.val / 2 + 128 * q.val) &&& 85 = (r.val / 2) &&& 85 := by decide +kernel
theorem low2 : ∀ r : Fin 256, ∀ q : Fin 4, (r.val / 4 + 64 * q.val) &&& 51 = (r.val / 4) &&& 51 := by decide +kernel
theorem all8 : ∀ r : Fin 256, ((r.val / 2 &&& 85) + (r.val &&& 85) < 256) ∧ ((((r.val / 2 &&& 85) + (r.val &&& 85)) / 4 &&& 51) + (((r.val / 2 &&& 85) + (r.val &&& 85)) &&& 51) ≤ 68) := by decide +kernel
def rep (d : Nat) : Nat → Nat
  | 0 => 0
  | k + 1 => 256 * rep d k + d
def S1 (k n : Nat) : Nat := (n / 2 &&& rep 85 k) + (n &&& rep 85 k)
def S2 (k n : Nat) : Nat := (n / 4 &&& rep 51 k) + (n &&& rep 51 k)
def S3 (k n : Nat) : Nat := (n / 16 + n) &&& rep 15 k
def g1 (r : Nat) : Nat := (r / 2 &&& 85) + (r &&& 85)
def g2 (r : Nat) : Nat := (r / 4 &&& 51) + (r &&& 51)
theorem g_all : ∀ r : Fin 256, g1 r.val < 256 ∧ g2 (g1 r.val) ≤ 68 ∧ g2 (g1 r.val) % 16 ≤ 4 := by decide +kernel
theorem g_pop : ∀ r : Fin 256, ∀ t : Fin 5, (g2 (g1 r.val) / 16 + g2 (g1 r.val) + 16 * t.val) &&& 15 = pop8 r.val := by decide +kernel
theorem S1_step {k q r : Nat} (hr : r < 256) : S1 (k + 1) (256 * q + r) = 256 * S1 k q + g1 r := by
  have e : (256 * q + r) / 2 = 256 * (q / 2) + (r / 2 + 128 * (q % 2)) := by omega
  have h1 := low1 ⟨r, hr⟩ ⟨q % 2, by omega⟩
  simp only at h1
  unfold S1 g1
  rw [show rep 85 (k + 1) = 256 * rep 85 k + 85 from rfl, e, and_bytes (by omega) (by omega), and_bytes hr (by omega), h1]
  omega
theorem S2_step {k q r : Nat} (hr : r < 256) : S2 (k + 1) (256 * q + r) = 256 * S2 k q + g2 r := by
  have e : (256 * q + r) / 4 = 256 * (q / 4) + (r / 4 + 64 * (q % 4)) := by omega
  have h1 := low2 ⟨r, hr⟩ ⟨q % 4, by omega⟩
  simp only at h1
  unfold S2 g2
  rw [show rep 51 (k + 1) = 256 * rep 51 k + 51 from rfl, e, and_bytes (by omega) (by omega), and_bytes hr (by omega), h1]
  omega
def T (k n : Nat) : Nat := S3 k (S2 k (S1 k n))
theorem S_low (k n : Nat) : S2 k (S1 k n) % 16 ≤ 4 := by
  cases k with
  | zero => simp [S2, rep]
  | succ k =>
    have e : n = 256 * (n / 256) + n % 256 := by omega
    have hr : n % 256 < 256 := by omega
    have hg := g_all ⟨n % 256, hr⟩
    simp only at hg
    rw [e, S1_step hr, S2_step hg.1]
    omega
theorem T_step {k q r : Nat} (hr : r < 256) : T (k + 1) (256 * q + r) = 256 * T k q + pop8 r := by
  have hg := g_all ⟨r, hr⟩
  simp only at hg
  have hl := S_low k q
  have hp := g_pop ⟨r, hr⟩ ⟨S2 k (S1 k q) % 16, by omega⟩
  simp only at hp
  unfold T
  rw [S1_step hr, S2_step hg.1]
  unfold S3
  rw [show rep 15 (k + 1) = 256 * rep 15 k + 15 from rfl]
  generalize S2 k (S1 k q) = B at *
  have e : (256 * B + g2 (g1 r)) / 16 + (256 * B + g2 (g1 r)) = 256 * (B / 16 + B) + (g2 (g1 r) / 16 + g2 (g1 r) + 16 * (B % 16)) := by omega
  rw [e, and_bytes (by omega) (by omega), hp]
theorem T_zero (n : Nat) : T 0 n = 0 := by simp [T, S3, rep]
theorem T_byte (k n : Nat) : T (k + 1) n = 256 * T k (n / 256) + pop8 (n % 256) := by
  have e : n = 256 * (n / 256) + n % 256 := by omega
  have := T_step (k := k) (q := n / 256) (r := n % 256) (by omega)
  rw [← e] at this
  exact this
theorem pop8_le (r : Nat) : pop8 r ≤ 8 := by
  unfold pop8
  refine Nat.le_trans (List.length_filter_le _ _) ?_
  simp
/-- How many of eight sectors from lo on. -/
def cnt (b : Nat → Bool) (lo : Nat) : Nat := ((List.range' lo 8).filter b).length
theorem cnt_pop {n lo : Nat} : cnt (fun i => n.testBit i) lo = pop8 (n / 2 ^ lo % 256) := by
  unfold cnt pop8
  rw [List.range'_eq_map_range, List.filter_map, List.length_map]
  congr 1
  apply List.filter_congr
  intro j hj
  have hj8 : j < 8 := List.mem_range.1 hj
  rw [show (256 : Nat) = 2 ^ 8 from rfl, Nat.testBit_mod_two_pow, Nat.testBit_div_two_pow]
  simp [hj8, Nat.add_comm]
theorem sec_cnt (b : Nat → Bool) : (secFrom 0 b).length = cnt b 0 + cnt b 8 + cnt b 16 + cnt b 24 + cnt b 32 + cnt b 40 + cnt b 48 + cnt b 56 := by
  have e : List.range' 0 (64 - 0) = List.range' 0 8 ++ List.range' 8 8 ++ List.range' 16 8 ++ List.range' 24 8 ++ List.range' 32 8 ++ List.range' 40 8 ++ List.range' 48 8 ++ List.range' 56 8 := by decide +kernel
  unfold secFrom cnt
  rw [e]
  simp only [List.filter_append, List.length_append]
end Go.Proofs.YtnaajldlloglkaaDoor.W
