/- What the functions tell, as plain functions over numbers and lists; printed by a program of the claim. -/
import Derived.Test.YtnaajldlloglkaaDoorHK
set_option linter.unusedVariables false
set_option linter.unusedSimpArgs false
namespace Go.Proofs.YtnaajldlloglkaaDoor.W
open Go.H
def tzl : List Int := [0, 1, 56, 2, 57, 49, 28, 3, 61, 58, 42, 50, 38, 29, 17, 4, 62, 47, 59, 36, 45, 43, 51, 22, 53, 39, 33, 30, 24, 18, 12, 5, 63, 55, 48, 27, 60, 41, 37, 16, 46, 35, 44, 21, 52, 32, 23, 11, 54, 26, 40, 15, 34, 20, 31, 10, 25, 14, 19, 9, 13, 8, 7, 6]
def tz : Nat → Int := fun i => tzl.getD i 0
structure Seg where
  At : Int
  Len : Int
  deriving DecidableEq, Inhabited
structure hermitagelaw1Ask where
  L : List (List Seg)
  N : List Int
  deriving DecidableEq, Inhabited
/-! ### hermitage/hermitagelaw1.Heavy: function 11 -/
def hermitagelaw1_Heavy.j0 (p0 : hermitagelaw1Ask) (it3_0 : Int) (it4_0 : Int) (re0 : Int → Int → Option Bool) (bt20_1 : Bool) : Option Bool := (if bt20_1 = true then (if 0 ≤ it4_0 ∧ it4_0 < (p0.L.length : Int) then (re0 (w64 (it3_0 + ((rd p0.L it4_0).length : Int))) (w64 (it4_0 + 1))) else none) else (some (decide (500 < it3_0))))
def hermitagelaw1_Heavy.l0 (p0 : hermitagelaw1Ask) : Nat → Int → Int → Option Bool
  | 0, _, _ => none
  | n + 1, it3_0, it4_0 => (if it4_0 < (p0.L.length : Int) then (hermitagelaw1_Heavy.j0 p0 it3_0 it4_0 (hermitagelaw1_Heavy.l0 p0 n) (decide (it3_0 < 1048576))) else (hermitagelaw1_Heavy.j0 p0 it3_0 it4_0 (hermitagelaw1_Heavy.l0 p0 n) false))
def hermitagelaw1_Heavy.f (k : Nat) (p0 : hermitagelaw1Ask) : Option Bool := (hermitagelaw1_Heavy.l0 p0 k (w64 ((p0.L.length : Int) + (p0.N.length : Int))) 0)
/-! ### hermitage/hermitageref1.Segs: function 12 -/
def hermitageref1_Segs.j0 (it3_0 : Int) (re0 : Int → Option Bool) (bt70_1 : Bool) : Option Bool := (if bt70_1 = true then (some false) else (re0 (w64 (it3_0 + 1))))
def hermitageref1_Segs.l0 (p0 : List Seg) : Nat → Int → Option Bool
  | 0, _ => none
  | n + 1, it3_0 => (if it3_0 < (p0.length : Int) then (if 0 ≤ it3_0 ∧ it3_0 < (p0.length : Int) then (if ((rd p0 it3_0).At) < 0 then (hermitageref1_Segs.j0 it3_0 (hermitageref1_Segs.l0 p0 n) true) else (if 0 ≤ it3_0 ∧ it3_0 < (p0.length : Int) then (if ((rd p0 it3_0).Len) < 1 then (hermitageref1_Segs.j0 it3_0 (hermitageref1_Segs.l0 p0 n) true) else (if 0 ≤ it3_0 ∧ it3_0 < (p0.length : Int) then (if 64 < ((rd p0 it3_0).At) then (hermitageref1_Segs.j0 it3_0 (hermitageref1_Segs.l0 p0 n) true) else (if 0 ≤ it3_0 ∧ it3_0 < (p0.length : Int) then (if 0 ≤ it3_0 ∧ it3_0 < (p0.length : Int) then (if (w64 (64 - ((rd p0 it3_0).At))) < ((rd p0 it3_0).Len) then (hermitageref1_Segs.j0 it3_0 (hermitageref1_Segs.l0 p0 n) true) else (if 0 < it3_0 then (if 0 ≤ (w64 (it3_0 - 1)) ∧ (w64 (it3_0 - 1)) < (p0.length : Int) then (if 0 ≤ (w64 (it3_0 - 1)) ∧ (w64 (it3_0 - 1)) < (p0.length : Int) then (if 0 ≤ it3_0 ∧ it3_0 < (p0.length : Int) then (hermitageref1_Segs.j0 it3_0 (hermitageref1_Segs.l0 p0 n) (decide (((rd p0 it3_0).At) ≤ (w64 (((rd p0 (w64 (it3_0 - 1))).At) + ((rd p0 (w64 (it3_0 - 1))).Len)))))) else none) else none) else none) else (hermitageref1_Segs.j0 it3_0 (hermitageref1_Segs.l0 p0 n) false))) else none) else none)) else none)) else none)) else none) else (some true))
def hermitageref1_Segs.f (k : Nat) (p0 : List Seg) : Option Bool := (hermitageref1_Segs.l0 p0 k 0)
/-! ### hermitage/seg.May: function 51 -/
def seg_May.j0 (it7_0 : Int) (re0 : Int → Option Bool) (bt54_1 : Bool) : Option Bool := (if bt54_1 = true then (some false) else (re0 (w64 (it7_0 + 1))))
def seg_May.l0 (p0 : List Seg) : Nat → Int → Option Bool
  | 0, _ => none
  | n + 1, it7_0 => (if it7_0 < (p0.length : Int) then (if 0 ≤ it7_0 ∧ it7_0 < (p0.length : Int) then (if ((rd p0 it7_0).At) < 0 then (seg_May.j0 it7_0 (seg_May.l0 p0 n) true) else (if ((rd p0 it7_0).Len) < 1 then (seg_May.j0 it7_0 (seg_May.l0 p0 n) true) else (if 64 < ((rd p0 it7_0).At) then (seg_May.j0 it7_0 (seg_May.l0 p0 n) true) else (if (w64 (64 - ((rd p0 it7_0).At))) < ((rd p0 it7_0).Len) then (seg_May.j0 it7_0 (seg_May.l0 p0 n) true) else (if 0 < it7_0 then (if 0 ≤ (w64 (it7_0 - 1)) ∧ (w64 (it7_0 - 1)) < (p0.length : Int) then (if 0 ≤ (w64 (it7_0 - 1)) ∧ (w64 (it7_0 - 1)) < (p0.length : Int) then (seg_May.j0 it7_0 (seg_May.l0 p0 n) (decide (((rd p0 it7_0).At) ≤ (w64 (((rd p0 (w64 (it7_0 - 1))).At) + ((rd p0 (w64 (it7_0 - 1))).Len)))))) else none) else none) else (seg_May.j0 it7_0 (seg_May.l0 p0 n) false)))))) else none) else (some true))
def seg_May.f (k : Nat) (p0 : List Seg) : Option Bool := (seg_May.l0 p0 k 0)
/-! ### hermitage/seg.To: function 58 -/
def seg_To.f (p0 : Int) : Option Int := (if 64 ≤ p0 then (some 18446744073709551615) else (if 0 ≤ p0 then (some (wu64 ((wu64 (1 * 2 ^ min p0.toNat 64)) - 1))) else none))
/-! ### hermitage/seg.Make: function 52 -/
def seg_Make.l0 (p0 : List Seg) : Nat → Int → Int → Option Int
  | 0, _, _ => none
  | n + 1, it3_0, it8_0 => (if it8_0 < (p0.length : Int) then (if 0 ≤ it8_0 ∧ it8_0 < (p0.length : Int) then ((seg_To.f (w64 (((rd p0 it8_0).At) + ((rd p0 it8_0).Len)))).bind fun y1 => ((seg_To.f ((rd p0 it8_0).At)).bind fun y2 => (seg_Make.l0 p0 n (uor it3_0 (uandn y1 y2)) (w64 (it8_0 + 1))))) else none) else (some it3_0))
def seg_Make.f (k : Nat) (p0 : List Seg) : Option Int := (seg_Make.l0 p0 k 0 0)
/-! ### math/bits.TrailingZeros64: function 100 -/
def math_bits_TrailingZeros64.f (p0 : Int) : Option Int := (if p0 = 0 then (some 64) else (if 0 ≤ ((wu64 ((uand p0 (wu64 (0 - p0))) * 285870213051353865)).fdiv (2 ^ min (58 : Int).toNat 64)) ∧ ((wu64 ((uand p0 (wu64 (0 - p0))) * 285870213051353865)).fdiv (2 ^ min (58 : Int).toNat 64)) < 64 then (some (w64 (tz ((wu64 ((uand p0 (wu64 (0 - p0))) * 285870213051353865)).fdiv (2 ^ min (58 : Int).toNat 64)).toNat))) else none))
/-! ### (hermitage/seg.Set).Least: function 80 -/
def seg_Set_Least.f (p0 : Int) : Option Int := ((math_bits_TrailingZeros64.f p0).bind fun y1 => (some y1))
/-! ### (hermitage/seg.Set).Sectors: function 60 -/
def seg_Set_Sectors.l0 : Nat → Int → (List Int) → Option (List Int)
  | 0, _, _ => none
  | n + 1, it0_0, lt2_0 => (if it0_0 = 0 then (some lt2_0) else ((seg_Set_Least.f it0_0).bind fun y1 => (if (lt2_0.length + 1) * 8 ≤ 140737488355328 then (seg_Set_Sectors.l0 n (uand it0_0 (wu64 (it0_0 - 1))) (lt2_0 ++ [y1])) else none)))
def seg_Set_Sectors.f (k : Nat) (p0 : Int) : Option (List Int) := (seg_Set_Sectors.l0 k p0 ([] : List Int))
/-! ### (hermitage/seg.Set).Segs: function 53 -/
def seg_Set_Segs.j0 (it9_0 : Int) (re0 : (List Seg) → Int → Option (List Seg)) (lt2_1 : List Seg) : Option (List Seg) := (re0 lt2_1 (w64 (it9_0 + 1)))
def seg_Set_Segs.j1 (y1 : (List Int)) (lt2_0 : List Seg) (it9_0 : Int) (re0 : (List Seg) → Int → Option (List Seg)) (bt33_2 : Bool) : Option (List Seg) := (if bt33_2 = true then (if 0 ≤ (w64 ((lt2_0.length : Int) - 1)) ∧ (w64 ((lt2_0.length : Int) - 1)) < (lt2_0.length : Int) then (if 0 ≤ (w64 ((lt2_0.length : Int) - 1)) ∧ (w64 ((lt2_0.length : Int) - 1)) < (lt2_0.length : Int) then (seg_Set_Segs.j0 it9_0 re0 (lt2_0.set (w64 ((lt2_0.length : Int) - 1)).toNat (⟨(rd lt2_0 (w64 ((lt2_0.length : Int) - 1))).At, w64 (((rd lt2_0 (w64 ((lt2_0.length : Int) - 1))).Len) + 1)⟩ : Seg))) else none) else none) else (if (lt2_0.length + 1) * 16 ≤ 140737488355328 then (seg_Set_Segs.j0 it9_0 re0 (lt2_0 ++ [(⟨rd y1 it9_0, 1⟩ : Seg)])) else none))
def seg_Set_Segs.l0 (y1 : (List Int)) : Nat → (List Seg) → Int → Option (List Seg)
  | 0, _, _ => none
  | n + 1, lt2_0, it9_0 => (if it9_0 < (y1.length : Int) then (if 0 ≤ it9_0 ∧ it9_0 < (y1.length : Int) then (if 0 < (lt2_0.length : Int) then (if 0 ≤ (w64 ((lt2_0.length : Int) - 1)) ∧ (w64 ((lt2_0.length : Int) - 1)) < (lt2_0.length : Int) then (if 0 ≤ (w64 ((lt2_0.length : Int) - 1)) ∧ (w64 ((lt2_0.length : Int) - 1)) < (lt2_0.length : Int) then (seg_Set_Segs.j1 y1 lt2_0 it9_0 (seg_Set_Segs.l0 y1 n) ((w64 (((rd lt2_0 (w64 ((lt2_0.length : Int) - 1))).At) + ((rd lt2_0 (w64 ((lt2_0.length : Int) - 1))).Len))) == (rd y1 it9_0))) else none) else none) else (seg_Set_Segs.j1 y1 lt2_0 it9_0 (seg_Set_Segs.l0 y1 n) false)) else none) else (some lt2_0))
def seg_Set_Segs.f (k : Nat) (p0 : Int) : Option (List Seg) := ((seg_Set_Sectors.f k p0).bind fun y1 => (seg_Set_Segs.l0 y1 k ([] : List Seg) 0))
/-! ### hermitage/seg.Join: function 13 -/
def seg_Join.l0 (p0 : List (List Seg)) (k : Nat) : Nat → Int → Int → Option ((List Seg) × Int)
  | 0, _, _ => none
  | n + 1, it4_0, it9_0 => (if it9_0 < (p0.length : Int) then (if 0 ≤ it9_0 ∧ it9_0 < (p0.length : Int) then ((seg_May.f k (rd p0 it9_0)).bind fun y1 => (if y1 = true then ((seg_Make.f k (rd p0 it9_0)).bind fun y2 => (seg_Join.l0 p0 k n (uor it4_0 y2) (w64 (it9_0 + 1)))) else (some (([] : List Seg), 1)))) else none) else ((seg_Set_Segs.f k it4_0).bind fun y3 => (some (y3, 0))))
def seg_Join.f (k : Nat) (p0 : List (List Seg)) : Option ((List Seg) × Int) := (seg_Join.l0 p0 k k 0 0)
/-! ### hermitage/hermitagelaw1.num: function 14 -/
def hermitagelaw1_num.f (p0 : Int) : Option Int := (some p0)
/-! ### hermitage/hermitageref0.EqSegs: function 15 -/
def hermitageref0_EqSegs.l0 (p0 : List Seg) (p1 : List Seg) : Nat → Int → Option Bool
  | 0, _ => none
  | n + 1, it5_0 => (if it5_0 < (p0.length : Int) then (if 0 ≤ it5_0 ∧ it5_0 < (p0.length : Int) then (if 0 ≤ it5_0 ∧ it5_0 < (p1.length : Int) then (if (rd p0 it5_0) = (rd p1 it5_0) then (hermitageref0_EqSegs.l0 p0 p1 n (w64 (it5_0 + 1))) else (some false)) else none) else none) else (some true))
def hermitageref0_EqSegs.f (k : Nat) (p0 : List Seg) (p1 : List Seg) : Option Bool := (if (p0.length : Int) = (p1.length : Int) then (hermitageref0_EqSegs.l0 p0 p1 k 0) else (some false))
/-! ### hermitage/hermitagelaw1.wakes: function 16 -/
def hermitagelaw1_wakes.f (k : Nat) : Option Bool := ((seg_Join.f k ([([(⟨0, 2⟩ : Seg)] : List Seg), ([(⟨2, 2⟩ : Seg)] : List Seg)] : List (List Seg))).bind fun y1 => ((hermitagelaw1_num.f y1.2).bind fun y2 => (if y2 = 0 then ((hermitageref0_EqSegs.f k y1.1 ([(⟨0, 4⟩ : Seg)] : List Seg)).bind fun y3 => (some y3)) else (some false))))
/-! ### hermitage/hermitageref0.CopySegs: function 17 -/
def hermitageref0_CopySegs.l0 (p0 : List Seg) : Nat → (List Seg) → Int → Option (List Seg)
  | 0, _, _ => none
  | n + 1, lt3_0, it4_0 => (if it4_0 < (p0.length : Int) then (if 0 ≤ it4_0 ∧ it4_0 < (p0.length : Int) then (if (lt3_0.length + 1) * 16 ≤ 140737488355328 then (hermitageref0_CopySegs.l0 p0 n (lt3_0 ++ [(rd p0 it4_0)]) (w64 (it4_0 + 1))) else none) else none) else (some lt3_0))
def hermitageref0_CopySegs.f (k : Nat) (p0 : List Seg) : Option (List Seg) := (hermitageref0_CopySegs.l0 p0 k ([] : List Seg) 0)
/-! ### hermitage/seg.Less$1: function 55 -/
def seg_Less_1.f (p0 : Int) (p1 : Int) : Option Int := (some (uandn p0 p1))
/-! ### hermitage/seg.Less: function 18 -/
def seg_Less.j0 (lt8_0_0 : List Seg) (it8_1_0 : Int) : Option ((List Seg) × Int) := (some (lt8_0_0, it8_1_0))
def seg_Less.j1 (p0 : List Seg) (p1 : List Seg) (k : Nat) (bt15_1 : Bool) : Option ((List Seg) × Int) := (if bt15_1 = true then (seg_Less.j0 ([] : List Seg) 1) else ((seg_Make.f k p0).bind fun y3 => ((seg_Make.f k p1).bind fun y4 => ((seg_Less_1.f y3 y4).bind fun y5 => ((seg_Set_Segs.f k y5).bind fun y6 => (seg_Less.j0 y6 0))))))
def seg_Less.f (k : Nat) (p0 : List Seg) (p1 : List Seg) : Option ((List Seg) × Int) := ((seg_May.f k p0).bind fun y1 => (if y1 = true then ((seg_May.f k p1).bind fun y2 => (seg_Less.j1 p0 p1 k (!y2))) else (seg_Less.j1 p0 p1 k true)))
/-! ### hermitage/seg.Both$1: function 56 -/
def seg_Both_1.f (p0 : Int) (p1 : Int) : Option Int := (some (uand p0 p1))
/-! ### hermitage/seg.Both: function 19 -/
def seg_Both.j0 (lt8_0_0 : List Seg) (it8_1_0 : Int) : Option ((List Seg) × Int) := (some (lt8_0_0, it8_1_0))
def seg_Both.j1 (p0 : List Seg) (p1 : List Seg) (k : Nat) (bt15_1 : Bool) : Option ((List Seg) × Int) := (if bt15_1 = true then (seg_Both.j0 ([] : List Seg) 1) else ((seg_Make.f k p0).bind fun y3 => ((seg_Make.f k p1).bind fun y4 => ((seg_Both_1.f y3 y4).bind fun y5 => ((seg_Set_Segs.f k y5).bind fun y6 => (seg_Both.j0 y6 0))))))
def seg_Both.f (k : Nat) (p0 : List Seg) (p1 : List Seg) : Option ((List Seg) × Int) := ((seg_May.f k p0).bind fun y1 => (if y1 = true then ((seg_May.f k p1).bind fun y2 => (seg_Both.j1 p0 p1 k (!y2))) else (seg_Both.j1 p0 p1 k true)))
/-! ### hermitage/hermitageref1.Of: function 35 -/
def hermitageref1_Of.j0 (it4_0 : Int) (re0 : (List Seg) → Int → Option (List Seg)) (lt3_1 : List Seg) : Option (List Seg) := (re0 lt3_1 (w64 (it4_0 + 1)))
def hermitageref1_Of.j1 (lt3_0 : List Seg) (it4_0 : Int) (re0 : (List Seg) → Int → Option (List Seg)) (bt34_2 : Bool) : Option (List Seg) := (if bt34_2 = true then (if 0 ≤ (w64 ((lt3_0.length : Int) - 1)) ∧ (w64 ((lt3_0.length : Int) - 1)) < (lt3_0.length : Int) then (if 0 ≤ (w64 ((lt3_0.length : Int) - 1)) ∧ (w64 ((lt3_0.length : Int) - 1)) < (lt3_0.length : Int) then (hermitageref1_Of.j0 it4_0 re0 (lt3_0.set (w64 ((lt3_0.length : Int) - 1)).toNat (⟨(rd lt3_0 (w64 ((lt3_0.length : Int) - 1))).At, w64 (((rd lt3_0 (w64 ((lt3_0.length : Int) - 1))).Len) + 1)⟩ : Seg))) else none) else none) else (if (lt3_0.length + 1) * 16 ≤ 140737488355328 then (hermitageref1_Of.j0 it4_0 re0 (lt3_0 ++ [(⟨it4_0, 1⟩ : Seg)])) else none))
def hermitageref1_Of.l0 (p0 : Nat → Bool) : Nat → (List Seg) → Int → Option (List Seg)
  | 0, _, _ => none
  | n + 1, lt3_0, it4_0 => (if it4_0 < 64 then (if 0 ≤ it4_0 ∧ it4_0 < 64 then (if (p0 it4_0.toNat) = true then (if 0 < (lt3_0.length : Int) then (if 0 ≤ (w64 ((lt3_0.length : Int) - 1)) ∧ (w64 ((lt3_0.length : Int) - 1)) < (lt3_0.length : Int) then (if 0 ≤ (w64 ((lt3_0.length : Int) - 1)) ∧ (w64 ((lt3_0.length : Int) - 1)) < (lt3_0.length : Int) then (hermitageref1_Of.j1 lt3_0 it4_0 (hermitageref1_Of.l0 p0 n) ((w64 (((rd lt3_0 (w64 ((lt3_0.length : Int) - 1))).At) + ((rd lt3_0 (w64 ((lt3_0.length : Int) - 1))).Len))) == it4_0)) else none) else none) else (hermitageref1_Of.j1 lt3_0 it4_0 (hermitageref1_Of.l0 p0 n) false)) else (hermitageref1_Of.j0 it4_0 (hermitageref1_Of.l0 p0 n) lt3_0)) else none) else (some lt3_0))
def hermitageref1_Of.f (k : Nat) (p0 : Nat → Bool) : Option (List Seg) := (hermitageref1_Of.l0 p0 k ([] : List Seg) 0)
/-! ### hermitage/hermitageref1.Set: function 57 -/
def hermitageref1_Set.l1 (p0 : List Seg) (it4_0 : Int) (re0 : Int → (Nat → Bool) → Option (Nat → Bool)) : Nat → Int → (Nat → Bool) → Option (Nat → Bool)
  | 0, _, _ => none
  | n + 1, it5_1, ab2_0_1 => (if 0 ≤ it4_0 ∧ it4_0 < (p0.length : Int) then (if 0 ≤ it4_0 ∧ it4_0 < (p0.length : Int) then (if it5_1 < (w64 (((rd p0 it4_0).At) + ((rd p0 it4_0).Len))) then (if 0 ≤ it5_1 ∧ it5_1 < 64 then (hermitageref1_Set.l1 p0 it4_0 re0 n (w64 (it5_1 + 1)) (updF ab2_0_1 it5_1.toNat true)) else none) else (re0 (w64 (it4_0 + 1)) ab2_0_1)) else none) else none)
def hermitageref1_Set.l0 (p0 : List Seg) (k : Nat) : Nat → Int → (Nat → Bool) → Option (Nat → Bool)
  | 0, _, _ => none
  | n + 1, it4_0, ab2_0_0 => (if it4_0 < (p0.length : Int) then (if 0 ≤ it4_0 ∧ it4_0 < (p0.length : Int) then (hermitageref1_Set.l1 p0 it4_0 (hermitageref1_Set.l0 p0 k n) k ((rd p0 it4_0).At) ab2_0_0) else none) else (some ab2_0_0))
def hermitageref1_Set.f (k : Nat) (p0 : List Seg) : Option (Nat → Bool) := (hermitageref1_Set.l0 p0 k k 0 (fun _ => false))
/-! ### hermitage/hermitageref1.Two: function 20 -/
def hermitageref1_Two.j0 (it10_0 : Int) (re0 : Int → (Nat → Bool) → Option (List Seg)) (ab3_0_1 : Nat → Bool) : Option (List Seg) := (re0 (w64 (it10_0 + 1)) ab3_0_1)
def hermitageref1_Two.l0 (p2 : Int) (k : Nat) (y1 : (Nat → Bool)) (y2 : (Nat → Bool)) : Nat → Int → (Nat → Bool) → Option (List Seg)
  | 0, _, _ => none
  | n + 1, it10_0, ab3_0_0 => (if it10_0 < 64 then (if p2 = 0 then (if 0 ≤ it10_0 ∧ it10_0 < 64 then (if (y1 it10_0.toNat) = true then (if 0 ≤ it10_0 ∧ it10_0 < 64 then (hermitageref1_Two.j0 it10_0 (hermitageref1_Two.l0 p2 k y1 y2 n) (updF ab3_0_0 it10_0.toNat true)) else none) else (if 0 ≤ it10_0 ∧ it10_0 < 64 then (if 0 ≤ it10_0 ∧ it10_0 < 64 then (hermitageref1_Two.j0 it10_0 (hermitageref1_Two.l0 p2 k y1 y2 n) (updF ab3_0_0 it10_0.toNat (y2 it10_0.toNat))) else none) else none)) else none) else (if p2 = 1 then (if 0 ≤ it10_0 ∧ it10_0 < 64 then (if (y1 it10_0.toNat) = true then (if 0 ≤ it10_0 ∧ it10_0 < 64 then (if 0 ≤ it10_0 ∧ it10_0 < 64 then (hermitageref1_Two.j0 it10_0 (hermitageref1_Two.l0 p2 k y1 y2 n) (updF ab3_0_0 it10_0.toNat (!(y2 it10_0.toNat)))) else none) else none) else (if 0 ≤ it10_0 ∧ it10_0 < 64 then (hermitageref1_Two.j0 it10_0 (hermitageref1_Two.l0 p2 k y1 y2 n) (updF ab3_0_0 it10_0.toNat false)) else none)) else none) else (if 0 ≤ it10_0 ∧ it10_0 < 64 then (if (y1 it10_0.toNat) = true then (if 0 ≤ it10_0 ∧ it10_0 < 64 then (if 0 ≤ it10_0 ∧ it10_0 < 64 then (hermitageref1_Two.j0 it10_0 (hermitageref1_Two.l0 p2 k y1 y2 n) (updF ab3_0_0 it10_0.toNat (y2 it10_0.toNat))) else none) else none) else (if 0 ≤ it10_0 ∧ it10_0 < 64 then (hermitageref1_Two.j0 it10_0 (hermitageref1_Two.l0 p2 k y1 y2 n) (updF ab3_0_0 it10_0.toNat false)) else none)) else none))) else ((hermitageref1_Of.f k ab3_0_0).bind fun y3 => (some y3)))
def hermitageref1_Two.f (k : Nat) (p0 : List Seg) (p1 : List Seg) (p2 : Int) : Option (List Seg) := ((hermitageref1_Set.f k p0).bind fun y1 => ((hermitageref1_Set.f k p1).bind fun y2 => (hermitageref1_Two.l0 p2 k y1 y2 k 0 (fun _ => false))))
/-! ### hermitage/hermitagelaw1.SegTwos: function 4 -/
def hermitagelaw1_SegTwos.j8 (it4_2 : Int) (re2 : Int → Option Bool) (bt198_13 : Bool) : Option Bool := (if bt198_13 = true then (some false) else (re2 (w64 (it4_2 + 1))))
def hermitagelaw1_SegTwos.j7 (p0 : hermitagelaw1Ask) (k : Nat) (it3_0 : Int) (it4_2 : Int) (y2 : (List Seg)) (y3 : (List Seg)) (re2 : Int → Option Bool) : Option Bool := (if 0 ≤ it3_0 ∧ it3_0 < (p0.L.length : Int) then ((hermitageref0_EqSegs.f k y2 (rd p0.L it3_0)).bind fun y20 => (if y20 = true then (if 0 ≤ it4_2 ∧ it4_2 < (p0.L.length : Int) then ((hermitageref0_EqSegs.f k y3 (rd p0.L it4_2)).bind fun y21 => (hermitagelaw1_SegTwos.j8 it4_2 re2 (!y21))) else none) else (hermitagelaw1_SegTwos.j8 it4_2 re2 true))) else none)
def hermitagelaw1_SegTwos.l4 (p0 : hermitagelaw1Ask) (k : Nat) (it3_0 : Int) (it4_2 : Int) (y2 : (List Seg)) (y3 : (List Seg)) (re2 : Int → Option Bool) : Nat → (List Seg) → Int → Option Bool
  | 0, _, _ => none
  | n + 1, lt0_12, it2_12 => (if it2_12 < (lt0_12.length : Int) then (if 0 ≤ it2_12 ∧ it2_12 < (lt0_12.length : Int) then (hermitagelaw1_SegTwos.l4 p0 k it3_0 it4_2 y2 y3 re2 n (lt0_12.set it2_12.toNat (⟨(-9), 0⟩ : Seg)) (w64 (it2_12 + 1))) else none) else (hermitagelaw1_SegTwos.j7 p0 k it3_0 it4_2 y2 y3 re2))
def hermitagelaw1_SegTwos.j6 (p0 : hermitagelaw1Ask) (k : Nat) (it3_0 : Int) (it4_2 : Int) (y2 : (List Seg)) (y3 : (List Seg)) (y6 : (List Seg) × Int) (re2 : Int → Option Bool) : Option Bool := (hermitagelaw1_SegTwos.l4 p0 k it3_0 it4_2 y2 y3 re2 k y6.1 0)
def hermitagelaw1_SegTwos.l3 (p0 : hermitagelaw1Ask) (k : Nat) (it3_0 : Int) (it4_2 : Int) (y2 : (List Seg)) (y3 : (List Seg)) (y6 : (List Seg) × Int) (re2 : Int → Option Bool) : Nat → (List Seg) → Int → Option Bool
  | 0, _, _ => none
  | n + 1, lt0_10, it2_10 => (if it2_10 < (lt0_10.length : Int) then (if 0 ≤ it2_10 ∧ it2_10 < (lt0_10.length : Int) then (hermitagelaw1_SegTwos.l3 p0 k it3_0 it4_2 y2 y3 y6 re2 n (lt0_10.set it2_10.toNat (⟨(-9), 0⟩ : Seg)) (w64 (it2_10 + 1))) else none) else (hermitagelaw1_SegTwos.j6 p0 k it3_0 it4_2 y2 y3 y6 re2))
def hermitagelaw1_SegTwos.j5 (p0 : hermitagelaw1Ask) (k : Nat) (it3_0 : Int) (it4_2 : Int) (y2 : (List Seg)) (y3 : (List Seg)) (y5 : (List Seg) × Int) (y6 : (List Seg) × Int) (re2 : Int → Option Bool) : Option Bool := (hermitagelaw1_SegTwos.l3 p0 k it3_0 it4_2 y2 y3 y6 re2 k y5.1 0)
def hermitagelaw1_SegTwos.l2 (p0 : hermitagelaw1Ask) (k : Nat) (it3_0 : Int) (it4_2 : Int) (y2 : (List Seg)) (y3 : (List Seg)) (y5 : (List Seg) × Int) (y6 : (List Seg) × Int) (re2 : Int → Option Bool) : Nat → (List Seg) → Int → Option Bool
  | 0, _, _ => none
  | n + 1, lt0_8, it2_8 => (if it2_8 < (lt0_8.length : Int) then (if 0 ≤ it2_8 ∧ it2_8 < (lt0_8.length : Int) then (hermitagelaw1_SegTwos.l2 p0 k it3_0 it4_2 y2 y3 y5 y6 re2 n (lt0_8.set it2_8.toNat (⟨(-9), 0⟩ : Seg)) (w64 (it2_8 + 1))) else none) else (hermitagelaw1_SegTwos.j5 p0 k it3_0 it4_2 y2 y3 y5 y6 re2))
def hermitagelaw1_SegTwos.j4 (p0 : hermitagelaw1Ask) (k : Nat) (it3_0 : Int) (it4_2 : Int) (y2 : (List Seg)) (y3 : (List Seg)) (y4 : (List Seg) × Int) (y5 : (List Seg) × Int) (y6 : (List Seg) × Int) (re2 : Int → Option Bool) (bt174_6 : Bool) : Option Bool := (if bt174_6 = true then (some false) else (hermitagelaw1_SegTwos.l2 p0 k it3_0 it4_2 y2 y3 y5 y6 re2 k y4.1 0))
def hermitagelaw1_SegTwos.j2 (p0 : hermitagelaw1Ask) (k : Nat) (it3_0 : Int) (it4_2 : Int) (y2 : (List Seg)) (y3 : (List Seg)) (y4 : (List Seg) × Int) (y5 : (List Seg) × Int) (y6 : (List Seg) × Int) (re2 : Int → Option Bool) (it13_4 : Int) (lt14_4 : List Seg) (lt15_4 : List Seg) (lt16_4 : List Seg) : Option Bool := ((hermitagelaw1_num.f y4.2).bind fun y12 => (if y12 = it13_4 then ((hermitagelaw1_num.f y5.2).bind fun y13 => (if y13 = it13_4 then ((hermitagelaw1_num.f y6.2).bind fun y14 => (if y14 = it13_4 then ((hermitageref0_EqSegs.f k y4.1 lt14_4).bind fun y15 => (if y15 = true then ((hermitageref0_EqSegs.f k y5.1 lt15_4).bind fun y16 => (if y16 = true then ((hermitageref0_EqSegs.f k y6.1 lt16_4).bind fun y17 => (if y17 = true then (if 0 ≤ it3_0 ∧ it3_0 < (p0.L.length : Int) then ((hermitageref0_EqSegs.f k y2 (rd p0.L it3_0)).bind fun y18 => (if y18 = true then (if 0 ≤ it4_2 ∧ it4_2 < (p0.L.length : Int) then ((hermitageref0_EqSegs.f k y3 (rd p0.L it4_2)).bind fun y19 => (hermitagelaw1_SegTwos.j4 p0 k it3_0 it4_2 y2 y3 y4 y5 y6 re2 (!y19))) else none) else (hermitagelaw1_SegTwos.j4 p0 k it3_0 it4_2 y2 y3 y4 y5 y6 re2 true))) else none) else (hermitagelaw1_SegTwos.j4 p0 k it3_0 it4_2 y2 y3 y4 y5 y6 re2 true))) else (hermitagelaw1_SegTwos.j4 p0 k it3_0 it4_2 y2 y3 y4 y5 y6 re2 true))) else (hermitagelaw1_SegTwos.j4 p0 k it3_0 it4_2 y2 y3 y4 y5 y6 re2 true))) else (hermitagelaw1_SegTwos.j4 p0 k it3_0 it4_2 y2 y3 y4 y5 y6 re2 true))) else (hermitagelaw1_SegTwos.j4 p0 k it3_0 it4_2 y2 y3 y4 y5 y6 re2 true))) else (hermitagelaw1_SegTwos.j4 p0 k it3_0 it4_2 y2 y3 y4 y5 y6 re2 true)))
def hermitagelaw1_SegTwos.j3 (p0 : hermitagelaw1Ask) (k : Nat) (it3_0 : Int) (it4_2 : Int) (y2 : (List Seg)) (y3 : (List Seg)) (y4 : (List Seg) × Int) (y5 : (List Seg) × Int) (y6 : (List Seg) × Int) (re2 : Int → Option Bool) (bt87_5 : Bool) : Option Bool := (if bt87_5 = true then (if 0 ≤ it3_0 ∧ it3_0 < (p0.L.length : Int) then (if 0 ≤ it4_2 ∧ it4_2 < (p0.L.length : Int) then (if 0 ≤ it3_0 ∧ it3_0 < (p0.L.length : Int) then (if 0 ≤ it4_2 ∧ it4_2 < (p0.L.length : Int) then (if 0 ≤ it3_0 ∧ it3_0 < (p0.L.length : Int) then (if 0 ≤ it4_2 ∧ it4_2 < (p0.L.length : Int) then ((hermitageref1_Two.f k (rd p0.L it3_0) (rd p0.L it4_2) 0).bind fun y9 => ((hermitageref1_Two.f k (rd p0.L it3_0) (rd p0.L it4_2) 1).bind fun y10 => ((hermitageref1_Two.f k (rd p0.L it3_0) (rd p0.L it4_2) 2).bind fun y11 => (hermitagelaw1_SegTwos.j2 p0 k it3_0 it4_2 y2 y3 y4 y5 y6 re2 0 y10 y11 y9)))) else none) else none) else none) else none) else none) else none) else (hermitagelaw1_SegTwos.j2 p0 k it3_0 it4_2 y2 y3 y4 y5 y6 re2 1 ([] : List Seg) ([] : List Seg) ([] : List Seg)))
def hermitagelaw1_SegTwos.j1 (p0 : hermitagelaw1Ask) (k : Nat) (it3_0 : Int) (it4_2 : Int) (re0 : Int → Option Bool) (re2 : Int → Option Bool) (bt40_3 : Bool) : Option Bool := (if bt40_3 = true then (if 0 ≤ it3_0 ∧ it3_0 < (p0.L.length : Int) then (if 0 ≤ it4_2 ∧ it4_2 < (p0.L.length : Int) then ((hermitageref0_CopySegs.f k (rd p0.L it3_0)).bind fun y2 => ((hermitageref0_CopySegs.f k (rd p0.L it4_2)).bind fun y3 => ((seg_Less.f k y2 y3).bind fun y4 => ((seg_Both.f k y2 y3).bind fun y5 => ((seg_Join.f k ([y2, y3] : List (List Seg))).bind fun y6 => (if 0 ≤ it3_0 ∧ it3_0 < (p0.L.length : Int) then ((hermitageref1_Segs.f k (rd p0.L it3_0)).bind fun y7 => (if y7 = true then (if 0 ≤ it4_2 ∧ it4_2 < (p0.L.length : Int) then ((hermitageref1_Segs.f k (rd p0.L it4_2)).bind fun y8 => (hermitagelaw1_SegTwos.j3 p0 k it3_0 it4_2 y2 y3 y4 y5 y6 re2 y8)) else none) else (hermitagelaw1_SegTwos.j3 p0 k it3_0 it4_2 y2 y3 y4 y5 y6 re2 false))) else none)))))) else none) else none) else (re0 (w64 (it3_0 + 1))))
def hermitagelaw1_SegTwos.l1 (p0 : hermitagelaw1Ask) (k : Nat) (it3_0 : Int) (re0 : Int → Option Bool) : Nat → Int → Option Bool
  | 0, _ => none
  | n + 1, it4_2 => (if it4_2 < (p0.L.length : Int) then (hermitagelaw1_SegTwos.j1 p0 k it3_0 it4_2 re0 (hermitagelaw1_SegTwos.l1 p0 k it3_0 re0 n) (decide (it4_2 < 5))) else (hermitagelaw1_SegTwos.j1 p0 k it3_0 it4_2 re0 (hermitagelaw1_SegTwos.l1 p0 k it3_0 re0 n) false))
def hermitagelaw1_SegTwos.j0 (p0 : hermitagelaw1Ask) (k : Nat) (it3_0 : Int) (re0 : Int → Option Bool) (bt29_1 : Bool) : Option Bool := (if bt29_1 = true then (hermitagelaw1_SegTwos.l1 p0 k it3_0 re0 k 0) else ((seg_Join.f k ([] : List (List Seg))).bind fun y22 => ((hermitagelaw1_num.f y22.2).bind fun y23 => (if y23 = 0 then (if (y22.1.length : Int) = 0 then ((hermitagelaw1_wakes.f k).bind fun y24 => (some y24)) else (some false)) else (some false)))))
def hermitagelaw1_SegTwos.l0 (p0 : hermitagelaw1Ask) (k : Nat) : Nat → Int → Option Bool
  | 0, _ => none
  | n + 1, it3_0 => (if it3_0 < (p0.L.length : Int) then (hermitagelaw1_SegTwos.j0 p0 k it3_0 (hermitagelaw1_SegTwos.l0 p0 k n) (decide (it3_0 < 5))) else (hermitagelaw1_SegTwos.j0 p0 k it3_0 (hermitagelaw1_SegTwos.l0 p0 k n) false))
def hermitagelaw1_SegTwos.f (k : Nat) (p0 : hermitagelaw1Ask) : Option Bool := ((hermitagelaw1_Heavy.f k p0).bind fun y1 => (if y1 = true then (some true) else (hermitagelaw1_SegTwos.l0 p0 k k 0)))
end Go.Proofs.YtnaajldlloglkaaDoor.W
