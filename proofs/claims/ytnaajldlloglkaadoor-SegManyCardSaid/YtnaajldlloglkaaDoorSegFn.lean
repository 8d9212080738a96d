/- What the functions tell, as plain functions over numbers and lists; printed by a program of the claim. -/
import Derived.Test.YtnaajldlloglkaaDoorHK
set_option linter.unusedVariables false
set_option linter.unusedSimpArgs false
namespace Go.Proofs.YtnaajldlloglkaaDoor.W
open Go.H
def tzl : List Int := [0, 1, 56, 2, 57, 49, 28, 3, 61, 58, 42, 50, 38, 29, 17, 4, 62, 47, 59, 36, 45, 43, 51, 22, 53, 39, 33, 30, 24, 18, 12, 5, 63, 55, 48, 27, 60, 41, 37, 16, 46, 35, 44, 21, 52, 32, 23, 11, 54, 26, 40, 15, 34, 20, 31, 10, 25, 14, 19, 9, 13, 8, 7, 6]
def tz : Nat → Int := fun i => tzl.getD i 0
structure Seg where
  At : Int
  Len : Int
  deriving DecidableEq, Inhabited
structure hermitagelaw1Ask where
  L : List (List Seg)
  N : List Int
  deriving DecidableEq, Inhabited
/-! ### hermitage/hermitagelaw1.Heavy: function 11 -/
def hermitagelaw1_Heavy.j0 (p0 : hermitagelaw1Ask) (it3_0 : Int) (it4_0 : Int) (re0 : Int → Int → Option Bool) (bt20_1 : Bool) : Option Bool := (if bt20_1 = true then (if 0 ≤ it4_0 ∧ it4_0 < (p0.L.length : Int) then (re0 (w64 (it3_0 + ((rd p0.L it4_0).length : Int))) (w64 (it4_0 + 1))) else none) else (some (decide (500 < it3_0))))
def hermitagelaw1_Heavy.l0 (p0 : hermitagelaw1Ask) : Nat → Int → Int → Option Bool
  | 0, _, _ => none
  | n + 1, it3_0, it4_0 => (if it4_0 < (p0.L.length : Int) then (hermitagelaw1_Heavy.j0 p0 it3_0 it4_0 (hermitagelaw1_Heavy.l0 p0 n) (decide (it3_0 < 1048576))) else (hermitagelaw1_Heavy.j0 p0 it3_0 it4_0 (hermitagelaw1_Heavy.l0 p0 n) false))
def hermitagelaw1_Heavy.f (k : Nat) (p0 : hermitagelaw1Ask) : Option Bool := (hermitagelaw1_Heavy.l0 p0 k (w64 ((p0.L.length : Int) + (p0.N.length : Int))) 0)
/-! ### hermitage/hermitageref1.Segs: function 12 -/
def hermitageref1_Segs.j0 (it3_0 : Int) (re0 : Int → Option Bool) (bt70_1 : Bool) : Option Bool := (if bt70_1 = true then (some false) else (re0 (w64 (it3_0 + 1))))
def hermitageref1_Segs.l0 (p0 : List Seg) : Nat → Int → Option Bool
  | 0, _ => none
  | n + 1, it3_0 => (if it3_0 < (p0.length : Int) then (if 0 ≤ it3_0 ∧ it3_0 < (p0.length : Int) then (if ((rd p0 it3_0).At) < 0 then (hermitageref1_Segs.j0 it3_0 (hermitageref1_Segs.l0 p0 n) true) else (if 0 ≤ it3_0 ∧ it3_0 < (p0.length : Int) then (if ((rd p0 it3_0).Len) < 1 then (hermitageref1_Segs.j0 it3_0 (hermitageref1_Segs.l0 p0 n) true) else (if 0 ≤ it3_0 ∧ it3_0 < (p0.length : Int) then (if 64 < ((rd p0 it3_0).At) then (hermitageref1_Segs.j0 it3_0 (hermitageref1_Segs.l0 p0 n) true) else (if 0 ≤ it3_0 ∧ it3_0 < (p0.length : Int) then (if 0 ≤ it3_0 ∧ it3_0 < (p0.length : Int) then (if (w64 (64 - ((rd p0 it3_0).At))) < ((rd p0 it3_0).Len) then (hermitageref1_Segs.j0 it3_0 (hermitageref1_Segs.l0 p0 n) true) else (if 0 < it3_0 then (if 0 ≤ (w64 (it3_0 - 1)) ∧ (w64 (it3_0 - 1)) < (p0.length : Int) then (if 0 ≤ (w64 (it3_0 - 1)) ∧ (w64 (it3_0 - 1)) < (p0.length : Int) then (if 0 ≤ it3_0 ∧ it3_0 < (p0.length : Int) then (hermitageref1_Segs.j0 it3_0 (hermitageref1_Segs.l0 p0 n) (decide (((rd p0 it3_0).At) ≤ (w64 (((rd p0 (w64 (it3_0 - 1))).At) + ((rd p0 (w64 (it3_0 - 1))).Len)))))) else none) else none) else none) else (hermitageref1_Segs.j0 it3_0 (hermitageref1_Segs.l0 p0 n) false))) else none) else none)) else none)) else none)) else none) else (some true))
def hermitageref1_Segs.f (k : Nat) (p0 : List Seg) : Option Bool := (hermitageref1_Segs.l0 p0 k 0)
/-! ### hermitage/seg.May: function 51 -/
def seg_May.j0 (it7_0 : Int) (re0 : Int → Option Bool) (bt54_1 : Bool) : Option Bool := (if bt54_1 = true then (some false) else (re0 (w64 (it7_0 + 1))))
def seg_May.l0 (p0 : List Seg) : Nat → Int → Option Bool
  | 0, _ => none
  | n + 1, it7_0 => (if it7_0 < (p0.length : Int) then (if 0 ≤ it7_0 ∧ it7_0 < (p0.length : Int) then (if ((rd p0 it7_0).At) < 0 then (seg_May.j0 it7_0 (seg_May.l0 p0 n) true) else (if ((rd p0 it7_0).Len) < 1 then (seg_May.j0 it7_0 (seg_May.l0 p0 n) true) else (if 64 < ((rd p0 it7_0).At) then (seg_May.j0 it7_0 (seg_May.l0 p0 n) true) else (if (w64 (64 - ((rd p0 it7_0).At))) < ((rd p0 it7_0).Len) then (seg_May.j0 it7_0 (seg_May.l0 p0 n) true) else (if 0 < it7_0 then (if 0 ≤ (w64 (it7_0 - 1)) ∧ (w64 (it7_0 - 1)) < (p0.length : Int) then (if 0 ≤ (w64 (it7_0 - 1)) ∧ (w64 (it7_0 - 1)) < (p0.length : Int) then (seg_May.j0 it7_0 (seg_May.l0 p0 n) (decide (((rd p0 it7_0).At) ≤ (w64 (((rd p0 (w64 (it7_0 - 1))).At) + ((rd p0 (w64 (it7_0 - 1))).Len)))))) else none) else none) else (seg_May.j0 it7_0 (seg_May.l0 p0 n) false)))))) else none) else (some true))
def seg_May.f (k : Nat) (p0 : List Seg) : Option Bool := (seg_May.l0 p0 k 0)
/-! ### hermitage/seg.To: function 58 -/
def seg_To.f (p0 : Int) : Option Int := (if 64 ≤ p0 then (some 18446744073709551615) else (if 0 ≤ p0 then (some (wu64 ((wu64 (1 * 2 ^ min p0.toNat 64)) - 1))) else none))
/-! ### hermitage/seg.Make: function 52 -/
def seg_Make.l0 (p0 : List Seg) : Nat → Int → Int → Option Int
  | 0, _, _ => none
  | n + 1, it3_0, it8_0 => (if it8_0 < (p0.length : Int) then (if 0 ≤ it8_0 ∧ it8_0 < (p0.length : Int) then ((seg_To.f (w64 (((rd p0 it8_0).At) + ((rd p0 it8_0).Len)))).bind fun y1 => ((seg_To.f ((rd p0 it8_0).At)).bind fun y2 => (seg_Make.l0 p0 n (uor it3_0 (uandn y1 y2)) (w64 (it8_0 + 1))))) else none) else (some it3_0))
def seg_Make.f (k : Nat) (p0 : List Seg) : Option Int := (seg_Make.l0 p0 k 0 0)
/-! ### math/bits.TrailingZeros64: function 100 -/
def math_bits_TrailingZeros64.f (p0 : Int) : Option Int := (if p0 = 0 then (some 64) else (if 0 ≤ ((wu64 ((uand p0 (wu64 (0 - p0))) * 285870213051353865)).fdiv (2 ^ min (58 : Int).toNat 64)) ∧ ((wu64 ((uand p0 (wu64 (0 - p0))) * 285870213051353865)).fdiv (2 ^ min (58 : Int).toNat 64)) < 64 then (some (w64 (tz ((wu64 ((uand p0 (wu64 (0 - p0))) * 285870213051353865)).fdiv (2 ^ min (58 : Int).toNat 64)).toNat))) else none))
/-! ### (hermitage/seg.Set).Least: function 80 -/
def seg_Set_Least.f (p0 : Int) : Option Int := ((math_bits_TrailingZeros64.f p0).bind fun y1 => (some y1))
/-! ### (hermitage/seg.Set).Sectors: function 60 -/
def seg_Set_Sectors.l0 : Nat → Int → (List Int) → Option (List Int)
  | 0, _, _ => none
  | n + 1, it0_0, lt2_0 => (if it0_0 = 0 then (some lt2_0) else ((seg_Set_Least.f it0_0).bind fun y1 => (if (lt2_0.length + 1) * 8 ≤ 140737488355328 then (seg_Set_Sectors.l0 n (uand it0_0 (wu64 (it0_0 - 1))) (lt2_0 ++ [y1])) else none)))
def seg_Set_Sectors.f (k : Nat) (p0 : Int) : Option (List Int) := (seg_Set_Sectors.l0 k p0 ([] : List Int))
/-! ### (hermitage/seg.Set).Segs: function 53 -/
def seg_Set_Segs.j0 (it9_0 : Int) (re0 : (List Seg) → Int → Option (List Seg)) (lt2_1 : List Seg) : Option (List Seg) := (re0 lt2_1 (w64 (it9_0 + 1)))
def seg_Set_Segs.j1 (y1 : (List Int)) (lt2_0 : List Seg) (it9_0 : Int) (re0 : (List Seg) → Int → Option (List Seg)) (bt33_2 : Bool) : Option (List Seg) := (if bt33_2 = true then (if 0 ≤ (w64 ((lt2_0.length : Int) - 1)) ∧ (w64 ((lt2_0.length : Int) - 1)) < (lt2_0.length : Int) then (if 0 ≤ (w64 ((lt2_0.length : Int) - 1)) ∧ (w64 ((lt2_0.length : Int) - 1)) < (lt2_0.length : Int) then (seg_Set_Segs.j0 it9_0 re0 (lt2_0.set (w64 ((lt2_0.length : Int) - 1)).toNat (⟨(rd lt2_0 (w64 ((lt2_0.length : Int) - 1))).At, w64 (((rd lt2_0 (w64 ((lt2_0.length : Int) - 1))).Len) + 1)⟩ : Seg))) else none) else none) else (if (lt2_0.length + 1) * 16 ≤ 140737488355328 then (seg_Set_Segs.j0 it9_0 re0 (lt2_0 ++ [(⟨rd y1 it9_0, 1⟩ : Seg)])) else none))
def seg_Set_Segs.l0 (y1 : (List Int)) : Nat → (List Seg) → Int → Option (List Seg)
  | 0, _, _ => none
  | n + 1, lt2_0, it9_0 => (if it9_0 < (y1.length : Int) then (if 0 ≤ it9_0 ∧ it9_0 < (y1.length : Int) then (if 0 < (lt2_0.length : Int) then (if 0 ≤ (w64 ((lt2_0.length : Int) - 1)) ∧ (w64 ((lt2_0.length : Int) - 1)) < (lt2_0.length : Int) then (if 0 ≤ (w64 ((lt2_0.length : Int) - 1)) ∧ (w64 ((lt2_0.length : Int) - 1)) < (lt2_0.length : Int) then (seg_Set_Segs.j1 y1 lt2_0 it9_0 (seg_Set_Segs.l0 y1 n) ((w64 (((rd lt2_0 (w64 ((lt2_0.length : Int) - 1))).At) + ((rd lt2_0 (w64 ((lt2_0.length : Int) - 1))).Len))) == (rd y1 it9_0))) else none) else none) else (seg_Set_Segs.j1 y1 lt2_0 it9_0 (seg_Set_Segs.l0 y1 n) false)) else none) else (some lt2_0))
def seg_Set_Segs.f (k : Nat) (p0 : Int) : Option (List Seg) := ((seg_Set_Sectors.f k p0).bind fun y1 => (seg_Set_Segs.l0 y1 k ([] : List Seg) 0))
/-! ### hermitage/seg.Join: function 13 -/
def seg_Join.l0 (p0 : List (List Seg)) (k : Nat) : Nat → Int → Int → Option ((List Seg) × Int)
  | 0, _, _ => none
  | n + 1, it4_0, it9_0 => (if it9_0 < (p0.length : Int) then (if 0 ≤ it9_0 ∧ it9_0 < (p0.length : Int) then ((seg_May.f k (rd p0 it9_0)).bind fun y1 => (if y1 = true then ((seg_Make.f k (rd p0 it9_0)).bind fun y2 => (seg_Join.l0 p0 k n (uor it4_0 y2) (w64 (it9_0 + 1)))) else (some (([] : List Seg), 1)))) else none) else ((seg_Set_Segs.f k it4_0).bind fun y3 => (some (y3, 0))))
def seg_Join.f (k : Nat) (p0 : List (List Seg)) : Option ((List Seg) × Int) := (seg_Join.l0 p0 k k 0 0)
/-! ### hermitage/hermitagelaw1.num: function 14 -/
def hermitagelaw1_num.f (p0 : Int) : Option Int := (some p0)
/-! ### hermitage/hermitageref0.EqSegs: function 15 -/
def hermitageref0_EqSegs.l0 (p0 : List Seg) (p1 : List Seg) : Nat → Int → Option Bool
  | 0, _ => none
  | n + 1, it5_0 => (if it5_0 < (p0.length : Int) then (if 0 ≤ it5_0 ∧ it5_0 < (p0.length : Int) then (if 0 ≤ it5_0 ∧ it5_0 < (p1.length : Int) then (if (rd p0 it5_0) = (rd p1 it5_0) then (hermitageref0_EqSegs.l0 p0 p1 n (w64 (it5_0 + 1))) else (some false)) else none) else none) else (some true))
def hermitageref0_EqSegs.f (k : Nat) (p0 : List Seg) (p1 : List Seg) : Option Bool := (if (p0.length : Int) = (p1.length : Int) then (hermitageref0_EqSegs.l0 p0 p1 k 0) else (some false))
/-! ### hermitage/hermitagelaw1.wakes: function 16 -/
def hermitagelaw1_wakes.f (k : Nat) : Option Bool := ((seg_Join.f k ([([(⟨0, 2⟩ : Seg)] : List Seg), ([(⟨2, 2⟩ : Seg)] : List Seg)] : List (List Seg))).bind fun y1 => ((hermitagelaw1_num.f y1.2).bind fun y2 => (if y2 = 0 then ((hermitageref0_EqSegs.f k y1.1 ([(⟨0, 4⟩ : Seg)] : List Seg)).bind fun y3 => (some y3)) else (some false))))
/-! ### hermitage/hermitagelaw1.SegMany: function 3 -/
def hermitagelaw1_SegMany.j1 (it4_0 : Int) (re0 : (List (List Seg)) → Int → Option Bool) (lt3_2 : List (List Seg)) : Option Bool := (re0 lt3_2 (w64 (it4_0 + 1)))
def hermitagelaw1_SegMany.l1 (k : Nat) (lt3_0 : List (List Seg)) (y3 : (List Seg) × Int) (y6 : (List Seg) × Int) : Nat → (List Seg) → Int → Option Bool
  | 0, _, _ => none
  | n + 1, lt9_3, it10_3 => (if it10_3 < (lt3_0.length : Int) then (if 0 ≤ it10_3 ∧ it10_3 < (lt3_0.length : Int) then ((seg_Join.f k ([lt9_3, (rd lt3_0 it10_3)] : List (List Seg))).bind fun y7 => ((hermitagelaw1_num.f y7.2).bind fun y8 => (if y8 = 0 then (hermitagelaw1_SegMany.l1 k lt3_0 y3 y6 n y7.1 (w64 (it10_3 + 1))) else (some false)))) else none) else ((hermitagelaw1_num.f y3.2).bind fun y9 => (if y9 = 0 then ((hermitagelaw1_num.f y6.2).bind fun y10 => (if y10 = 0 then ((hermitageref0_EqSegs.f k y3.1 lt9_3).bind fun y11 => (if y11 = true then ((hermitageref0_EqSegs.f k y3.1 y6.1).bind fun y12 => (if y12 = true then ((hermitagelaw1_wakes.f k).bind fun y13 => (some y13)) else (some false))) else (some false))) else (some false))) else (some false))))
def hermitagelaw1_SegMany.j0 (p0 : hermitagelaw1Ask) (k : Nat) (lt3_0 : List (List Seg)) (it4_0 : Int) (re0 : (List (List Seg)) → Int → Option Bool) (bt23_1 : Bool) : Option Bool := (if bt23_1 = true then (if 0 ≤ it4_0 ∧ it4_0 < (p0.L.length : Int) then ((hermitageref1_Segs.f k (rd p0.L it4_0)).bind fun y2 => (if y2 = true then (if 0 ≤ it4_0 ∧ it4_0 < (p0.L.length : Int) then (if (lt3_0.length + 1) * 24 ≤ 140737488355328 then (hermitagelaw1_SegMany.j1 it4_0 re0 (lt3_0 ++ [(rd p0.L it4_0)])) else none) else none) else (hermitagelaw1_SegMany.j1 it4_0 re0 lt3_0))) else none) else ((seg_Join.f k lt3_0).bind fun y3 => (if (([] : List (List Seg)).length + lt3_0.length) * 24 ≤ 140737488355328 then (if ((([] : List (List Seg)) ++ lt3_0).length + lt3_0.length) * 24 ≤ 140737488355328 then ((seg_Join.f k ((([] : List (List Seg)) ++ lt3_0) ++ lt3_0)).bind fun y6 => (hermitagelaw1_SegMany.l1 k lt3_0 y3 y6 k ([] : List Seg) 0)) else none) else none)))
def hermitagelaw1_SegMany.l0 (p0 : hermitagelaw1Ask) (k : Nat) : Nat → (List (List Seg)) → Int → Option Bool
  | 0, _, _ => none
  | n + 1, lt3_0, it4_0 => (if it4_0 < (p0.L.length : Int) then (hermitagelaw1_SegMany.j0 p0 k lt3_0 it4_0 (hermitagelaw1_SegMany.l0 p0 k n) (decide (it4_0 < 8))) else (hermitagelaw1_SegMany.j0 p0 k lt3_0 it4_0 (hermitagelaw1_SegMany.l0 p0 k n) false))
def hermitagelaw1_SegMany.f (k : Nat) (p0 : hermitagelaw1Ask) : Option Bool := ((hermitagelaw1_Heavy.f k p0).bind fun y1 => (if y1 = true then (some true) else (hermitagelaw1_SegMany.l0 p0 k k ([] : List (List Seg)) 0)))
end Go.Proofs.YtnaajldlloglkaaDoor.W
