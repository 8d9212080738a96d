/- What the functions tell, as plain functions over numbers and lists; printed by a program of the claim. -/
import Derived.Test.YtnaajldlloglkaaDoorHQ
set_option linter.unusedVariables false
set_option linter.unusedSimpArgs false
namespace Go.Proofs.YtnaajldlloglkaaDoor.W
open Go.H
def tzl : List Int := [0, 1, 56, 2, 57, 49, 28, 3, 61, 58, 42, 50, 38, 29, 17, 4, 62, 47, 59, 36, 45, 43, 51, 22, 53, 39, 33, 30, 24, 18, 12, 5, 63, 55, 48, 27, 60, 41, 37, 16, 46, 35, 44, 21, 52, 32, 23, 11, 54, 26, 40, 15, 34, 20, 31, 10, 25, 14, 19, 9, 13, 8, 7, 6]
def tz : Nat → Int := fun i => tzl.getD i 0
structure Seg where
  At : Int
  Len : Int
  deriving DecidableEq, Inhabited
structure Device where
  ID : Int
  Size : Int
  Free : List Seg
  Late : List Seg
  deriving DecidableEq, Inhabited
structure Ptr where
  Dev : Int
  At : Int
  deriving DecidableEq, Inhabited
structure Act where
  Do : Int
  N : Int
  Not : Int
  P : List Ptr
  deriving DecidableEq, Inhabited
structure Script where
  L : List Device
  A : List Act
  deriving DecidableEq, Inhabited
/-! ### hermitage/hermitageref1.Segs: function 12 -/
def hermitageref1_Segs.j0 (it3_0 : Int) (re0 : Int → Option Bool) (bt70_1 : Bool) : Option Bool := (if bt70_1 = true then (some false) else (re0 (w64 (it3_0 + 1))))
def hermitageref1_Segs.l0 (p0 : List Seg) : Nat → Int → Option Bool
  | 0, _ => none
  | n + 1, it3_0 => (if it3_0 < (p0.length : Int) then (if 0 ≤ it3_0 ∧ it3_0 < (p0.length : Int) then (if ((rd p0 it3_0).At) < 0 then (hermitageref1_Segs.j0 it3_0 (hermitageref1_Segs.l0 p0 n) true) else (if 0 ≤ it3_0 ∧ it3_0 < (p0.length : Int) then (if ((rd p0 it3_0).Len) < 1 then (hermitageref1_Segs.j0 it3_0 (hermitageref1_Segs.l0 p0 n) true) else (if 0 ≤ it3_0 ∧ it3_0 < (p0.length : Int) then (if 64 < ((rd p0 it3_0).At) then (hermitageref1_Segs.j0 it3_0 (hermitageref1_Segs.l0 p0 n) true) else (if 0 ≤ it3_0 ∧ it3_0 < (p0.length : Int) then (if 0 ≤ it3_0 ∧ it3_0 < (p0.length : Int) then (if (w64 (64 - ((rd p0 it3_0).At))) < ((rd p0 it3_0).Len) then (hermitageref1_Segs.j0 it3_0 (hermitageref1_Segs.l0 p0 n) true) else (if 0 < it3_0 then (if 0 ≤ (w64 (it3_0 - 1)) ∧ (w64 (it3_0 - 1)) < (p0.length : Int) then (if 0 ≤ (w64 (it3_0 - 1)) ∧ (w64 (it3_0 - 1)) < (p0.length : Int) then (if 0 ≤ it3_0 ∧ it3_0 < (p0.length : Int) then (hermitageref1_Segs.j0 it3_0 (hermitageref1_Segs.l0 p0 n) (decide (((rd p0 it3_0).At) ≤ (w64 (((rd p0 (w64 (it3_0 - 1))).At) + ((rd p0 (w64 (it3_0 - 1))).Len)))))) else none) else none) else none) else (hermitageref1_Segs.j0 it3_0 (hermitageref1_Segs.l0 p0 n) false))) else none) else none)) else none)) else none)) else none) else (some true))
def hermitageref1_Segs.f (k : Nat) (p0 : List Seg) : Option Bool := (hermitageref1_Segs.l0 p0 k 0)
/-! ### hermitage/hermitagelaw0.DevicesWeight: function 65 -/
def hermitagelaw0_DevicesWeight.j0 (p0 : List Device) (it3_0 : Int) (it4_0 : Int) (re0 : Int → Int → Option Int) (bt14_1 : Bool) : Option Int := (if bt14_1 = true then (if 0 ≤ it4_0 ∧ it4_0 < (p0.length : Int) then (if 0 ≤ it4_0 ∧ it4_0 < (p0.length : Int) then (re0 (w64 ((w64 (it3_0 + (((rd p0 it4_0).Free).length : Int))) + (((rd p0 it4_0).Late).length : Int))) (w64 (it4_0 + 1))) else none) else none) else (some it3_0))
def hermitagelaw0_DevicesWeight.l0 (p0 : List Device) : Nat → Int → Int → Option Int
  | 0, _, _ => none
  | n + 1, it3_0, it4_0 => (if it4_0 < (p0.length : Int) then (hermitagelaw0_DevicesWeight.j0 p0 it3_0 it4_0 (hermitagelaw0_DevicesWeight.l0 p0 n) (decide (it3_0 < 1048576))) else (hermitagelaw0_DevicesWeight.j0 p0 it3_0 it4_0 (hermitagelaw0_DevicesWeight.l0 p0 n) false))
def hermitagelaw0_DevicesWeight.f (k : Nat) (p0 : List Device) : Option Int := (hermitagelaw0_DevicesWeight.l0 p0 k (p0.length : Int) 0)
/-! ### hermitage/hermitagelaw7.Heavy: function 36 -/
def hermitagelaw7_Heavy.j0 (p0 : Script) (it3_0 : Int) (it4_0 : Int) (re0 : Int → Int → Option Bool) (bt20_1 : Bool) : Option Bool := (if bt20_1 = true then (if 0 ≤ it4_0 ∧ it4_0 < (p0.A.length : Int) then (re0 (w64 (it3_0 + (((rd p0.A it4_0).P).length : Int))) (w64 (it4_0 + 1))) else none) else (some (decide (800 < it3_0))))
def hermitagelaw7_Heavy.l0 (p0 : Script) : Nat → Int → Int → Option Bool
  | 0, _, _ => none
  | n + 1, it3_0, it4_0 => (if it4_0 < (p0.A.length : Int) then (hermitagelaw7_Heavy.j0 p0 it3_0 it4_0 (hermitagelaw7_Heavy.l0 p0 n) (decide (it3_0 < 1048576))) else (hermitagelaw7_Heavy.j0 p0 it3_0 it4_0 (hermitagelaw7_Heavy.l0 p0 n) false))
def hermitagelaw7_Heavy.f (k : Nat) (p0 : Script) : Option Bool := ((hermitagelaw0_DevicesWeight.f k p0.L).bind fun y1 => (hermitagelaw7_Heavy.l0 p0 k (w64 (y1 + (p0.A.length : Int))) 0))
/-! ### hermitage/seg.To: function 58 -/
def seg_To.f (p0 : Int) : Option Int := (if 64 ≤ p0 then (some 18446744073709551615) else (if 0 ≤ p0 then (some (wu64 ((wu64 (1 * 2 ^ min p0.toNat 64)) - 1))) else none))
/-! ### hermitage/seg.Make: function 52 -/
def seg_Make.l0 (p0 : List Seg) : Nat → Int → Int → Option Int
  | 0, _, _ => none
  | n + 1, it3_0, it8_0 => (if it8_0 < (p0.length : Int) then (if 0 ≤ it8_0 ∧ it8_0 < (p0.length : Int) then ((seg_To.f (w64 (((rd p0 it8_0).At) + ((rd p0 it8_0).Len)))).bind fun y1 => ((seg_To.f ((rd p0 it8_0).At)).bind fun y2 => (seg_Make.l0 p0 n (uor it3_0 (uandn y1 y2)) (w64 (it8_0 + 1))))) else none) else (some it3_0))
def seg_Make.f (k : Nat) (p0 : List Seg) : Option Int := (seg_Make.l0 p0 k 0 0)
/-! ### hermitage/seg.May: function 51 -/
def seg_May.j0 (it7_0 : Int) (re0 : Int → Option Bool) (bt54_1 : Bool) : Option Bool := (if bt54_1 = true then (some false) else (re0 (w64 (it7_0 + 1))))
def seg_May.l0 (p0 : List Seg) : Nat → Int → Option Bool
  | 0, _ => none
  | n + 1, it7_0 => (if it7_0 < (p0.length : Int) then (if 0 ≤ it7_0 ∧ it7_0 < (p0.length : Int) then (if ((rd p0 it7_0).At) < 0 then (seg_May.j0 it7_0 (seg_May.l0 p0 n) true) else (if ((rd p0 it7_0).Len) < 1 then (seg_May.j0 it7_0 (seg_May.l0 p0 n) true) else (if 64 < ((rd p0 it7_0).At) then (seg_May.j0 it7_0 (seg_May.l0 p0 n) true) else (if (w64 (64 - ((rd p0 it7_0).At))) < ((rd p0 it7_0).Len) then (seg_May.j0 it7_0 (seg_May.l0 p0 n) true) else (if 0 < it7_0 then (if 0 ≤ (w64 (it7_0 - 1)) ∧ (w64 (it7_0 - 1)) < (p0.length : Int) then (if 0 ≤ (w64 (it7_0 - 1)) ∧ (w64 (it7_0 - 1)) < (p0.length : Int) then (seg_May.j0 it7_0 (seg_May.l0 p0 n) (decide (((rd p0 it7_0).At) ≤ (w64 (((rd p0 (w64 (it7_0 - 1))).At) + ((rd p0 (w64 (it7_0 - 1))).Len)))))) else none) else none) else (seg_May.j0 it7_0 (seg_May.l0 p0 n) false)))))) else none) else (some true))
def seg_May.f (k : Nat) (p0 : List Seg) : Option Bool := (seg_May.l0 p0 k 0)
/-! ### hermitage/room.ok: function 101 -/
def room_ok.f (k : Nat) (p0 : List Seg) (p1 : Int) : Option Bool := ((seg_May.f k p0).bind fun y1 => (if y1 = true then ((seg_Make.f k p0).bind fun y2 => ((seg_To.f p1).bind fun y3 => (some ((uandn y2 y3) == 0)))) else (some false)))
/-! ### hermitage/room.Device: function 82 -/
def room_Device.f (k : Nat) (p0 : Device) : Option Bool := (if 1 ≤ p0.ID then (if p0.ID ≤ 40 then (if 1 ≤ p0.Size then (if p0.Size ≤ 64 then ((room_ok.f k p0.Free p0.Size).bind fun y1 => (if y1 = true then ((room_ok.f k p0.Late p0.Size).bind fun y2 => (if y2 = true then ((seg_Make.f k p0.Free).bind fun y3 => ((seg_Make.f k p0.Late).bind fun y4 => (some ((uand y3 y4) == 0)))) else (some false))) else (some false))) else (some false)) else (some false)) else (some false)) else (some false))
/-! ### hermitage/room.May: function 66 -/
def room_May.j0 (it10_0 : Int) (re0 : Int → Option Bool) (bt32_1 : Bool) : Option Bool := (if bt32_1 = true then (some false) else (re0 (w64 (it10_0 + 1))))
def room_May.l0 (p0 : List Device) (k : Nat) : Nat → Int → Option Bool
  | 0, _ => none
  | n + 1, it10_0 => (if it10_0 < (p0.length : Int) then (if 0 ≤ it10_0 ∧ it10_0 < (p0.length : Int) then ((room_Device.f k (rd p0 it10_0)).bind fun y1 => (if y1 = true then (if 0 < it10_0 then (if 0 ≤ (w64 (it10_0 - 1)) ∧ (w64 (it10_0 - 1)) < (p0.length : Int) then (room_May.j0 it10_0 (room_May.l0 p0 k n) (decide (((rd p0 it10_0).ID) ≤ ((rd p0 (w64 (it10_0 - 1))).ID)))) else none) else (room_May.j0 it10_0 (room_May.l0 p0 k n) false)) else (room_May.j0 it10_0 (room_May.l0 p0 k n) true))) else none) else (some true))
def room_May.f (k : Nat) (p0 : List Device) : Option Bool := (if 6 < (p0.length : Int) then (some false) else (room_May.l0 p0 k k 0))
/-! ### slices.Clone[[]hermitage/api.Device,hermitage/api.Device]: function 83 -/
def slices_Clone_Device.f (p0 : List Device) : Option (List Device) := (if (([] : List Device).length + p0.length) * 64 ≤ 140737488355328 then (some (([] : List Device) ++ p0)) else none)
/-! ### slices.Clone[[]hermitage/api.Seg,hermitage/api.Seg]: function 84 -/
def slices_Clone_Seg.f (p0 : List Seg) : Option (List Seg) := (if (([] : List Seg).length + p0.length) * 16 ≤ 140737488355328 then (some (([] : List Seg) ++ p0)) else none)
/-! ### hermitage/room.Own: function 67 -/
def room_Own.l0 (y1 : (List Device)) : Nat → (List Device) → Int → Option (List Device)
  | 0, _, _ => none
  | n + 1, lt0_0, it8_0 => (if it8_0 < (y1.length : Int) then (if 0 ≤ it8_0 ∧ it8_0 < (lt0_0.length : Int) then (if 0 ≤ it8_0 ∧ it8_0 < (lt0_0.length : Int) then ((slices_Clone_Seg.f ((rd lt0_0 it8_0).Free)).bind fun y2 => ((slices_Clone_Seg.f ((rd lt0_0 it8_0).Late)).bind fun y3 => (if 0 ≤ it8_0 ∧ it8_0 < (lt0_0.length : Int) then (if 0 ≤ it8_0 ∧ it8_0 < ((lt0_0.set it8_0.toNat (⟨(rd lt0_0 it8_0).ID, (rd lt0_0 it8_0).Size, y2, (rd lt0_0 it8_0).Late⟩ : Device)).length : Int) then (room_Own.l0 y1 n ((lt0_0.set it8_0.toNat (⟨(rd lt0_0 it8_0).ID, (rd lt0_0 it8_0).Size, y2, (rd lt0_0 it8_0).Late⟩ : Device)).set it8_0.toNat (⟨(rd (lt0_0.set it8_0.toNat (⟨(rd lt0_0 it8_0).ID, (rd lt0_0 it8_0).Size, y2, (rd lt0_0 it8_0).Late⟩ : Device)) it8_0).ID, (rd (lt0_0.set it8_0.toNat (⟨(rd lt0_0 it8_0).ID, (rd lt0_0 it8_0).Size, y2, (rd lt0_0 it8_0).Late⟩ : Device)) it8_0).Size, (rd (lt0_0.set it8_0.toNat (⟨(rd lt0_0 it8_0).ID, (rd lt0_0 it8_0).Size, y2, (rd lt0_0 it8_0).Late⟩ : Device)) it8_0).Free, y3⟩ : Device)) (w64 (it8_0 + 1))) else none) else none))) else none) else none) else (some lt0_0))
def room_Own.f (k : Nat) (p0 : List Device) : Option (List Device) := ((slices_Clone_Device.f p0).bind fun y1 => (room_Own.l0 y1 k y1 0))
/-! ### math/bits.TrailingZeros64: function 100 -/
def math_bits_TrailingZeros64.f (p0 : Int) : Option Int := (if p0 = 0 then (some 64) else (if 0 ≤ ((wu64 ((uand p0 (wu64 (0 - p0))) * 285870213051353865)).fdiv (2 ^ min (58 : Int).toNat 64)) ∧ ((wu64 ((uand p0 (wu64 (0 - p0))) * 285870213051353865)).fdiv (2 ^ min (58 : Int).toNat 64)) < 64 then (some (w64 (tz ((wu64 ((uand p0 (wu64 (0 - p0))) * 285870213051353865)).fdiv (2 ^ min (58 : Int).toNat 64)).toNat))) else none))
/-! ### (hermitage/seg.Set).Least: function 80 -/
def seg_Set_Least.f (p0 : Int) : Option Int := ((math_bits_TrailingZeros64.f p0).bind fun y1 => (some y1))
/-! ### (hermitage/seg.Set).Sectors: function 60 -/
def seg_Set_Sectors.l0 : Nat → Int → (List Int) → Option (List Int)
  | 0, _, _ => none
  | n + 1, it0_0, lt2_0 => (if it0_0 = 0 then (some lt2_0) else ((seg_Set_Least.f it0_0).bind fun y1 => (if (lt2_0.length + 1) * 8 ≤ 140737488355328 then (seg_Set_Sectors.l0 n (uand it0_0 (wu64 (it0_0 - 1))) (lt2_0 ++ [y1])) else none)))
def seg_Set_Sectors.f (k : Nat) (p0 : Int) : Option (List Int) := (seg_Set_Sectors.l0 k p0 ([] : List Int))
/-! ### (hermitage/seg.Set).Segs: function 53 -/
def seg_Set_Segs.j0 (it9_0 : Int) (re0 : (List Seg) → Int → Option (List Seg)) (lt2_1 : List Seg) : Option (List Seg) := (re0 lt2_1 (w64 (it9_0 + 1)))
def seg_Set_Segs.j1 (y1 : (List Int)) (lt2_0 : List Seg) (it9_0 : Int) (re0 : (List Seg) → Int → Option (List Seg)) (bt33_2 : Bool) : Option (List Seg) := (if bt33_2 = true then (if 0 ≤ (w64 ((lt2_0.length : Int) - 1)) ∧ (w64 ((lt2_0.length : Int) - 1)) < (lt2_0.length : Int) then (if 0 ≤ (w64 ((lt2_0.length : Int) - 1)) ∧ (w64 ((lt2_0.length : Int) - 1)) < (lt2_0.length : Int) then (seg_Set_Segs.j0 it9_0 re0 (lt2_0.set (w64 ((lt2_0.length : Int) - 1)).toNat (⟨(rd lt2_0 (w64 ((lt2_0.length : Int) - 1))).At, w64 (((rd lt2_0 (w64 ((lt2_0.length : Int) - 1))).Len) + 1)⟩ : Seg))) else none) else none) else (if (lt2_0.length + 1) * 16 ≤ 140737488355328 then (seg_Set_Segs.j0 it9_0 re0 (lt2_0 ++ [(⟨rd y1 it9_0, 1⟩ : Seg)])) else none))
def seg_Set_Segs.l0 (y1 : (List Int)) : Nat → (List Seg) → Int → Option (List Seg)
  | 0, _, _ => none
  | n + 1, lt2_0, it9_0 => (if it9_0 < (y1.length : Int) then (if 0 ≤ it9_0 ∧ it9_0 < (y1.length : Int) then (if 0 < (lt2_0.length : Int) then (if 0 ≤ (w64 ((lt2_0.length : Int) - 1)) ∧ (w64 ((lt2_0.length : Int) - 1)) < (lt2_0.length : Int) then (if 0 ≤ (w64 ((lt2_0.length : Int) - 1)) ∧ (w64 ((lt2_0.length : Int) - 1)) < (lt2_0.length : Int) then (seg_Set_Segs.j1 y1 lt2_0 it9_0 (seg_Set_Segs.l0 y1 n) ((w64 (((rd lt2_0 (w64 ((lt2_0.length : Int) - 1))).At) + ((rd lt2_0 (w64 ((lt2_0.length : Int) - 1))).Len))) == (rd y1 it9_0))) else none) else none) else (seg_Set_Segs.j1 y1 lt2_0 it9_0 (seg_Set_Segs.l0 y1 n) false)) else none) else (some lt2_0))
def seg_Set_Segs.f (k : Nat) (p0 : Int) : Option (List Seg) := ((seg_Set_Sectors.f k p0).bind fun y1 => (seg_Set_Segs.l0 y1 k ([] : List Seg) 0))
/-! ### hermitage/room.Commit: function 37 -/
def room_Commit.j0 (lt4_0 : List Device) : Option ((List Device) × Int) := (some (lt4_0, 0))
def room_Commit.l0 (k : Nat) (y2 : (List Device)) : Nat → (List Device) → Int → Option ((List Device) × Int)
  | 0, _, _ => none
  | n + 1, ls0_4_1, it6_1 => (if it6_1 < (y2.length : Int) then (if 0 ≤ it6_1 ∧ it6_1 < (ls0_4_1.length : Int) then ((seg_Make.f k ((rd ls0_4_1 it6_1).Free)).bind fun y3 => ((seg_Make.f k ((rd ls0_4_1 it6_1).Late)).bind fun y4 => ((seg_Set_Segs.f k (uor y3 y4)).bind fun y5 => (if 0 ≤ it6_1 ∧ it6_1 < (ls0_4_1.length : Int) then (if 0 ≤ it6_1 ∧ it6_1 < ((ls0_4_1.set it6_1.toNat (⟨(rd ls0_4_1 it6_1).ID, (rd ls0_4_1 it6_1).Size, y5, (rd ls0_4_1 it6_1).Late⟩ : Device)).length : Int) then (room_Commit.l0 k y2 n ((ls0_4_1.set it6_1.toNat (⟨(rd ls0_4_1 it6_1).ID, (rd ls0_4_1 it6_1).Size, y5, (rd ls0_4_1 it6_1).Late⟩ : Device)).set it6_1.toNat (⟨(rd (ls0_4_1.set it6_1.toNat (⟨(rd ls0_4_1 it6_1).ID, (rd ls0_4_1 it6_1).Size, y5, (rd ls0_4_1 it6_1).Late⟩ : Device)) it6_1).ID, (rd (ls0_4_1.set it6_1.toNat (⟨(rd ls0_4_1 it6_1).ID, (rd ls0_4_1 it6_1).Size, y5, (rd ls0_4_1 it6_1).Late⟩ : Device)) it6_1).Size, (rd (ls0_4_1.set it6_1.toNat (⟨(rd ls0_4_1 it6_1).ID, (rd ls0_4_1 it6_1).Size, y5, (rd ls0_4_1 it6_1).Late⟩ : Device)) it6_1).Free, ([] : List Seg)⟩ : Device)) (w64 (it6_1 + 1))) else none) else none)))) else none) else (room_Commit.j0 ls0_4_1))
def room_Commit.f (k : Nat) (p0 : List Device) : Option ((List Device) × Int) := ((room_May.f k p0).bind fun y1 => (if y1 = true then ((room_Own.f k p0).bind fun y2 => (room_Commit.l0 k y2 k y2 0)) else (some (([] : List Device), 1))))
/-! ### hermitage/hermitagelaw7.num: function 38 -/
def hermitagelaw7_num.f (p0 : Int) : Option Int := (some p0)
/-! ### math/bits.OnesCount64: function 79 -/
def math_bits_OnesCount64.f (p0 : Int) : Option Int := (some (iand (w64 (wu64 ((wu64 ((wu64 ((uand (wu64 (((wu64 ((uand ((wu64 ((uand (p0.fdiv (2 ^ min (1 : Int).toNat 64)) 6148914691236517205) + (uand p0 6148914691236517205))).fdiv (2 ^ min (2 : Int).toNat 64)) 3689348814741910323) + (uand (wu64 ((uand (p0.fdiv (2 ^ min (1 : Int).toNat 64)) 6148914691236517205) + (uand p0 6148914691236517205))) 3689348814741910323))).fdiv (2 ^ min (4 : Int).toNat 64)) + (wu64 ((uand ((wu64 ((uand (p0.fdiv (2 ^ min (1 : Int).toNat 64)) 6148914691236517205) + (uand p0 6148914691236517205))).fdiv (2 ^ min (2 : Int).toNat 64)) 3689348814741910323) + (uand (wu64 ((uand (p0.fdiv (2 ^ min (1 : Int).toNat 64)) 6148914691236517205) + (uand p0 6148914691236517205))) 3689348814741910323))))) 1085102592571150095) + ((uand (wu64 (((wu64 ((uand ((wu64 ((uand (p0.fdiv (2 ^ min (1 : Int).toNat 64)) 6148914691236517205) + (uand p0 6148914691236517205))).fdiv (2 ^ min (2 : Int).toNat 64)) 3689348814741910323) + (uand (wu64 ((uand (p0.fdiv (2 ^ min (1 : Int).toNat 64)) 6148914691236517205) + (uand p0 6148914691236517205))) 3689348814741910323))).fdiv (2 ^ min (4 : Int).toNat 64)) + (wu64 ((uand ((wu64 ((uand (p0.fdiv (2 ^ min (1 : Int).toNat 64)) 6148914691236517205) + (uand p0 6148914691236517205))).fdiv (2 ^ min (2 : Int).toNat 64)) 3689348814741910323) + (uand (wu64 ((uand (p0.fdiv (2 ^ min (1 : Int).toNat 64)) 6148914691236517205) + (uand p0 6148914691236517205))) 3689348814741910323))))) 1085102592571150095).fdiv (2 ^ min (8 : Int).toNat 64)))) + ((wu64 ((uand (wu64 (((wu64 ((uand ((wu64 ((uand (p0.fdiv (2 ^ min (1 : Int).toNat 64)) 6148914691236517205) + (uand p0 6148914691236517205))).fdiv (2 ^ min (2 : Int).toNat 64)) 3689348814741910323) + (uand (wu64 ((uand (p0.fdiv (2 ^ min (1 : Int).toNat 64)) 6148914691236517205) + (uand p0 6148914691236517205))) 3689348814741910323))).fdiv (2 ^ min (4 : Int).toNat 64)) + (wu64 ((uand ((wu64 ((uand (p0.fdiv (2 ^ min (1 : Int).toNat 64)) 6148914691236517205) + (uand p0 6148914691236517205))).fdiv (2 ^ min (2 : Int).toNat 64)) 3689348814741910323) + (uand (wu64 ((uand (p0.fdiv (2 ^ min (1 : Int).toNat 64)) 6148914691236517205) + (uand p0 6148914691236517205))) 3689348814741910323))))) 1085102592571150095) + ((uand (wu64 (((wu64 ((uand ((wu64 ((uand (p0.fdiv (2 ^ min (1 : Int).toNat 64)) 6148914691236517205) + (uand p0 6148914691236517205))).fdiv (2 ^ min (2 : Int).toNat 64)) 3689348814741910323) + (uand (wu64 ((uand (p0.fdiv (2 ^ min (1 : Int).toNat 64)) 6148914691236517205) + (uand p0 6148914691236517205))) 3689348814741910323))).fdiv (2 ^ min (4 : Int).toNat 64)) + (wu64 ((uand ((wu64 ((uand (p0.fdiv (2 ^ min (1 : Int).toNat 64)) 6148914691236517205) + (uand p0 6148914691236517205))).fdiv (2 ^ min (2 : Int).toNat 64)) 3689348814741910323) + (uand (wu64 ((uand (p0.fdiv (2 ^ min (1 : Int).toNat 64)) 6148914691236517205) + (uand p0 6148914691236517205))) 3689348814741910323))))) 1085102592571150095).fdiv (2 ^ min (8 : Int).toNat 64)))).fdiv (2 ^ min (16 : Int).toNat 64)))) + ((wu64 ((wu64 ((uand (wu64 (((wu64 ((uand ((wu64 ((uand (p0.fdiv (2 ^ min (1 : Int).toNat 64)) 6148914691236517205) + (uand p0 6148914691236517205))).fdiv (2 ^ min (2 : Int).toNat 64)) 3689348814741910323) + (uand (wu64 ((uand (p0.fdiv (2 ^ min (1 : Int).toNat 64)) 6148914691236517205) + (uand p0 6148914691236517205))) 3689348814741910323))).fdiv (2 ^ min (4 : Int).toNat 64)) + (wu64 ((uand ((wu64 ((uand (p0.fdiv (2 ^ min (1 : Int).toNat 64)) 6148914691236517205) + (uand p0 6148914691236517205))).fdiv (2 ^ min (2 : Int).toNat 64)) 3689348814741910323) + (uand (wu64 ((uand (p0.fdiv (2 ^ min (1 : Int).toNat 64)) 6148914691236517205) + (uand p0 6148914691236517205))) 3689348814741910323))))) 1085102592571150095) + ((uand (wu64 (((wu64 ((uand ((wu64 ((uand (p0.fdiv (2 ^ min (1 : Int).toNat 64)) 6148914691236517205) + (uand p0 6148914691236517205))).fdiv (2 ^ min (2 : Int).toNat 64)) 3689348814741910323) + (uand (wu64 ((uand (p0.fdiv (2 ^ min (1 : Int).toNat 64)) 6148914691236517205) + (uand p0 6148914691236517205))) 3689348814741910323))).fdiv (2 ^ min (4 : Int).toNat 64)) + (wu64 ((uand ((wu64 ((uand (p0.fdiv (2 ^ min (1 : Int).toNat 64)) 6148914691236517205) + (uand p0 6148914691236517205))).fdiv (2 ^ min (2 : Int).toNat 64)) 3689348814741910323) + (uand (wu64 ((uand (p0.fdiv (2 ^ min (1 : Int).toNat 64)) 6148914691236517205) + (uand p0 6148914691236517205))) 3689348814741910323))))) 1085102592571150095).fdiv (2 ^ min (8 : Int).toNat 64)))) + ((wu64 ((uand (wu64 (((wu64 ((uand ((wu64 ((uand (p0.fdiv (2 ^ min (1 : Int).toNat 64)) 6148914691236517205) + (uand p0 6148914691236517205))).fdiv (2 ^ min (2 : Int).toNat 64)) 3689348814741910323) + (uand (wu64 ((uand (p0.fdiv (2 ^ min (1 : Int).toNat 64)) 6148914691236517205) + (uand p0 6148914691236517205))) 3689348814741910323))).fdiv (2 ^ min (4 : Int).toNat 64)) + (wu64 ((uand ((wu64 ((uand (p0.fdiv (2 ^ min (1 : Int).toNat 64)) 6148914691236517205) + (uand p0 6148914691236517205))).fdiv (2 ^ min (2 : Int).toNat 64)) 3689348814741910323) + (uand (wu64 ((uand (p0.fdiv (2 ^ min (1 : Int).toNat 64)) 6148914691236517205) + (uand p0 6148914691236517205))) 3689348814741910323))))) 1085102592571150095) + ((uand (wu64 (((wu64 ((uand ((wu64 ((uand (p0.fdiv (2 ^ min (1 : Int).toNat 64)) 6148914691236517205) + (uand p0 6148914691236517205))).fdiv (2 ^ min (2 : Int).toNat 64)) 3689348814741910323) + (uand (wu64 ((uand (p0.fdiv (2 ^ min (1 : Int).toNat 64)) 6148914691236517205) + (uand p0 6148914691236517205))) 3689348814741910323))).fdiv (2 ^ min (4 : Int).toNat 64)) + (wu64 ((uand ((wu64 ((uand (p0.fdiv (2 ^ min (1 : Int).toNat 64)) 6148914691236517205) + (uand p0 6148914691236517205))).fdiv (2 ^ min (2 : Int).toNat 64)) 3689348814741910323) + (uand (wu64 ((uand (p0.fdiv (2 ^ min (1 : Int).toNat 64)) 6148914691236517205) + (uand p0 6148914691236517205))) 3689348814741910323))))) 1085102592571150095).fdiv (2 ^ min (8 : Int).toNat 64)))).fdiv (2 ^ min (16 : Int).toNat 64)))).fdiv (2 ^ min (32 : Int).toNat 64))))) 127))
/-! ### (hermitage/seg.Set).Count: function 59 -/
def seg_Set_Count.f (p0 : Int) : Option Int := ((math_bits_OnesCount64.f p0).bind fun y1 => (some y1))
/-! ### hermitage/room.Free: function 69 -/
def room_Free.j0 (it10_0 : Int) (re0 : Int → Int → Option Int) (it5_1 : Int) : Option Int := (re0 it5_1 (w64 (it10_0 + 1)))
def room_Free.l0 (p0 : List Device) (p1 : Int) (k : Nat) : Nat → Int → Int → Option Int
  | 0, _, _ => none
  | n + 1, it5_0, it10_0 => (if it10_0 < (p0.length : Int) then (if 0 ≤ it10_0 ∧ it10_0 < (p0.length : Int) then (if (rd p0 it10_0).ID = p1 then (room_Free.j0 it10_0 (room_Free.l0 p0 p1 k n) it5_0) else ((seg_Make.f k ((rd p0 it10_0).Free)).bind fun y1 => ((seg_Set_Count.f y1).bind fun y2 => (room_Free.j0 it10_0 (room_Free.l0 p0 p1 k n) (w64 (it5_0 + y2)))))) else none) else (some it5_0))
def room_Free.f (k : Nat) (p0 : List Device) (p1 : Int) : Option Int := (room_Free.l0 p0 p1 k k 0 0)
/-! ### hermitage/room.Count: function 39 -/
def room_Count.f (k : Nat) (p0 : List Device) (p1 : Int) : Option (Int × Int) := ((room_May.f k p0).bind fun y1 => (if y1 = true then ((room_Free.f k p0 p1).bind fun y2 => (some (y2, 0))) else (some (0, 1))))
/-! ### hermitage/seg.One: function 63 -/
def seg_One.f (p0 : Int) : Option Int := (if 0 ≤ p0 then (some (wu64 (1 * 2 ^ min p0.toNat 64))) else none)
/-! ### hermitage/room.emptiest: function 102 -/
def room_emptiest.j0 (it12_0 : Int) (re0 : Int → Int → Int → Option Int) (it5_1 : Int) (it6_1 : Int) : Option Int := (re0 it5_1 it6_1 (w64 (it12_0 + 1)))
def room_emptiest.j1 (it5_0 : Int) (it6_0 : Int) (it12_0 : Int) (y2 : Int) (re0 : Int → Int → Int → Option Int) (bt29_2 : Bool) : Option Int := (if bt29_2 = true then (room_emptiest.j0 it12_0 re0 it12_0 y2) else (room_emptiest.j0 it12_0 re0 it5_0 it6_0))
def room_emptiest.l0 (p0 : List Device) (p1 : Int) (k : Nat) : Nat → Int → Int → Int → Option Int
  | 0, _, _, _ => none
  | n + 1, it5_0, it6_0, it12_0 => (if it12_0 < (p0.length : Int) then (if 0 ≤ it12_0 ∧ it12_0 < (p0.length : Int) then ((seg_Make.f k ((rd p0 it12_0).Free)).bind fun y1 => ((seg_Set_Count.f y1).bind fun y2 => (if (rd p0 it12_0).ID = p1 then (room_emptiest.j1 it5_0 it6_0 it12_0 y2 (room_emptiest.l0 p0 p1 k n) false) else (room_emptiest.j1 it5_0 it6_0 it12_0 y2 (room_emptiest.l0 p0 p1 k n) (decide (it6_0 < y2)))))) else none) else (some it5_0))
def room_emptiest.f (k : Nat) (p0 : List Device) (p1 : Int) : Option Int := (room_emptiest.l0 p0 p1 k k (-1) 0 0)
/-! ### hermitage/room.Take: function 40 -/
def room_Take.j1 (lt7_1 : List Device) (lt27_0_1 : List Ptr) (bt27_1_1 : Bool) : Option ((List Ptr) × (List Device) × Int) := (if bt27_1_1 = true then (some (lt27_0_1, lt7_1, 0)) else (some (([] : List Ptr), ([] : List Device), 5)))
def room_Take.j2 (lt6_2 : List Ptr) (it16_2 : Int) (re2 : (List Device) → (List Ptr) → Int → Option ((List Ptr) × (List Device) × Int)) (ls0_7_3 : List Device) (it21_0_3 : Int) (it21_1_3 : Int) (bt21_2_3 : Bool) : Option ((List Ptr) × (List Device) × Int) := (if (lt6_2.length + 1) * 16 ≤ 140737488355328 then (re2 ls0_7_3 (lt6_2 ++ [(⟨it21_0_3, it21_1_3⟩ : Ptr)]) (w64 (it16_2 + 1))) else none)
def room_Take.l0 (p1 : Int) (p2 : Int) (k : Nat) : Nat → (List Device) → (List Ptr) → Int → Option ((List Ptr) × (List Device) × Int)
  | 0, _, _, _ => none
  | n + 1, ls0_7_2, lt6_2, it16_2 => (if it16_2 < p1 then ((room_emptiest.f k ls0_7_2 p2).bind fun y4 => (if y4 < 0 then (room_Take.j2 lt6_2 it16_2 (room_Take.l0 p1 p2 k n) ls0_7_2 0 0 false) else (if 0 ≤ y4 ∧ y4 < (ls0_7_2.length : Int) then ((seg_Make.f k ((rd ls0_7_2 y4).Free)).bind fun y5 => (if 0 ≤ y4 ∧ y4 < (ls0_7_2.length : Int) then ((seg_Set_Least.f y5).bind fun y6 => ((seg_One.f y6).bind fun y7 => ((seg_Set_Segs.f k (uandn y5 y7)).bind fun y8 => (if 0 ≤ y4 ∧ y4 < (ls0_7_2.length : Int) then (room_Take.j2 lt6_2 it16_2 (room_Take.l0 p1 p2 k n) (ls0_7_2.set y4.toNat (⟨(rd ls0_7_2 y4).ID, (rd ls0_7_2 y4).Size, y8, (rd ls0_7_2 y4).Late⟩ : Device)) ((rd ls0_7_2 y4).ID) y6 true) else none)))) else none)) else none))) else (room_Take.j1 ls0_7_2 lt6_2 true))
def room_Take.j0 (p0 : List Device) (p1 : Int) (p2 : Int) (k : Nat) (bt20_0 : Bool) : Option ((List Ptr) × (List Device) × Int) := (if bt20_0 = true then (some (([] : List Ptr), ([] : List Device), 1)) else ((room_Own.f k p0).bind fun y2 => ((room_Free.f k y2 p2).bind fun y3 => (if y3 < p1 then (room_Take.j1 y2 ([] : List Ptr) false) else (room_Take.l0 p1 p2 k k y2 ([] : List Ptr) 0)))))
def room_Take.f (k : Nat) (p0 : List Device) (p1 : Int) (p2 : Int) : Option ((List Ptr) × (List Device) × Int) := ((room_May.f k p0).bind fun y1 => (if y1 = true then (if p1 < 0 then (room_Take.j0 p0 p1 p2 k true) else (room_Take.j0 p0 p1 p2 k (decide (384 < p1)))) else (room_Take.j0 p0 p1 p2 k true)))
/-! ### (hermitage/seg.Set).Has: function 64 -/
def seg_Set_Has.f (p0 : Int) (p1 : Int) : Option Bool := (if 0 ≤ p1 then (if p1 < 64 then ((seg_One.f p1).bind fun y1 => (some ((uand p0 y1) != 0))) else (some false)) else (some false))
/-! ### hermitage/room.Find$1: function 104 -/
def room_Find_1.f (p0 : Device) (p1 : Int) : Option Int := (some (w64 (p0.ID - p1)))
/-! ### hermitage/room.Find: function 86 -/
def room_Find.j0 (it8_0_0 : Int) (bt8_1_0 : Bool) : Option (Int × Bool) := (some (it8_0_0, bt8_1_0))
def room_Find.l0 (p0 : List Device) (p1 : Int) : Nat → Int → Int → Option (Int × Bool)
  | 0, _, _ => none
  | n + 1, it9_1, it10_1 => (if it9_1 < it10_1 then (if 0 ≤ (w64 ((wu64 (w64 (it9_1 + it10_1))).fdiv (2 ^ min (1 : Int).toNat 64))) ∧ (w64 ((wu64 (w64 (it9_1 + it10_1))).fdiv (2 ^ min (1 : Int).toNat 64))) < (p0.length : Int) then ((room_Find_1.f (rd p0 (w64 ((wu64 (w64 (it9_1 + it10_1))).fdiv (2 ^ min (1 : Int).toNat 64)))) p1).bind fun y1 => (if y1 < 0 then (room_Find.l0 p0 p1 n (w64 ((w64 ((wu64 (w64 (it9_1 + it10_1))).fdiv (2 ^ min (1 : Int).toNat 64))) + 1)) it10_1) else (room_Find.l0 p0 p1 n it9_1 (w64 ((wu64 (w64 (it9_1 + it10_1))).fdiv (2 ^ min (1 : Int).toNat 64)))))) else none) else (if it9_1 < (p0.length : Int) then (if 0 ≤ it9_1 ∧ it9_1 < (p0.length : Int) then ((room_Find_1.f (rd p0 it9_1) p1).bind fun y2 => (room_Find.j0 it9_1 (y2 == 0))) else none) else (room_Find.j0 it9_1 false)))
def room_Find.f (k : Nat) (p0 : List Device) (p1 : Int) : Option (Int × Bool) := (room_Find.l0 p0 p1 k 0 (p0.length : Int))
/-! ### hermitage/room.Busy: function 87 -/
def room_Busy.f (k : Nat) (p0 : Device) : Option Int := ((seg_To.f p0.Size).bind fun y1 => ((seg_Make.f k p0.Free).bind fun y2 => ((seg_Make.f k p0.Late).bind fun y3 => (some (uandn y1 (uor y2 y3))))))
/-! ### hermitage/room.Give: function 41 -/
def room_Give.j0 (it17_0 : Int) (re0 : (List Device) → Int → Option ((List Device) × Int)) (lt6_1 : List Device) (it23_1 : Int) : Option ((List Device) × Int) := (if it23_1 = 0 then (re0 lt6_1 (w64 (it17_0 + 1))) else (some (([] : List Device), it23_1)))
def room_Give.j1 (p1 : List Ptr) (k : Nat) (it17_0 : Int) (lt6_0 : List Device) (y3 : Int × Bool) (re0 : (List Device) → Int → Option ((List Device) × Int)) (bt17_2 : Bool) : Option ((List Device) × Int) := (if bt17_2 = true then (room_Give.j0 it17_0 re0 lt6_0 1) else (if 0 ≤ y3.1 ∧ y3.1 < (lt6_0.length : Int) then ((room_Busy.f k (rd lt6_0 y3.1)).bind fun y4 => ((seg_Set_Has.f y4 ((rd p1 it17_0).At)).bind fun y5 => (if y5 = true then (if 0 ≤ y3.1 ∧ y3.1 < (lt6_0.length : Int) then ((seg_Make.f k ((rd lt6_0 y3.1).Late)).bind fun y6 => ((seg_One.f ((rd p1 it17_0).At)).bind fun y7 => ((seg_Set_Segs.f k (uor y6 y7)).bind fun y8 => (if 0 ≤ y3.1 ∧ y3.1 < (lt6_0.length : Int) then (room_Give.j0 it17_0 re0 (lt6_0.set y3.1.toNat (⟨(rd lt6_0 y3.1).ID, (rd lt6_0 y3.1).Size, (rd lt6_0 y3.1).Free, y8⟩ : Device)) 0) else none)))) else none) else (room_Give.j0 it17_0 re0 lt6_0 4)))) else none))
def room_Give.l0 (p1 : List Ptr) (k : Nat) : Nat → (List Device) → Int → Option ((List Device) × Int)
  | 0, _, _ => none
  | n + 1, lt6_0, it17_0 => (if it17_0 < (p1.length : Int) then (if 0 ≤ it17_0 ∧ it17_0 < (p1.length : Int) then ((room_Find.f k lt6_0 ((rd p1 it17_0).Dev)).bind fun y3 => (if y3.2 = true then (if ((rd p1 it17_0).At) < 0 then (room_Give.j1 p1 k it17_0 lt6_0 y3 (room_Give.l0 p1 k n) true) else (if 0 ≤ y3.1 ∧ y3.1 < (lt6_0.length : Int) then (room_Give.j1 p1 k it17_0 lt6_0 y3 (room_Give.l0 p1 k n) (decide (((rd lt6_0 y3.1).Size) ≤ ((rd p1 it17_0).At)))) else none)) else (room_Give.j0 it17_0 (room_Give.l0 p1 k n) lt6_0 3))) else none) else (some (lt6_0, 0)))
def room_Give.f (k : Nat) (p0 : List Device) (p1 : List Ptr) : Option ((List Device) × Int) := ((room_May.f k p0).bind fun y1 => (if y1 = true then ((room_Own.f k p0).bind fun y2 => (room_Give.l0 p1 k k y2 0)) else (some (([] : List Device), 1))))
/-! ### hermitage/hermitageref0.EqSegs: function 15 -/
def hermitageref0_EqSegs.l0 (p0 : List Seg) (p1 : List Seg) : Nat → Int → Option Bool
  | 0, _ => none
  | n + 1, it5_0 => (if it5_0 < (p0.length : Int) then (if 0 ≤ it5_0 ∧ it5_0 < (p0.length : Int) then (if 0 ≤ it5_0 ∧ it5_0 < (p1.length : Int) then (if (rd p0 it5_0) = (rd p1 it5_0) then (hermitageref0_EqSegs.l0 p0 p1 n (w64 (it5_0 + 1))) else (some false)) else none) else none) else (some true))
def hermitageref0_EqSegs.f (k : Nat) (p0 : List Seg) (p1 : List Seg) : Option Bool := (if (p0.length : Int) = (p1.length : Int) then (hermitageref0_EqSegs.l0 p0 p1 k 0) else (some false))
/-! ### hermitage/hermitageref0.EqDevice: function 72 -/
def hermitageref0_EqDevice.f (k : Nat) (p0 : Device) (p1 : Device) : Option Bool := (if p0.ID = p1.ID then (if p0.Size = p1.Size then ((hermitageref0_EqSegs.f k p0.Free p1.Free).bind fun y1 => (if y1 = true then ((hermitageref0_EqSegs.f k p0.Late p1.Late).bind fun y2 => (some y2)) else (some false))) else (some false)) else (some false))
/-! ### hermitage/hermitageref0.EqDevices: function 42 -/
def hermitageref0_EqDevices.l0 (p0 : List Device) (p1 : List Device) (k : Nat) : Nat → Int → Option Bool
  | 0, _ => none
  | n + 1, it5_0 => (if it5_0 < (p0.length : Int) then (if 0 ≤ it5_0 ∧ it5_0 < (p0.length : Int) then (if 0 ≤ it5_0 ∧ it5_0 < (p1.length : Int) then ((hermitageref0_EqDevice.f k (rd p0 it5_0) (rd p1 it5_0)).bind fun y1 => (if y1 = true then (hermitageref0_EqDevices.l0 p0 p1 k n (w64 (it5_0 + 1))) else (some false))) else none) else none) else (some true))
def hermitageref0_EqDevices.f (k : Nat) (p0 : List Device) (p1 : List Device) : Option Bool := (if (p0.length : Int) = (p1.length : Int) then (hermitageref0_EqDevices.l0 p0 p1 k k 0) else (some false))
/-! ### hermitage/hermitageref0.EqPtrs: function 73 -/
def hermitageref0_EqPtrs.l0 (p0 : List Ptr) (p1 : List Ptr) : Nat → Int → Option Bool
  | 0, _ => none
  | n + 1, it5_0 => (if it5_0 < (p0.length : Int) then (if 0 ≤ it5_0 ∧ it5_0 < (p0.length : Int) then (if 0 ≤ it5_0 ∧ it5_0 < (p1.length : Int) then (if (rd p0 it5_0) = (rd p1 it5_0) then (hermitageref0_EqPtrs.l0 p0 p1 n (w64 (it5_0 + 1))) else (some false)) else none) else none) else (some true))
def hermitageref0_EqPtrs.f (k : Nat) (p0 : List Ptr) (p1 : List Ptr) : Option Bool := (if (p0.length : Int) = (p1.length : Int) then (hermitageref0_EqPtrs.l0 p0 p1 k 0) else (some false))
/-! ### hermitage/hermitagelaw7.wakes: function 43 -/
def hermitagelaw7_wakes.f (k : Nat) : Option Bool := ((room_Take.f k ([(⟨1, 2, ([(⟨0, 2⟩ : Seg)] : List Seg), ([] : List Seg)⟩ : Device), (⟨2, 3, ([(⟨0, 3⟩ : Seg)] : List Seg), ([] : List Seg)⟩ : Device)] : List Device) 1 0).bind fun y1 => ((hermitagelaw7_num.f y1.2.2).bind fun y2 => (if y2 = 0 then ((hermitageref0_EqPtrs.f k y1.1 ([(⟨2, 0⟩ : Ptr)] : List Ptr)).bind fun y3 => (some y3)) else (some false))))
/-! ### hermitage/hermitagelaw7.RoomBack: function 8 -/
def hermitagelaw7_RoomBack.l2 (y6 : (List Ptr) × (List Device) × Int) (it17_4 : Int) (re4 : Int → Option Bool) : Nat → Int → Option Bool
  | 0, _ => none
  | n + 1, it18_5 => (if it18_5 < it17_4 then (if 0 ≤ it17_4 ∧ it17_4 < (y6.1.length : Int) then (if 0 ≤ it18_5 ∧ it18_5 < (y6.1.length : Int) then (if (rd y6.1 it17_4) = (rd y6.1 it18_5) then (some false) else (hermitagelaw7_RoomBack.l2 y6 it17_4 re4 n (w64 (it18_5 + 1)))) else none) else none) else (re4 (w64 (it17_4 + 1))))
def hermitagelaw7_RoomBack.j1 (it7_0 : Int) (re0 : Int → Option Bool) : Option Bool := (re0 (w64 (it7_0 + 1)))
def hermitagelaw7_RoomBack.l1 (k : Nat) (it7_0 : Int) (y6 : (List Ptr) × (List Device) × Int) (re0 : Int → Option Bool) : Nat → Int → Option Bool
  | 0, _ => none
  | n + 1, it17_4 => (if it17_4 < it7_0 then (hermitagelaw7_RoomBack.l2 y6 it17_4 (hermitagelaw7_RoomBack.l1 k it7_0 y6 re0 n) k 0) else (hermitagelaw7_RoomBack.j1 it7_0 re0))
def hermitagelaw7_RoomBack.j2 (k : Nat) (it7_0 : Int) (y6 : (List Ptr) × (List Device) × Int) (re0 : Int → Option Bool) (bt100_3 : Bool) : Option Bool := (if bt100_3 = true then (some false) else (hermitagelaw7_RoomBack.l1 k it7_0 y6 re0 k 0))
def hermitagelaw7_RoomBack.j0 (k : Nat) (y2 : (List Device) × Int) (y4 : Int × Int) (it7_0 : Int) (re0 : Int → Option Bool) (bt44_1 : Bool) : Option Bool := (if bt44_1 = true then ((room_Take.f k y2.1 it7_0 0).bind fun y6 => ((room_Count.f k y6.2.1 0).bind fun y7 => ((room_Give.f k y6.2.1 y6.1).bind fun y8 => ((room_Commit.f k y8.1).bind fun y9 => ((hermitagelaw7_num.f y6.2.2).bind fun y10 => ((hermitagelaw7_num.f y7.2).bind fun y11 => ((hermitagelaw7_num.f y8.2).bind fun y12 => ((hermitagelaw7_num.f y9.2).bind fun y13 => (if w64 ((w64 ((w64 (y10 + y11)) + y12)) + y13) = 0 then (if (y6.1.length : Int) = it7_0 then (if y7.1 = w64 (y4.1 - it7_0) then ((hermitageref0_EqDevices.f k y9.1 y2.1).bind fun y14 => (hermitagelaw7_RoomBack.j2 k it7_0 y6 re0 (!y14))) else (hermitagelaw7_RoomBack.j2 k it7_0 y6 re0 true)) else (hermitagelaw7_RoomBack.j2 k it7_0 y6 re0 true)) else (hermitagelaw7_RoomBack.j2 k it7_0 y6 re0 true)))))))))) else ((hermitageref1_Segs.f k ([] : List Seg)).bind fun y15 => (if y15 = true then ((hermitagelaw7_wakes.f k).bind fun y16 => (some y16)) else (some false))))
def hermitagelaw7_RoomBack.l0 (k : Nat) (y2 : (List Device) × Int) (y4 : Int × Int) : Nat → Int → Option Bool
  | 0, _ => none
  | n + 1, it7_0 => (if it7_0 ≤ y4.1 then (hermitagelaw7_RoomBack.j0 k y2 y4 it7_0 (hermitagelaw7_RoomBack.l0 k y2 y4 n) (decide (it7_0 < 20))) else (hermitagelaw7_RoomBack.j0 k y2 y4 it7_0 (hermitagelaw7_RoomBack.l0 k y2 y4 n) false))
def hermitagelaw7_RoomBack.f (k : Nat) (p0 : Script) : Option Bool := ((hermitagelaw7_Heavy.f k p0).bind fun y1 => (if y1 = true then (some true) else ((room_Commit.f k p0.L).bind fun y2 => ((hermitagelaw7_num.f y2.2).bind fun y3 => (if y3 = 0 then ((room_Count.f k y2.1 0).bind fun y4 => ((hermitagelaw7_num.f y4.2).bind fun y5 => (if y5 = 0 then (hermitagelaw7_RoomBack.l0 k y2 y4 k 0) else (some false)))) else (some true))))))
end Go.Proofs.YtnaajldlloglkaaDoor.W
