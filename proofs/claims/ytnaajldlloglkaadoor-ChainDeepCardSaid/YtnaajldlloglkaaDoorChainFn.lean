/- What the functions tell, as plain functions over numbers and lists; printed by a program of the claim. -/
import Derived.Test.YtnaajldlloglkaaDoorHU
set_option linter.unusedVariables false
set_option linter.unusedSimpArgs false
namespace Go.Proofs.YtnaajldlloglkaaDoor.W
open Go.H
def tzl : List Int := [0, 1, 56, 2, 57, 49, 28, 3, 61, 58, 42, 50, 38, 29, 17, 4, 62, 47, 59, 36, 45, 43, 51, 22, 53, 39, 33, 30, 24, 18, 12, 5, 63, 55, 48, 27, 60, 41, 37, 16, 46, 35, 44, 21, 52, 32, 23, 11, 54, 26, 40, 15, 34, 20, 31, 10, 25, 14, 19, 9, 13, 8, 7, 6]
def tz : Nat → Int := fun i => tzl.getD i 0
structure Ptr where
  Dev : Int
  At : Int
  deriving DecidableEq, Inhabited
structure Entry where
  From : Int
  Len : Int
  Dev : Int
  To : Int
  Stale : Int
  deriving DecidableEq, Inhabited
structure Table where
  Dev : Int
  Size : Int
  List_ : List Entry
  deriving DecidableEq, Inhabited
structure Job where
  Dev : Int
  At : Int
  Table : Table
  deriving DecidableEq, Inhabited
structure Seg where
  At : Int
  Len : Int
  deriving DecidableEq, Inhabited
structure Device where
  ID : Int
  Size : Int
  Free : List Seg
  Late : List Seg
  deriving DecidableEq, Inhabited
structure Pool where
  Devices : List Device
  Tables : List Table
  Job : Job
  Next : Int
  deriving DecidableEq, Inhabited
structure hermitagelaw9Ask where
  P : Pool
  Q : List Ptr
  deriving DecidableEq, Inhabited
structure Trail where
  Ptr_ : Ptr
  Way : List Ptr
  deriving DecidableEq, Inhabited
/-! ### hermitage/hermitageref0.EqSegs: function 15 -/
def hermitageref0_EqSegs.l0 (p0 : List Seg) (p1 : List Seg) : Nat → Int → Option Bool
  | 0, _ => none
  | n + 1, it5_0 => (if it5_0 < (p0.length : Int) then (if 0 ≤ it5_0 ∧ it5_0 < (p0.length : Int) then (if 0 ≤ it5_0 ∧ it5_0 < (p1.length : Int) then (if (rd p0 it5_0) = (rd p1 it5_0) then (hermitageref0_EqSegs.l0 p0 p1 n (w64 (it5_0 + 1))) else (some false)) else none) else none) else (some true))
def hermitageref0_EqSegs.f (k : Nat) (p0 : List Seg) (p1 : List Seg) : Option Bool := (if (p0.length : Int) = (p1.length : Int) then (hermitageref0_EqSegs.l0 p0 p1 k 0) else (some false))
/-! ### hermitage/hermitagelaw0.Within: function 45 -/
def hermitagelaw0_Within.f (p0 : Int) (p1 : Int) : Option Int := (if ¬ wu64 (p1) = 0 then (some (w64 ((wu64 (p0)).tmod (wu64 (p1))))) else none)
/-! ### hermitage/seg.To: function 58 -/
def seg_To.f (p0 : Int) : Option Int := (if 64 ≤ p0 then (some 18446744073709551615) else (if 0 ≤ p0 then (some (wu64 ((wu64 (1 * 2 ^ min p0.toNat 64)) - 1))) else none))
/-! ### hermitage/seg.Make: function 52 -/
def seg_Make.l0 (p0 : List Seg) : Nat → Int → Int → Option Int
  | 0, _, _ => none
  | n + 1, it3_0, it8_0 => (if it8_0 < (p0.length : Int) then (if 0 ≤ it8_0 ∧ it8_0 < (p0.length : Int) then ((seg_To.f (w64 (((rd p0 it8_0).At) + ((rd p0 it8_0).Len)))).bind fun y1 => ((seg_To.f ((rd p0 it8_0).At)).bind fun y2 => (seg_Make.l0 p0 n (uor it3_0 (uandn y1 y2)) (w64 (it8_0 + 1))))) else none) else (some it3_0))
def seg_Make.f (k : Nat) (p0 : List Seg) : Option Int := (seg_Make.l0 p0 k 0 0)
/-! ### hermitage/seg.May: function 51 -/
def seg_May.j0 (it7_0 : Int) (re0 : Int → Option Bool) (bt54_1 : Bool) : Option Bool := (if bt54_1 = true then (some false) else (re0 (w64 (it7_0 + 1))))
def seg_May.l0 (p0 : List Seg) : Nat → Int → Option Bool
  | 0, _ => none
  | n + 1, it7_0 => (if it7_0 < (p0.length : Int) then (if 0 ≤ it7_0 ∧ it7_0 < (p0.length : Int) then (if ((rd p0 it7_0).At) < 0 then (seg_May.j0 it7_0 (seg_May.l0 p0 n) true) else (if ((rd p0 it7_0).Len) < 1 then (seg_May.j0 it7_0 (seg_May.l0 p0 n) true) else (if 64 < ((rd p0 it7_0).At) then (seg_May.j0 it7_0 (seg_May.l0 p0 n) true) else (if (w64 (64 - ((rd p0 it7_0).At))) < ((rd p0 it7_0).Len) then (seg_May.j0 it7_0 (seg_May.l0 p0 n) true) else (if 0 < it7_0 then (if 0 ≤ (w64 (it7_0 - 1)) ∧ (w64 (it7_0 - 1)) < (p0.length : Int) then (if 0 ≤ (w64 (it7_0 - 1)) ∧ (w64 (it7_0 - 1)) < (p0.length : Int) then (seg_May.j0 it7_0 (seg_May.l0 p0 n) (decide (((rd p0 it7_0).At) ≤ (w64 (((rd p0 (w64 (it7_0 - 1))).At) + ((rd p0 (w64 (it7_0 - 1))).Len)))))) else none) else none) else (seg_May.j0 it7_0 (seg_May.l0 p0 n) false)))))) else none) else (some true))
def seg_May.f (k : Nat) (p0 : List Seg) : Option Bool := (seg_May.l0 p0 k 0)
/-! ### hermitage/room.ok: function 101 -/
def room_ok.f (k : Nat) (p0 : List Seg) (p1 : Int) : Option Bool := ((seg_May.f k p0).bind fun y1 => (if y1 = true then ((seg_Make.f k p0).bind fun y2 => ((seg_To.f p1).bind fun y3 => (some ((uandn y2 y3) == 0)))) else (some false)))
/-! ### hermitage/room.Device: function 82 -/
def room_Device.f (k : Nat) (p0 : Device) : Option Bool := (if 1 ≤ p0.ID then (if p0.ID ≤ 40 then (if 1 ≤ p0.Size then (if p0.Size ≤ 64 then ((room_ok.f k p0.Free p0.Size).bind fun y1 => (if y1 = true then ((room_ok.f k p0.Late p0.Size).bind fun y2 => (if y2 = true then ((seg_Make.f k p0.Free).bind fun y3 => ((seg_Make.f k p0.Late).bind fun y4 => (some ((uand y3 y4) == 0)))) else (some false))) else (some false))) else (some false)) else (some false)) else (some false)) else (some false))
/-! ### hermitage/room.May: function 66 -/
def room_May.j0 (it10_0 : Int) (re0 : Int → Option Bool) (bt32_1 : Bool) : Option Bool := (if bt32_1 = true then (some false) else (re0 (w64 (it10_0 + 1))))
def room_May.l0 (p0 : List Device) (k : Nat) : Nat → Int → Option Bool
  | 0, _ => none
  | n + 1, it10_0 => (if it10_0 < (p0.length : Int) then (if 0 ≤ it10_0 ∧ it10_0 < (p0.length : Int) then ((room_Device.f k (rd p0 it10_0)).bind fun y1 => (if y1 = true then (if 0 < it10_0 then (if 0 ≤ (w64 (it10_0 - 1)) ∧ (w64 (it10_0 - 1)) < (p0.length : Int) then (room_May.j0 it10_0 (room_May.l0 p0 k n) (decide (((rd p0 it10_0).ID) ≤ ((rd p0 (w64 (it10_0 - 1))).ID)))) else none) else (room_May.j0 it10_0 (room_May.l0 p0 k n) false)) else (room_May.j0 it10_0 (room_May.l0 p0 k n) true))) else none) else (some true))
def room_May.f (k : Nat) (p0 : List Device) : Option Bool := (if 6 < (p0.length : Int) then (some false) else (room_May.l0 p0 k k 0))
/-! ### hermitage/room.Find$1: function 104 -/
def room_Find_1.f (p0 : Device) (p1 : Int) : Option Int := (some (w64 (p0.ID - p1)))
/-! ### hermitage/room.Find: function 86 -/
def room_Find.j0 (it8_0_0 : Int) (bt8_1_0 : Bool) : Option (Int × Bool) := (some (it8_0_0, bt8_1_0))
def room_Find.l0 (p0 : List Device) (p1 : Int) : Nat → Int → Int → Option (Int × Bool)
  | 0, _, _ => none
  | n + 1, it9_1, it10_1 => (if it9_1 < it10_1 then (if 0 ≤ (w64 ((wu64 (w64 (it9_1 + it10_1))).fdiv (2 ^ min (1 : Int).toNat 64))) ∧ (w64 ((wu64 (w64 (it9_1 + it10_1))).fdiv (2 ^ min (1 : Int).toNat 64))) < (p0.length : Int) then ((room_Find_1.f (rd p0 (w64 ((wu64 (w64 (it9_1 + it10_1))).fdiv (2 ^ min (1 : Int).toNat 64)))) p1).bind fun y1 => (if y1 < 0 then (room_Find.l0 p0 p1 n (w64 ((w64 ((wu64 (w64 (it9_1 + it10_1))).fdiv (2 ^ min (1 : Int).toNat 64))) + 1)) it10_1) else (room_Find.l0 p0 p1 n it9_1 (w64 ((wu64 (w64 (it9_1 + it10_1))).fdiv (2 ^ min (1 : Int).toNat 64)))))) else none) else (if it9_1 < (p0.length : Int) then (if 0 ≤ it9_1 ∧ it9_1 < (p0.length : Int) then ((room_Find_1.f (rd p0 it9_1) p1).bind fun y2 => (room_Find.j0 it9_1 (y2 == 0))) else none) else (room_Find.j0 it9_1 false)))
def room_Find.f (k : Nat) (p0 : List Device) (p1 : Int) : Option (Int × Bool) := (room_Find.l0 p0 p1 k 0 (p0.length : Int))
/-! ### hermitage/chain.device: function 117 -/
def chain_device.f (k : Nat) (p0 : Pool) (p1 : Int) : Option Bool := ((room_Find.f k p0.Devices p1).bind fun y1 => (some y1.2))
/-! ### hermitage/table.id: function 135 -/
def table_id.f (p0 : Int) : Option Bool := (if 1 ≤ p0 then (some (decide (p0 ≤ 40))) else (some false))
/-! ### hermitage/table.entry: function 136 -/
def table_entry.f (p0 : Table) (p1 : Entry) : Option Bool := (if 0 ≤ p1.From then (if p1.From < p0.Size then (if 1 ≤ p1.Len then (if p1.Len ≤ (w64 (p0.Size - p1.From)) then ((table_id.f p1.Dev).bind fun y1 => (if y1 = true then (if p1.Dev = p0.Dev then (some false) else (if 0 ≤ p1.To then (if p1.To < 64 then (if p1.Len ≤ (w64 (64 - p1.To)) then (if 0 ≤ p1.Stale then (some (decide (p1.Stale ≤ p1.Len))) else (some false)) else (some false)) else (some false)) else (some false))) else (some false))) else (some false)) else (some false)) else (some false)) else (some false))
/-! ### hermitage/table.end: function 137 -/
def table_end.f (p0 : Entry) : Option Int := (some (w64 (p0.From + p0.Len)))
/-! ### hermitage/table.May: function 120 -/
def table_May.j1 (it22_1 : Int) (re1 : Int → Option Bool) (bt46_2 : Bool) : Option Bool := (if bt46_2 = true then (some false) else (re1 (w64 (it22_1 + 1))))
def table_May.l0 (p0 : Table) : Nat → Int → Option Bool
  | 0, _ => none
  | n + 1, it22_1 => (if it22_1 < (p0.List_.length : Int) then (if 0 ≤ it22_1 ∧ it22_1 < (p0.List_.length : Int) then ((table_entry.f p0 (rd p0.List_ it22_1)).bind fun y2 => (if y2 = true then (if 0 < it22_1 then (if 0 ≤ (w64 (it22_1 - 1)) ∧ (w64 (it22_1 - 1)) < (p0.List_.length : Int) then ((table_end.f (rd p0.List_ (w64 (it22_1 - 1)))).bind fun y3 => (table_May.j1 it22_1 (table_May.l0 p0 n) (decide (((rd p0.List_ it22_1).From) < y3)))) else none) else (table_May.j1 it22_1 (table_May.l0 p0 n) false)) else (table_May.j1 it22_1 (table_May.l0 p0 n) true))) else none) else (some true))
def table_May.j0 (p0 : Table) (k : Nat) (bt18_0 : Bool) : Option Bool := (if bt18_0 = true then (some false) else (table_May.l0 p0 k 0))
def table_May.f (k : Nat) (p0 : Table) : Option Bool := ((table_id.f p0.Dev).bind fun y1 => (if y1 = true then (if p0.Size < 1 then (table_May.j0 p0 k true) else (table_May.j0 p0 k (decide (64 < p0.Size)))) else (table_May.j0 p0 k true)))
/-! ### hermitage/chain.ids: function 91 -/
def chain_ids.j0 (it11_0 : Int) (re0 : Int → Option Bool) (bt47_1 : Bool) : Option Bool := (if bt47_1 = true then (some false) else (re0 (w64 (it11_0 + 1))))
def chain_ids.j1 (it7_2 : Int) : Option Bool := (some (!(decide (0 ≤ it7_2))))
def chain_ids.l1 (p0 : Pool) : Nat → Int → Option Bool
  | 0, _ => none
  | n + 1, it8_3 => (if it8_3 < (p0.Devices.length : Int) then (if 0 ≤ it8_3 ∧ it8_3 < (p0.Devices.length : Int) then (if p0.Next ≤ ((rd p0.Devices it8_3).ID) then (chain_ids.j1 it8_3) else (chain_ids.l1 p0 n (w64 (it8_3 + 1)))) else none) else (chain_ids.j1 (-1)))
def chain_ids.l0 (p0 : Pool) (k : Nat) : Nat → Int → Option Bool
  | 0, _ => none
  | n + 1, it11_0 => (if it11_0 < (p0.Tables.length : Int) then (if 0 ≤ it11_0 ∧ it11_0 < (p0.Tables.length : Int) then ((table_May.f k (rd p0.Tables it11_0)).bind fun y1 => (if y1 = true then ((chain_device.f k p0 ((rd p0.Tables it11_0).Dev)).bind fun y2 => (if y2 = true then (chain_ids.j0 it11_0 (chain_ids.l0 p0 k n) true) else (if p0.Next ≤ ((rd p0.Tables it11_0).Dev) then (chain_ids.j0 it11_0 (chain_ids.l0 p0 k n) true) else (if 0 < it11_0 then (if 0 ≤ (w64 (it11_0 - 1)) ∧ (w64 (it11_0 - 1)) < (p0.Tables.length : Int) then (chain_ids.j0 it11_0 (chain_ids.l0 p0 k n) (decide (((rd p0.Tables it11_0).Dev) ≤ ((rd p0.Tables (w64 (it11_0 - 1))).Dev)))) else none) else (chain_ids.j0 it11_0 (chain_ids.l0 p0 k n) false))))) else (chain_ids.j0 it11_0 (chain_ids.l0 p0 k n) true))) else none) else (chain_ids.l1 p0 k 0))
def chain_ids.f (k : Nat) (p0 : Pool) : Option Bool := (if 41 < p0.Next then (some false) else (chain_ids.l0 p0 k k 0))
/-! ### hermitage/chain.tables: function 92 -/
def chain_tables.j0 (it16_1 : Int) (re1 : Int → (List (Int × Bool)) → Option Bool) (mb2_0_2 : List (Int × Bool)) : Option Bool := (re1 (w64 (it16_1 + 1)) mb2_0_2)
def chain_tables.j1 (p0 : Pool) (it16_1 : Int) (mb2_0_1 : List (Int × Bool)) (re1 : Int → (List (Int × Bool)) → Option Bool) (it7_3 : Int) : Option Bool := (chain_tables.j0 it16_1 re1 (mset mb2_0_1 ((rd p0.Tables it16_1).Dev) (!(decide (0 ≤ it7_3)))))
def chain_tables.j2 (p0 : Pool) (it16_1 : Int) (mb2_0_1 : List (Int × Bool)) (it8_4 : Int) (re1 : Int → (List (Int × Bool)) → Option Bool) (re4 : Int → Option Bool) (bt16_5 : Bool) : Option Bool := (if bt16_5 = true then (chain_tables.j1 p0 it16_1 mb2_0_1 re1 it8_4) else (re4 (w64 (it8_4 + 1))))
def chain_tables.l2 (p0 : Pool) (k : Nat) (it16_1 : Int) (mb2_0_1 : List (Int × Bool)) (re1 : Int → (List (Int × Bool)) → Option Bool) : Nat → Int → Option Bool
  | 0, _ => none
  | n + 1, it8_4 => (if it8_4 < (((rd p0.Tables it16_1).List_).length : Int) then (if 0 ≤ it8_4 ∧ it8_4 < (((rd p0.Tables it16_1).List_).length : Int) then (if ((mget mb2_0_1 ((rd ((rd p0.Tables it16_1).List_) it8_4).Dev)).getD false) = true then (chain_tables.j2 p0 it16_1 mb2_0_1 it8_4 re1 (chain_tables.l2 p0 k it16_1 mb2_0_1 re1 n) false) else ((chain_device.f k p0 ((rd ((rd p0.Tables it16_1).List_) it8_4).Dev)).bind fun y1 => (chain_tables.j2 p0 it16_1 mb2_0_1 it8_4 re1 (chain_tables.l2 p0 k it16_1 mb2_0_1 re1 n) (!y1)))) else none) else (chain_tables.j1 p0 it16_1 mb2_0_1 re1 (-1)))
def chain_tables.l1 (p0 : Pool) (k : Nat) (it11_0 : Int) (re0 : Int → (List (Int × Bool)) → Option Bool) : Nat → Int → (List (Int × Bool)) → Option Bool
  | 0, _, _ => none
  | n + 1, it16_1, mb2_0_1 => (if it16_1 < (p0.Tables.length : Int) then (if 0 ≤ it16_1 ∧ it16_1 < (p0.Tables.length : Int) then (if ((mget mb2_0_1 ((rd p0.Tables it16_1).Dev)).getD false) = true then (chain_tables.j0 it16_1 (chain_tables.l1 p0 k it11_0 re0 n) (mset mb2_0_1 ((rd p0.Tables it16_1).Dev) true)) else (chain_tables.l2 p0 k it16_1 mb2_0_1 (chain_tables.l1 p0 k it11_0 re0 n) k 0)) else none) else (re0 (w64 (it11_0 + 1)) mb2_0_1))
def chain_tables.j3 (it7_6 : Int) : Option Bool := (some (!(decide (0 ≤ it7_6))))
def chain_tables.l3 (p0 : Pool) (mb2_0_0 : List (Int × Bool)) : Nat → Int → Option Bool
  | 0, _ => none
  | n + 1, it8_7 => (if it8_7 < (p0.Tables.length : Int) then (if 0 ≤ it8_7 ∧ it8_7 < (p0.Tables.length : Int) then (if ((mget mb2_0_0 ((rd p0.Tables it8_7).Dev)).getD false) = true then (chain_tables.l3 p0 mb2_0_0 n (w64 (it8_7 + 1))) else (chain_tables.j3 it8_7)) else none) else (chain_tables.j3 (-1)))
def chain_tables.l0 (p0 : Pool) (k : Nat) : Nat → Int → (List (Int × Bool)) → Option Bool
  | 0, _, _ => none
  | n + 1, it11_0, mb2_0_0 => (if it11_0 < (p0.Tables.length : Int) then (chain_tables.l1 p0 k it11_0 (chain_tables.l0 p0 k n) k 0 mb2_0_0) else (chain_tables.l3 p0 mb2_0_0 k 0))
def chain_tables.f (k : Nat) (p0 : Pool) : Option Bool := (chain_tables.l0 p0 k k 0 ([] : List (Int × Bool)))
/-! ### hermitage/chain.none: function 126 -/
def chain_none.f (p0 : Job) : Option Bool := (if p0.Dev = 0 then (if p0.At = 0 then (if p0.Table.Dev = 0 then (if p0.Table.Size = 0 then (some ((p0.Table.List_.length : Int) == 0)) else (some false)) else (some false)) else (some false)) else (some false))
/-! ### hermitage/chain.job: function 93 -/
def chain_job.j1 (it7_1 : Int) : Option Bool := (some (!(decide (0 ≤ it7_1))))
def chain_job.j2 (it8_2 : Int) (re2 : Int → Option Bool) (bt16_3 : Bool) : Option Bool := (if bt16_3 = true then (chain_job.j1 it8_2) else (re2 (w64 (it8_2 + 1))))
def chain_job.l0 (p0 : Pool) (k : Nat) : Nat → Int → Option Bool
  | 0, _ => none
  | n + 1, it8_2 => (if it8_2 < (p0.Job.Table.List_.length : Int) then (if 0 ≤ it8_2 ∧ it8_2 < (p0.Job.Table.List_.length : Int) then (if p0.Job.At < (w64 (((rd p0.Job.Table.List_ it8_2).From) + ((rd p0.Job.Table.List_ it8_2).Len))) then (chain_job.j2 it8_2 (chain_job.l0 p0 k n) true) else ((chain_device.f k p0 ((rd p0.Job.Table.List_ it8_2).Dev)).bind fun y4 => (chain_job.j2 it8_2 (chain_job.l0 p0 k n) (!y4)))) else none) else (chain_job.j1 (-1)))
def chain_job.j0 (p0 : Pool) (k : Nat) (bt61_0 : Bool) : Option Bool := (if bt61_0 = true then (some false) else (chain_job.l0 p0 k k 0))
def chain_job.f (k : Nat) (p0 : Pool) : Option Bool := ((chain_none.f p0.Job).bind fun y1 => (if y1 = true then (some true) else ((room_Find.f k p0.Devices p0.Job.Dev).bind fun y2 => (if y2.2 = true then (if p0.Job.At < 0 then (chain_job.j0 p0 k true) else (if 0 ≤ y2.1 ∧ y2.1 < (p0.Devices.length : Int) then (if ((rd p0.Devices y2.1).Size) ≤ p0.Job.At then (chain_job.j0 p0 k true) else (if p0.Job.Table.Dev = p0.Job.Dev then (if 0 ≤ y2.1 ∧ y2.1 < (p0.Devices.length : Int) then (if p0.Job.Table.Size = (rd p0.Devices y2.1).Size then ((table_May.f k p0.Job.Table).bind fun y3 => (chain_job.j0 p0 k (!y3))) else (chain_job.j0 p0 k true)) else none) else (chain_job.j0 p0 k true))) else none)) else (chain_job.j0 p0 k true)))))
/-! ### hermitage/chain.May: function 76 -/
def chain_May.j1 (it7_1 : Int) : Option Bool := (some (decide (0 ≤ it7_1)))
def chain_May.l0 (p0 : Pool) : Nat → Int → Option Bool
  | 0, _ => none
  | n + 1, it8_2 => (if it8_2 < (p0.Devices.length : Int) then (if 0 ≤ it8_2 ∧ it8_2 < (p0.Devices.length : Int) then (if (rd p0.Devices it8_2).ID = p0.Job.Dev then (chain_May.l0 p0 n (w64 (it8_2 + 1))) else (chain_May.j1 it8_2)) else none) else (chain_May.j1 (-1)))
def chain_May.j0 (p0 : Pool) (k : Nat) (bt39_0 : Bool) : Option Bool := (if bt39_0 = true then (some false) else (chain_May.l0 p0 k 0))
def chain_May.f (k : Nat) (p0 : Pool) : Option Bool := ((room_May.f k p0.Devices).bind fun y1 => (if y1 = true then (if 12 < (p0.Tables.length : Int) then (chain_May.j0 p0 k true) else (if p0.Job.Dev = 0 then ((chain_ids.f k p0).bind fun y2 => (if y2 = true then ((chain_tables.f k p0).bind fun y3 => (if y3 = true then ((chain_job.f k p0).bind fun y4 => (chain_May.j0 p0 k (!y4))) else (chain_May.j0 p0 k true))) else (chain_May.j0 p0 k true))) else (if 12 ≤ (p0.Tables.length : Int) then (chain_May.j0 p0 k true) else ((chain_ids.f k p0).bind fun y5 => (if y5 = true then ((chain_tables.f k p0).bind fun y6 => (if y6 = true then ((chain_job.f k p0).bind fun y7 => (chain_May.j0 p0 k (!y7))) else (chain_May.j0 p0 k true))) else (chain_May.j0 p0 k true)))))) else (chain_May.j0 p0 k true)))
/-! ### hermitage/chain.Find$1: function 131 -/
def chain_Find_1.f (p0 : Table) (p1 : Int) : Option Int := (some (w64 (p0.Dev - p1)))
/-! ### hermitage/chain.Find: function 98 -/
def chain_Find.j0 (it9_0_0 : Int) (bt9_1_0 : Bool) : Option (Int × Bool) := (some (it9_0_0, bt9_1_0))
def chain_Find.l0 (p0 : Pool) (p1 : Int) : Nat → Int → Int → Option (Int × Bool)
  | 0, _, _ => none
  | n + 1, it9_1, it10_1 => (if it9_1 < it10_1 then (if 0 ≤ (w64 ((wu64 (w64 (it9_1 + it10_1))).fdiv (2 ^ min (1 : Int).toNat 64))) ∧ (w64 ((wu64 (w64 (it9_1 + it10_1))).fdiv (2 ^ min (1 : Int).toNat 64))) < (p0.Tables.length : Int) then ((chain_Find_1.f (rd p0.Tables (w64 ((wu64 (w64 (it9_1 + it10_1))).fdiv (2 ^ min (1 : Int).toNat 64)))) p1).bind fun y1 => (if y1 < 0 then (chain_Find.l0 p0 p1 n (w64 ((w64 ((wu64 (w64 (it9_1 + it10_1))).fdiv (2 ^ min (1 : Int).toNat 64))) + 1)) it10_1) else (chain_Find.l0 p0 p1 n it9_1 (w64 ((wu64 (w64 (it9_1 + it10_1))).fdiv (2 ^ min (1 : Int).toNat 64)))))) else none) else (if it9_1 < (p0.Tables.length : Int) then (if 0 ≤ it9_1 ∧ it9_1 < (p0.Tables.length : Int) then ((chain_Find_1.f (rd p0.Tables it9_1) p1).bind fun y2 => (chain_Find.j0 it9_1 (y2 == 0))) else none) else (chain_Find.j0 it9_1 false)))
def chain_Find.f (k : Nat) (p0 : Pool) (p1 : Int) : Option (Int × Bool) := (chain_Find.l0 p0 p1 k 0 (p0.Tables.length : Int))
/-! ### hermitage/table.At: function 132 -/
def table_At.j0 (it8_0 : Int) : Option Int := (some it8_0)
def table_At.j1 (it8_1 : Int) (re1 : Int → Option Int) (bt16_2 : Bool) : Option Int := (if bt16_2 = true then (table_At.j0 it8_1) else (re1 (w64 (it8_1 + 1))))
def table_At.l0 (p0 : Table) (p1 : Int) : Nat → Int → Option Int
  | 0, _ => none
  | n + 1, it8_1 => (if it8_1 < (p0.List_.length : Int) then (if 0 ≤ it8_1 ∧ it8_1 < (p0.List_.length : Int) then (if ((rd p0.List_ it8_1).From) ≤ p1 then ((table_end.f (rd p0.List_ it8_1)).bind fun y1 => (table_At.j1 it8_1 (table_At.l0 p0 p1 n) (decide (p1 < y1)))) else (table_At.j1 it8_1 (table_At.l0 p0 p1 n) false)) else none) else (table_At.j0 (-1)))
def table_At.f (k : Nat) (p0 : Table) (p1 : Int) : Option Int := (table_At.l0 p0 p1 k 0)
/-! ### hermitage/table.Find: function 134 -/
def table_Find.f (k : Nat) (p0 : Table) (p1 : Int) : Option (Ptr × Bool) := ((table_At.f k p0 p1).bind fun y1 => (if y1 < 0 then (some ((⟨0, 0⟩ : Ptr), false)) else (if 0 ≤ y1 ∧ y1 < (p0.List_.length : Int) then (some ((⟨(rd p0.List_ y1).Dev, w64 ((w64 (((rd p0.List_ y1).To) + p1)) - ((rd p0.List_ y1).From))⟩ : Ptr), true)) else none)))
/-! ### hermitage/chain.Trace: function 90 -/
def chain_Trace.j2 (bt11_3 : Bool) (ib4_0_3 : Int) (ib4_1_3 : Int) (lb4_2_3 : List Ptr) : Option (Trail × Bool) := (some ((⟨(⟨ib4_0_3, ib4_1_3⟩ : Ptr), lb4_2_3⟩ : Trail), bt11_3))
def chain_Trace.j4 (ib4_0_0 : Int) (ib4_1_0 : Int) (lb4_2_0 : List Ptr) (ibk5_4_0_4 : Int) (ibk5_4_1_4 : Int) (bt87_5 : Bool) : Option (Trail × Bool) := (chain_Trace.j2 bt87_5 ibk5_4_0_4 ibk5_4_1_4 (lb4_2_0 ++ [(⟨ib4_0_0, ib4_1_0⟩ : Ptr)]))
def chain_Trace.j3 (p0 : Pool) (k : Nat) (ib4_0_0 : Int) (ib4_1_0 : Int) (lb4_2_0 : List Ptr) (bt6_4 : Bool) (ibk5_4_0_4 : Int) (ibk5_4_1_4 : Int) : Option (Trail × Bool) := (if bt6_4 = true then ((room_Find.f k p0.Devices ibk5_4_0_4).bind fun y4 => (if y4.2 = true then (if 0 ≤ ibk5_4_1_4 then (if 0 ≤ y4.1 ∧ y4.1 < (p0.Devices.length : Int) then (chain_Trace.j4 ib4_0_0 ib4_1_0 lb4_2_0 ibk5_4_0_4 ibk5_4_1_4 (decide (ibk5_4_1_4 < ((rd p0.Devices y4.1).Size)))) else none) else (chain_Trace.j4 ib4_0_0 ib4_1_0 lb4_2_0 ibk5_4_0_4 ibk5_4_1_4 false)) else (chain_Trace.j4 ib4_0_0 ib4_1_0 lb4_2_0 ibk5_4_0_4 ibk5_4_1_4 false))) else (chain_Trace.j2 false ibk5_4_0_4 ibk5_4_1_4 (lb4_2_0 ++ [(⟨ib4_0_0, ib4_1_0⟩ : Ptr)])))
def chain_Trace.j1 (p0 : Pool) (k : Nat) (ib4_0_0 : Int) (ib4_1_0 : Int) (lb4_2_0 : List Ptr) (bt80_2 : Bool) : Option (Trail × Bool) := (if bt80_2 = true then (if (lb4_2_0.length + 1) * 16 ≤ 140737488355328 then ((table_Find.f k p0.Job.Table ib4_1_0).bind fun y3 => (chain_Trace.j3 p0 k ib4_0_0 ib4_1_0 lb4_2_0 y3.2 y3.1.Dev y3.1.At)) else none) else (some ((⟨(⟨ib4_0_0, ib4_1_0⟩ : Ptr), lb4_2_0⟩ : Trail), true)))
def chain_Trace.j0 (p0 : Pool) (p2 : Bool) (k : Nat) (ib4_0_0 : Int) (ib4_1_0 : Int) (lb4_2_0 : List Ptr) (bt59_1 : Bool) : Option (Trail × Bool) := (if bt59_1 = true then (if p2 = true then (if ib4_0_0 = p0.Job.Dev then (chain_Trace.j1 p0 k ib4_0_0 ib4_1_0 lb4_2_0 (decide (ib4_1_0 < p0.Job.At))) else (chain_Trace.j1 p0 k ib4_0_0 ib4_1_0 lb4_2_0 false)) else (chain_Trace.j1 p0 k ib4_0_0 ib4_1_0 lb4_2_0 false)) else (some ((⟨(⟨ib4_0_0, ib4_1_0⟩ : Ptr), lb4_2_0⟩ : Trail), false)))
def chain_Trace.j5 (re0 : Int → Int → (List Ptr) → Option (Trail × Bool)) (bt56_6 : Bool) (ib4_0_6 : Int) (ib4_1_6 : Int) (lb4_2_6 : List Ptr) : Option (Trail × Bool) := (if bt56_6 = true then (some ((⟨(⟨ib4_0_6, ib4_1_6⟩ : Ptr), lb4_2_6⟩ : Trail), false)) else (re0 ib4_0_6 ib4_1_6 lb4_2_6))
def chain_Trace.j6 (ib4_0_0 : Int) (ib4_1_0 : Int) (lb4_2_0 : List Ptr) (re0 : Int → Int → (List Ptr) → Option (Trail × Bool)) (bt6_7 : Bool) (ibk5_7_0_7 : Int) (ibk5_7_1_7 : Int) : Option (Trail × Bool) := (chain_Trace.j5 re0 (!bt6_7) ibk5_7_0_7 ibk5_7_1_7 (lb4_2_0 ++ [(⟨ib4_0_0, ib4_1_0⟩ : Ptr)]))
def chain_Trace.l0 (p0 : Pool) (p2 : Bool) (k : Nat) : Nat → Int → Int → (List Ptr) → Option (Trail × Bool)
  | 0, _, _, _ => none
  | n + 1, ib4_0_0, ib4_1_0, lb4_2_0 => ((chain_device.f k p0 ib4_0_0).bind fun y1 => (if y1 = true then ((room_Find.f k p0.Devices ib4_0_0).bind fun y2 => (if y2.2 = true then (if 0 ≤ ib4_1_0 then (if 0 ≤ y2.1 ∧ y2.1 < (p0.Devices.length : Int) then (chain_Trace.j0 p0 p2 k ib4_0_0 ib4_1_0 lb4_2_0 (decide (ib4_1_0 < ((rd p0.Devices y2.1).Size)))) else none) else (chain_Trace.j0 p0 p2 k ib4_0_0 ib4_1_0 lb4_2_0 false)) else (chain_Trace.j0 p0 p2 k ib4_0_0 ib4_1_0 lb4_2_0 false))) else ((chain_Find.f k p0 ib4_0_0).bind fun y5 => (if y5.2 = true then (if ib4_1_0 < 0 then (chain_Trace.j5 (chain_Trace.l0 p0 p2 k n) true ib4_0_0 ib4_1_0 lb4_2_0) else (if 0 ≤ y5.1 ∧ y5.1 < (p0.Tables.length : Int) then (if ((rd p0.Tables y5.1).Size) ≤ ib4_1_0 then (chain_Trace.j5 (chain_Trace.l0 p0 p2 k n) true ib4_0_0 ib4_1_0 lb4_2_0) else (if 0 ≤ y5.1 ∧ y5.1 < (p0.Tables.length : Int) then (if (lb4_2_0.length + 1) * 16 ≤ 140737488355328 then ((table_Find.f k (rd p0.Tables y5.1) ib4_1_0).bind fun y6 => (chain_Trace.j6 ib4_0_0 ib4_1_0 lb4_2_0 (chain_Trace.l0 p0 p2 k n) y6.2 y6.1.Dev y6.1.At)) else none) else none)) else none)) else (chain_Trace.j5 (chain_Trace.l0 p0 p2 k n) true ib4_0_0 ib4_1_0 lb4_2_0)))))
def chain_Trace.f (k : Nat) (p0 : Pool) (p1 : Ptr) (p2 : Bool) : Option (Trail × Bool) := (chain_Trace.l0 p0 p2 k k p1.Dev p1.At ([] : List Ptr))
/-! ### hermitage/chain.asked: function 75 -/
def chain_asked.f (k : Nat) (p0 : Pool) (p1 : Ptr) (p2 : Bool) : Option (Trail × Int) := ((chain_May.f k p0).bind fun y1 => (if y1 = true then ((chain_Trace.f k p0 p1 p2).bind fun y2 => (if y2.2 = true then (some (y2.1, 0)) else (some ((⟨(⟨0, 0⟩ : Ptr), ([] : List Ptr)⟩ : Trail), 3)))) else (some ((⟨(⟨0, 0⟩ : Ptr), ([] : List Ptr)⟩ : Trail), 1))))
/-! ### hermitage/chain.Now: function 46 -/
def chain_Now.f (k : Nat) (p0 : Pool) (p1 : Ptr) : Option (Ptr × Int) := ((chain_asked.f k p0 p1 true).bind fun y1 => (some (y1.1.Ptr_, y1.2)))
/-! ### hermitage/chain.Way: function 47 -/
def chain_Way.l0 (y1 : Trail × Int) : Nat → (List Int) → Int → Option ((List Int) × Int)
  | 0, _, _ => none
  | n + 1, lt8_0, it20_0 => (if it20_0 < (y1.1.Way.length : Int) then (if 0 ≤ it20_0 ∧ it20_0 < (y1.1.Way.length : Int) then (if (lt8_0.length + 1) * 8 ≤ 140737488355328 then (chain_Way.l0 y1 n (lt8_0 ++ [(rd y1.1.Way it20_0).Dev]) (w64 (it20_0 + 1))) else none) else none) else (some (lt8_0, y1.2)))
def chain_Way.f (k : Nat) (p0 : Pool) (p1 : Ptr) : Option ((List Int) × Int) := ((chain_asked.f k p0 p1 true).bind fun y1 => (chain_Way.l0 y1 k ([] : List Int) 0))
/-! ### hermitage/hermitagelaw9.num: function 48 -/
def hermitagelaw9_num.f (p0 : Int) : Option Int := (some p0)
/-! ### slices.Clone[[]hermitage/api.Device,hermitage/api.Device]: function 83 -/
def slices_Clone_Device.f (p0 : List Device) : Option (List Device) := (if (([] : List Device).length + p0.length) * 64 ≤ 140737488355328 then (some (([] : List Device) ++ p0)) else none)
/-! ### slices.Clone[[]hermitage/api.Seg,hermitage/api.Seg]: function 84 -/
def slices_Clone_Seg.f (p0 : List Seg) : Option (List Seg) := (if (([] : List Seg).length + p0.length) * 16 ≤ 140737488355328 then (some (([] : List Seg) ++ p0)) else none)
/-! ### hermitage/room.Own: function 67 -/
def room_Own.l0 (y1 : (List Device)) : Nat → (List Device) → Int → Option (List Device)
  | 0, _, _ => none
  | n + 1, lt0_0, it8_0 => (if it8_0 < (y1.length : Int) then (if 0 ≤ it8_0 ∧ it8_0 < (lt0_0.length : Int) then (if 0 ≤ it8_0 ∧ it8_0 < (lt0_0.length : Int) then ((slices_Clone_Seg.f ((rd lt0_0 it8_0).Free)).bind fun y2 => ((slices_Clone_Seg.f ((rd lt0_0 it8_0).Late)).bind fun y3 => (if 0 ≤ it8_0 ∧ it8_0 < (lt0_0.length : Int) then (if 0 ≤ it8_0 ∧ it8_0 < ((lt0_0.set it8_0.toNat (⟨(rd lt0_0 it8_0).ID, (rd lt0_0 it8_0).Size, y2, (rd lt0_0 it8_0).Late⟩ : Device)).length : Int) then (room_Own.l0 y1 n ((lt0_0.set it8_0.toNat (⟨(rd lt0_0 it8_0).ID, (rd lt0_0 it8_0).Size, y2, (rd lt0_0 it8_0).Late⟩ : Device)).set it8_0.toNat (⟨(rd (lt0_0.set it8_0.toNat (⟨(rd lt0_0 it8_0).ID, (rd lt0_0 it8_0).Size, y2, (rd lt0_0 it8_0).Late⟩ : Device)) it8_0).ID, (rd (lt0_0.set it8_0.toNat (⟨(rd lt0_0 it8_0).ID, (rd lt0_0 it8_0).Size, y2, (rd lt0_0 it8_0).Late⟩ : Device)) it8_0).Size, (rd (lt0_0.set it8_0.toNat (⟨(rd lt0_0 it8_0).ID, (rd lt0_0 it8_0).Size, y2, (rd lt0_0 it8_0).Late⟩ : Device)) it8_0).Free, y3⟩ : Device)) (w64 (it8_0 + 1))) else none) else none))) else none) else none) else (some lt0_0))
def room_Own.f (k : Nat) (p0 : List Device) : Option (List Device) := ((slices_Clone_Device.f p0).bind fun y1 => (room_Own.l0 y1 k y1 0))
/-! ### slices.Clone[[]hermitage/api.Table,hermitage/api.Table]: function 96 -/
def slices_Clone_Table.f (p0 : List Table) : Option (List Table) := (if (([] : List Table).length + p0.length) * 40 ≤ 140737488355328 then (some (([] : List Table) ++ p0)) else none)
/-! ### slices.Clone[[]hermitage/api.Entry,hermitage/api.Entry]: function 129 -/
def slices_Clone_Entry.f (p0 : List Entry) : Option (List Entry) := (if (([] : List Entry).length + p0.length) * 40 ≤ 140737488355328 then (some (([] : List Entry) ++ p0)) else none)
/-! ### hermitage/table.Own: function 97 -/
def table_Own.f (p0 : Table) : Option Table := ((slices_Clone_Entry.f p0.List_).bind fun y1 => (some (⟨p0.Dev, p0.Size, y1⟩ : Table)))
/-! ### math/bits.TrailingZeros64: function 100 -/
def math_bits_TrailingZeros64.f (p0 : Int) : Option Int := (if p0 = 0 then (some 64) else (if 0 ≤ ((wu64 ((uand p0 (wu64 (0 - p0))) * 285870213051353865)).fdiv (2 ^ min (58 : Int).toNat 64)) ∧ ((wu64 ((uand p0 (wu64 (0 - p0))) * 285870213051353865)).fdiv (2 ^ min (58 : Int).toNat 64)) < 64 then (some (w64 (tz ((wu64 ((uand p0 (wu64 (0 - p0))) * 285870213051353865)).fdiv (2 ^ min (58 : Int).toNat 64)).toNat))) else none))
/-! ### (hermitage/seg.Set).Least: function 80 -/
def seg_Set_Least.f (p0 : Int) : Option Int := ((math_bits_TrailingZeros64.f p0).bind fun y1 => (some y1))
/-! ### (hermitage/seg.Set).Sectors: function 60 -/
def seg_Set_Sectors.l0 : Nat → Int → (List Int) → Option (List Int)
  | 0, _, _ => none
  | n + 1, it0_0, lt2_0 => (if it0_0 = 0 then (some lt2_0) else ((seg_Set_Least.f it0_0).bind fun y1 => (if (lt2_0.length + 1) * 8 ≤ 140737488355328 then (seg_Set_Sectors.l0 n (uand it0_0 (wu64 (it0_0 - 1))) (lt2_0 ++ [y1])) else none)))
def seg_Set_Sectors.f (k : Nat) (p0 : Int) : Option (List Int) := (seg_Set_Sectors.l0 k p0 ([] : List Int))
/-! ### (hermitage/seg.Set).Segs: function 53 -/
def seg_Set_Segs.j0 (it9_0 : Int) (re0 : (List Seg) → Int → Option (List Seg)) (lt2_1 : List Seg) : Option (List Seg) := (re0 lt2_1 (w64 (it9_0 + 1)))
def seg_Set_Segs.j1 (y1 : (List Int)) (lt2_0 : List Seg) (it9_0 : Int) (re0 : (List Seg) → Int → Option (List Seg)) (bt33_2 : Bool) : Option (List Seg) := (if bt33_2 = true then (if 0 ≤ (w64 ((lt2_0.length : Int) - 1)) ∧ (w64 ((lt2_0.length : Int) - 1)) < (lt2_0.length : Int) then (if 0 ≤ (w64 ((lt2_0.length : Int) - 1)) ∧ (w64 ((lt2_0.length : Int) - 1)) < (lt2_0.length : Int) then (seg_Set_Segs.j0 it9_0 re0 (lt2_0.set (w64 ((lt2_0.length : Int) - 1)).toNat (⟨(rd lt2_0 (w64 ((lt2_0.length : Int) - 1))).At, w64 (((rd lt2_0 (w64 ((lt2_0.length : Int) - 1))).Len) + 1)⟩ : Seg))) else none) else none) else (if (lt2_0.length + 1) * 16 ≤ 140737488355328 then (seg_Set_Segs.j0 it9_0 re0 (lt2_0 ++ [(⟨rd y1 it9_0, 1⟩ : Seg)])) else none))
def seg_Set_Segs.l0 (y1 : (List Int)) : Nat → (List Seg) → Int → Option (List Seg)
  | 0, _, _ => none
  | n + 1, lt2_0, it9_0 => (if it9_0 < (y1.length : Int) then (if 0 ≤ it9_0 ∧ it9_0 < (y1.length : Int) then (if 0 < (lt2_0.length : Int) then (if 0 ≤ (w64 ((lt2_0.length : Int) - 1)) ∧ (w64 ((lt2_0.length : Int) - 1)) < (lt2_0.length : Int) then (if 0 ≤ (w64 ((lt2_0.length : Int) - 1)) ∧ (w64 ((lt2_0.length : Int) - 1)) < (lt2_0.length : Int) then (seg_Set_Segs.j1 y1 lt2_0 it9_0 (seg_Set_Segs.l0 y1 n) ((w64 (((rd lt2_0 (w64 ((lt2_0.length : Int) - 1))).At) + ((rd lt2_0 (w64 ((lt2_0.length : Int) - 1))).Len))) == (rd y1 it9_0))) else none) else none) else (seg_Set_Segs.j1 y1 lt2_0 it9_0 (seg_Set_Segs.l0 y1 n) false)) else none) else (some lt2_0))
def seg_Set_Segs.f (k : Nat) (p0 : Int) : Option (List Seg) := ((seg_Set_Sectors.f k p0).bind fun y1 => (seg_Set_Segs.l0 y1 k ([] : List Seg) 0))
/-! ### hermitage/seg.One: function 63 -/
def seg_One.f (p0 : Int) : Option Int := (if 0 ≤ p0 then (some (wu64 (1 * 2 ^ min p0.toNat 64))) else none)
/-! ### (hermitage/seg.Set).Has: function 64 -/
def seg_Set_Has.f (p0 : Int) (p1 : Int) : Option Bool := (if 0 ≤ p1 then (if p1 < 64 then ((seg_One.f p1).bind fun y1 => (some ((uand p0 y1) != 0))) else (some false)) else (some false))
/-! ### hermitage/room.Busy: function 87 -/
def room_Busy.f (k : Nat) (p0 : Device) : Option Int := ((seg_To.f p0.Size).bind fun y1 => ((seg_Make.f k p0.Free).bind fun y2 => ((seg_Make.f k p0.Late).bind fun y3 => (some (uandn y1 (uor y2 y3))))))
/-! ### hermitage/chain.Lose: function 49 -/
def chain_Lose.j0 (it17_1 : Int) (re1 : Int → (List Device) → (List Table) → (List Entry) → Option (Pool × Int)) (it22_2 : Int) (lb1_0_2 : List Device) (lb1_1_2 : List Table) (lb1_6_2 : List Entry) : Option (Pool × Int) := (if it22_2 = 0 then (re1 (w64 (it17_1 + 1)) lb1_0_2 lb1_1_2 lb1_6_2) else (some ((⟨([] : List Device), ([] : List Table), (⟨0, 0, (⟨0, 0, ([] : List Entry)⟩ : Table)⟩ : Job), 0⟩ : Pool), it22_2)))
def chain_Lose.j1 (it17_1 : Int) (lb1_0_1 : List Device) (it26_3 : Int) (lb1_6_3 : List Entry) (re1 : Int → (List Device) → (List Table) → (List Entry) → Option (Pool × Int)) (re3 : Int → (List Table) → (List Entry) → Option (Pool × Int)) (it53_4 : Int) (lb1_1_4 : List Table) : Option (Pool × Int) := (if it53_4 = 0 then (re3 (w64 (it26_3 + 1)) lb1_1_4 lb1_6_3) else (chain_Lose.j0 it17_1 re1 it53_4 lb1_0_1 lb1_1_4 lb1_6_3))
def chain_Lose.j2 (it17_1 : Int) (lb1_0_1 : List Device) (it26_3 : Int) (lb1_1_3 : List Table) (re1 : Int → (List Device) → (List Table) → (List Entry) → Option (Pool × Int)) (re3 : Int → (List Table) → (List Entry) → Option (Pool × Int)) (it53_5 : Int) (lb1_6_5 : List Entry) : Option (Pool × Int) := (if it53_5 = 0 then (re3 (w64 (it26_3 + 1)) lb1_1_3 lb1_6_5) else (chain_Lose.j0 it17_1 re1 it53_5 lb1_0_1 lb1_1_3 lb1_6_5))
def chain_Lose.j3 (it17_1 : Int) (lb1_1_3 : List Table) (lb1_6_3 : List Entry) (re1 : Int → (List Device) → (List Table) → (List Entry) → Option (Pool × Int)) (it64_6 : Int) (lb1_0_6 : List Device) : Option (Pool × Int) := (chain_Lose.j0 it17_1 re1 it64_6 lb1_0_6 lb1_1_3 lb1_6_3)
def chain_Lose.j4 (k : Nat) (it17_1 : Int) (lb1_0_1 : List Device) (y6 : Trail × Bool) (lb1_1_3 : List Table) (lb1_6_3 : List Entry) (y10 : Int × Bool) (re1 : Int → (List Device) → (List Table) → (List Entry) → Option (Pool × Int)) (bt17_7 : Bool) : Option (Pool × Int) := (if bt17_7 = true then (chain_Lose.j3 it17_1 lb1_1_3 lb1_6_3 re1 1 lb1_0_1) else (if 0 ≤ y10.1 ∧ y10.1 < (lb1_0_1.length : Int) then ((room_Busy.f k (rd lb1_0_1 y10.1)).bind fun y11 => ((seg_Set_Has.f y11 y6.1.Ptr_.At).bind fun y12 => (if y12 = true then (if 0 ≤ y10.1 ∧ y10.1 < (lb1_0_1.length : Int) then ((seg_Make.f k ((rd lb1_0_1 y10.1).Late)).bind fun y13 => ((seg_One.f y6.1.Ptr_.At).bind fun y14 => ((seg_Set_Segs.f k (uor y13 y14)).bind fun y15 => (if 0 ≤ y10.1 ∧ y10.1 < (lb1_0_1.length : Int) then (chain_Lose.j3 it17_1 lb1_1_3 lb1_6_3 re1 0 (lb1_0_1.set y10.1.toNat (⟨(rd lb1_0_1 y10.1).ID, (rd lb1_0_1 y10.1).Size, (rd lb1_0_1 y10.1).Free, y15⟩ : Device))) else none)))) else none) else (chain_Lose.j3 it17_1 lb1_1_3 lb1_6_3 re1 4 lb1_0_1)))) else none))
def chain_Lose.l2 (p0 : Pool) (k : Nat) (y4 : Table) (it17_1 : Int) (lb1_0_1 : List Device) (y6 : Trail × Bool) (re1 : Int → (List Device) → (List Table) → (List Entry) → Option (Pool × Int)) : Nat → Int → (List Table) → (List Entry) → Option (Pool × Int)
  | 0, _, _, _ => none
  | n + 1, it26_3, lb1_1_3, lb1_6_3 => (if it26_3 < (y6.1.Way.length : Int) then (if 0 ≤ it26_3 ∧ it26_3 < (y6.1.Way.length : Int) then ((chain_Find.f k (⟨lb1_0_1, lb1_1_3, (⟨p0.Job.Dev, p0.Job.At, (⟨y4.Dev, y4.Size, lb1_6_3⟩ : Table)⟩ : Job), p0.Next⟩ : Pool) ((rd y6.1.Way it26_3).Dev)).bind fun y7 => (if y7.2 = true then (if 0 ≤ y7.1 ∧ y7.1 < (lb1_1_3.length : Int) then ((table_At.f k (rd lb1_1_3 y7.1) ((rd y6.1.Way it26_3).At)).bind fun y8 => (if y8 < 0 then (chain_Lose.j1 it17_1 lb1_0_1 it26_3 lb1_6_3 re1 (chain_Lose.l2 p0 k y4 it17_1 lb1_0_1 y6 re1 n) 3 lb1_1_3) else (if 0 ≤ y8 ∧ y8 < (((rd lb1_1_3 y7.1).List_).length : Int) then (if 0 ≤ y8 ∧ y8 < (((rd lb1_1_3 y7.1).List_).length : Int) then (if (rd ((rd lb1_1_3 y7.1).List_) y8).Stale = (rd ((rd lb1_1_3 y7.1).List_) y8).Len then (chain_Lose.j1 it17_1 lb1_0_1 it26_3 lb1_6_3 re1 (chain_Lose.l2 p0 k y4 it17_1 lb1_0_1 y6 re1 n) 9 lb1_1_3) else (if 0 ≤ y8 ∧ y8 < (((rd lb1_1_3 y7.1).List_).length : Int) then (if 0 ≤ y8 ∧ y8 < (((rd lb1_1_3 y7.1).List_).length : Int) then (chain_Lose.j1 it17_1 lb1_0_1 it26_3 lb1_6_3 re1 (chain_Lose.l2 p0 k y4 it17_1 lb1_0_1 y6 re1 n) 0 (lb1_1_3.set y7.1.toNat (⟨(rd lb1_1_3 y7.1).Dev, (rd lb1_1_3 y7.1).Size, (((rd lb1_1_3 y7.1).List_).set y8.toNat (⟨(rd ((rd lb1_1_3 y7.1).List_) y8).From, (rd ((rd lb1_1_3 y7.1).List_) y8).Len, (rd ((rd lb1_1_3 y7.1).List_) y8).Dev, (rd ((rd lb1_1_3 y7.1).List_) y8).To, w64 (((rd ((rd lb1_1_3 y7.1).List_) y8).Stale) + 1)⟩ : Entry))⟩ : Table))) else none) else none)) else none) else none))) else none) else ((table_At.f k (⟨y4.Dev, y4.Size, lb1_6_3⟩ : Table) ((rd y6.1.Way it26_3).At)).bind fun y9 => (if y9 < 0 then (chain_Lose.j2 it17_1 lb1_0_1 it26_3 lb1_1_3 re1 (chain_Lose.l2 p0 k y4 it17_1 lb1_0_1 y6 re1 n) 3 lb1_6_3) else (if 0 ≤ y9 ∧ y9 < (lb1_6_3.length : Int) then (if 0 ≤ y9 ∧ y9 < (lb1_6_3.length : Int) then (if (rd lb1_6_3 y9).Stale = (rd lb1_6_3 y9).Len then (chain_Lose.j2 it17_1 lb1_0_1 it26_3 lb1_1_3 re1 (chain_Lose.l2 p0 k y4 it17_1 lb1_0_1 y6 re1 n) 9 lb1_6_3) else (if 0 ≤ y9 ∧ y9 < (lb1_6_3.length : Int) then (if 0 ≤ y9 ∧ y9 < (lb1_6_3.length : Int) then (chain_Lose.j2 it17_1 lb1_0_1 it26_3 lb1_1_3 re1 (chain_Lose.l2 p0 k y4 it17_1 lb1_0_1 y6 re1 n) 0 (lb1_6_3.set y9.toNat (⟨(rd lb1_6_3 y9).From, (rd lb1_6_3 y9).Len, (rd lb1_6_3 y9).Dev, (rd lb1_6_3 y9).To, w64 (((rd lb1_6_3 y9).Stale) + 1)⟩ : Entry))) else none) else none)) else none) else none))))) else none) else ((room_Find.f k lb1_0_1 y6.1.Ptr_.Dev).bind fun y10 => (if y10.2 = true then (if y6.1.Ptr_.At < 0 then (chain_Lose.j4 k it17_1 lb1_0_1 y6 lb1_1_3 lb1_6_3 y10 re1 true) else (if 0 ≤ y10.1 ∧ y10.1 < (lb1_0_1.length : Int) then (chain_Lose.j4 k it17_1 lb1_0_1 y6 lb1_1_3 lb1_6_3 y10 re1 (decide (((rd lb1_0_1 y10.1).Size) ≤ y6.1.Ptr_.At))) else none)) else (chain_Lose.j3 it17_1 lb1_1_3 lb1_6_3 re1 3 lb1_0_1))))
def chain_Lose.l1 (p0 : Pool) (p1 : List Ptr) (k : Nat) (y4 : Table) : Nat → Int → (List Device) → (List Table) → (List Entry) → Option (Pool × Int)
  | 0, _, _, _, _ => none
  | n + 1, it17_1, lb1_0_1, lb1_1_1, lb1_6_1 => (if it17_1 < (p1.length : Int) then (if 0 ≤ it17_1 ∧ it17_1 < (p1.length : Int) then ((chain_Trace.f k (⟨lb1_0_1, lb1_1_1, (⟨p0.Job.Dev, p0.Job.At, (⟨y4.Dev, y4.Size, lb1_6_1⟩ : Table)⟩ : Job), p0.Next⟩ : Pool) (rd p1 it17_1) true).bind fun y6 => (if y6.2 = true then (chain_Lose.l2 p0 k y4 it17_1 lb1_0_1 y6 (chain_Lose.l1 p0 p1 k y4 n) k 0 lb1_1_1 lb1_6_1) else (chain_Lose.j0 it17_1 (chain_Lose.l1 p0 p1 k y4 n) 3 lb1_0_1 lb1_1_1 lb1_6_1))) else none) else (some ((⟨lb1_0_1, lb1_1_1, (⟨p0.Job.Dev, p0.Job.At, (⟨y4.Dev, y4.Size, lb1_6_1⟩ : Table)⟩ : Job), p0.Next⟩ : Pool), 0)))
def chain_Lose.l0 (p0 : Pool) (p1 : List Ptr) (k : Nat) (y2 : (List Device)) (y3 : (List Table)) (y4 : Table) : Nat → Int → (List Table) → Option (Pool × Int)
  | 0, _, _ => none
  | n + 1, it21_0, lb3_1_0 => (if it21_0 < (y3.length : Int) then (if 0 ≤ it21_0 ∧ it21_0 < (lb3_1_0.length : Int) then ((table_Own.f (rd lb3_1_0 it21_0)).bind fun y5 => (if 0 ≤ it21_0 ∧ it21_0 < (lb3_1_0.length : Int) then (chain_Lose.l0 p0 p1 k y2 y3 y4 n (w64 (it21_0 + 1)) (lb3_1_0.set it21_0.toNat y5)) else none)) else none) else (chain_Lose.l1 p0 p1 k y4 k 0 y2 lb3_1_0 y4.List_))
def chain_Lose.f (k : Nat) (p0 : Pool) (p1 : List Ptr) : Option (Pool × Int) := ((chain_May.f k p0).bind fun y1 => (if y1 = true then ((room_Own.f k p0.Devices).bind fun y2 => ((slices_Clone_Table.f p0.Tables).bind fun y3 => ((table_Own.f p0.Job.Table).bind fun y4 => (chain_Lose.l0 p0 p1 k y2 y3 y4 k 0 y3)))) else (some ((⟨([] : List Device), ([] : List Table), (⟨0, 0, (⟨0, 0, ([] : List Entry)⟩ : Table)⟩ : Job), 0⟩ : Pool), 1))))
/-! ### hermitage/hermitagelaw9.wakes: function 50 -/
def hermitagelaw9_wakes.f (k : Nat) : Option Bool := ((chain_Now.f k (⟨([(⟨1, 2, ([] : List Seg), ([] : List Seg)⟩ : Device)] : List Device), ([] : List Table), (⟨0, 0, (⟨0, 0, ([] : List Entry)⟩ : Table)⟩ : Job), 2⟩ : Pool) (⟨1, 1⟩ : Ptr)).bind fun y1 => ((hermitagelaw9_num.f y1.2).bind fun y2 => (if y2 = 0 then (some (decide (y1.1 = (⟨1, 1⟩ : Ptr)))) else (some false))))
/-! ### hermitage/hermitagelaw9.ChainDeep: function 10 -/
def hermitagelaw9_ChainDeep.j2 (it14_3 : Int) (re3 : Int → Option Bool) (bt168_4 : Bool) : Option Bool := (if bt168_4 = true then (some false) else (re3 (w64 (it14_3 + 1))))
def hermitagelaw9_ChainDeep.l1 (k : Nat) (y1 : Int) (y7 : Pool × Int) : Nat → Int → Option Bool
  | 0, _ => none
  | n + 1, it14_3 => (if it14_3 < (w64 (1 + y1)) then (if 0 ≤ it14_3 ∧ it14_3 < (y7.1.Tables.length : Int) then (if (((rd y7.1.Tables it14_3).List_).length : Int) = 1 then (if 0 ≤ it14_3 ∧ it14_3 < (y7.1.Tables.length : Int) then (if (0 : Int) ≤ 0 ∧ 0 < (((rd y7.1.Tables it14_3).List_).length : Int) then (hermitagelaw9_ChainDeep.j2 it14_3 (hermitagelaw9_ChainDeep.l1 k y1 y7 n) (((rd ((rd y7.1.Tables it14_3).List_) 0).Stale) != 1)) else none) else none) else (hermitagelaw9_ChainDeep.j2 it14_3 (hermitagelaw9_ChainDeep.l1 k y1 y7 n) true)) else none) else ((hermitagelaw9_wakes.f k).bind fun y10 => (some y10)))
def hermitagelaw9_ChainDeep.j1 (k : Nat) (y1 : Int) (y7 : Pool × Int) (bt143_2 : Bool) : Option Bool := (if bt143_2 = true then (some false) else (hermitagelaw9_ChainDeep.l1 k y1 y7 k 0))
def hermitagelaw9_ChainDeep.j0 (k : Nat) (y1 : Int) (it4_0 : Int) (lb3_1_0 : List Table) (bt105_1 : Bool) : Option Bool := (if bt105_1 = true then (some false) else ((chain_Lose.f k (⟨([(⟨w64 ((w64 (1 + y1)) + 1), 20, ([] : List Seg), ([] : List Seg)⟩ : Device)] : List Device), lb3_1_0, (⟨0, 0, (⟨0, 0, ([] : List Entry)⟩ : Table)⟩ : Job), w64 ((w64 (1 + y1)) + 2)⟩ : Pool) ([(⟨1, w64 (((rd ((rd lb3_1_0 0).List_) 0).From) + 1)⟩ : Ptr)] : List Ptr)).bind fun y7 => ((hermitagelaw9_num.f y7.2).bind fun y8 => (if y8 = 0 then (if (y7.1.Tables.length : Int) = w64 (1 + y1) then (if (y7.1.Devices.length : Int) = 1 then (if (0 : Int) ≤ 0 ∧ 0 < (y7.1.Devices.length : Int) then ((hermitageref0_EqSegs.f k ((rd y7.1.Devices 0).Late) ([(⟨w64 (it4_0 + 1), 1⟩ : Seg)] : List Seg)).bind fun y9 => (hermitagelaw9_ChainDeep.j1 k y1 y7 (!y9))) else none) else (hermitagelaw9_ChainDeep.j1 k y1 y7 true)) else (hermitagelaw9_ChainDeep.j1 k y1 y7 true)) else (hermitagelaw9_ChainDeep.j1 k y1 y7 true)))))
def hermitagelaw9_ChainDeep.l0 (k : Nat) (y1 : Int) : Nat → Int → Int → (List Table) → Option Bool
  | 0, _, _, _ => none
  | n + 1, it4_0, it6_0, lb3_1_0 => (if it6_0 ≤ (w64 (1 + y1)) then (if (lb3_1_0.length + 1) * 40 ≤ 140737488355328 then (hermitagelaw9_ChainDeep.l0 k y1 n ((w64 (it4_0 + (it6_0.tmod 2))).tmod 9) (w64 (it6_0 + 1)) (lb3_1_0 ++ [(⟨it6_0, 12, ([(⟨it4_0, 2, w64 (it6_0 + 1), (w64 (it4_0 + (it6_0.tmod 2))).tmod 9, 0⟩ : Entry)] : List Entry)⟩ : Table)])) else none) else (if (0 : Int) ≤ 0 ∧ 0 < (lb3_1_0.length : Int) then (if (0 : Int) ≤ 0 ∧ 0 < (((rd lb3_1_0 0).List_).length : Int) then ((chain_Now.f k (⟨([(⟨w64 ((w64 (1 + y1)) + 1), 20, ([] : List Seg), ([] : List Seg)⟩ : Device)] : List Device), lb3_1_0, (⟨0, 0, (⟨0, 0, ([] : List Entry)⟩ : Table)⟩ : Job), w64 ((w64 (1 + y1)) + 2)⟩ : Pool) (⟨1, w64 (((rd ((rd lb3_1_0 0).List_) 0).From) + 1)⟩ : Ptr)).bind fun y3 => ((chain_Way.f k (⟨([(⟨w64 ((w64 (1 + y1)) + 1), 20, ([] : List Seg), ([] : List Seg)⟩ : Device)] : List Device), lb3_1_0, (⟨0, 0, (⟨0, 0, ([] : List Entry)⟩ : Table)⟩ : Job), w64 ((w64 (1 + y1)) + 2)⟩ : Pool) (⟨1, w64 (((rd ((rd lb3_1_0 0).List_) 0).From) + 1)⟩ : Ptr)).bind fun y4 => ((hermitagelaw9_num.f y3.2).bind fun y5 => (if y5 = 0 then ((hermitagelaw9_num.f y4.2).bind fun y6 => (if y6 = 0 then (if (y4.1.length : Int) = w64 (1 + y1) then (hermitagelaw9_ChainDeep.j0 k y1 it4_0 lb3_1_0 (!(decide (y3.1 = (⟨w64 ((w64 (1 + y1)) + 1), w64 (it4_0 + 1)⟩ : Ptr))))) else (hermitagelaw9_ChainDeep.j0 k y1 it4_0 lb3_1_0 true)) else (hermitagelaw9_ChainDeep.j0 k y1 it4_0 lb3_1_0 true))) else (hermitagelaw9_ChainDeep.j0 k y1 it4_0 lb3_1_0 true))))) else none) else none))
def hermitagelaw9_ChainDeep.f (k : Nat) (p0 : hermitagelaw9Ask) : Option Bool := ((hermitagelaw0_Within.f (p0.Q.length : Int) 12).bind fun y1 => ((hermitagelaw0_Within.f (w64 ((p0.Q.length : Int) * 7)) 9).bind fun y2 => (hermitagelaw9_ChainDeep.l0 k y1 k y2 1 ([] : List Table))))
end Go.Proofs.YtnaajldlloglkaaDoor.W
