/- What the functions tell, as plain functions over numbers and lists; printed by a program of the claim. -/
import Derived.Test.YtnaajldlloglkaaHP
set_option linter.unusedVariables false
set_option linter.unusedSimpArgs false
namespace Go.Proofs.Ytnaajldlloglkaa.W
open Go.H
structure Entry where
  From : Int
  Len : Int
  Dev : Int
  To : Int
  Stale : Int
  deriving DecidableEq, Inhabited
structure Table where
  Dev : Int
  Size : Int
  List_ : List Entry
  deriving DecidableEq, Inhabited
structure Job where
  Dev : Int
  At : Int
  Table : Table
  deriving DecidableEq, Inhabited
structure Seg where
  At : Int
  Len : Int
  deriving DecidableEq, Inhabited
structure Device where
  ID : Int
  Size : Int
  Free : List Seg
  Late : List Seg
  deriving DecidableEq, Inhabited
structure Pool where
  Devices : List Device
  Tables : List Table
  Job : Job
  Next : Int
  deriving DecidableEq, Inhabited
structure Ptr where
  Dev : Int
  At : Int
  deriving DecidableEq, Inhabited
structure hermitagelaw10Act where
  Do : Int
  N : Int
  Q : List Ptr
  deriving DecidableEq, Inhabited
structure hermitagelaw10Script where
  P : Pool
  A : List hermitagelaw10Act
  deriving DecidableEq, Inhabited
/-! ### hermitage/hermitagelaw0.Within: function 11 -/
def hermitagelaw0_Within.f (p0 : Int) (p1 : Int) : Option Int := (if ¬ wu64 (p1) = 0 then (some (w64 ((wu64 (p0)).tmod (wu64 (p1))))) else none)
/-! ### hermitage/seg.To: function 76 -/
def seg_To.f (p0 : Int) : Option Int := (if 64 ≤ p0 then (some 18446744073709551615) else (if 0 ≤ p0 then (some (wu64 ((wu64 (1 * 2 ^ min p0.toNat 64)) - 1))) else none))
/-! ### hermitage/seg.Make: function 99 -/
def seg_Make.l0 (p0 : List Seg) : Nat → Int → Int → Option Int
  | 0, _, _ => none
  | n + 1, it3_0, it8_0 => (if it8_0 < (p0.length : Int) then (if 0 ≤ it8_0 ∧ it8_0 < (p0.length : Int) then ((seg_To.f (w64 (((rd p0 it8_0).At) + ((rd p0 it8_0).Len)))).bind fun y1 => ((seg_To.f ((rd p0 it8_0).At)).bind fun y2 => (seg_Make.l0 p0 n (uor it3_0 (uandn y1 y2)) (w64 (it8_0 + 1))))) else none) else (some it3_0))
def seg_Make.f (k : Nat) (p0 : List Seg) : Option Int := (seg_Make.l0 p0 k 0 0)
/-! ### hermitage/seg.May: function 126 -/
def seg_May.j0 (it7_0 : Int) (re0 : Int → Option Bool) (bt54_1 : Bool) : Option Bool := (if bt54_1 = true then (some false) else (re0 (w64 (it7_0 + 1))))
def seg_May.l0 (p0 : List Seg) : Nat → Int → Option Bool
  | 0, _ => none
  | n + 1, it7_0 => (if it7_0 < (p0.length : Int) then (if 0 ≤ it7_0 ∧ it7_0 < (p0.length : Int) then (if ((rd p0 it7_0).At) < 0 then (seg_May.j0 it7_0 (seg_May.l0 p0 n) true) else (if ((rd p0 it7_0).Len) < 1 then (seg_May.j0 it7_0 (seg_May.l0 p0 n) true) else (if 64 < ((rd p0 it7_0).At) then (seg_May.j0 it7_0 (seg_May.l0 p0 n) true) else (if (w64 (64 - ((rd p0 it7_0).At))) < ((rd p0 it7_0).Len) then (seg_May.j0 it7_0 (seg_May.l0 p0 n) true) else (if 0 < it7_0 then (if 0 ≤ (w64 (it7_0 - 1)) ∧ (w64 (it7_0 - 1)) < (p0.length : Int) then (if 0 ≤ (w64 (it7_0 - 1)) ∧ (w64 (it7_0 - 1)) < (p0.length : Int) then (seg_May.j0 it7_0 (seg_May.l0 p0 n) (decide (((rd p0 it7_0).At) ≤ (w64 (((rd p0 (w64 (it7_0 - 1))).At) + ((rd p0 (w64 (it7_0 - 1))).Len)))))) else none) else none) else (seg_May.j0 it7_0 (seg_May.l0 p0 n) false)))))) else none) else (some true))
def seg_May.f (k : Nat) (p0 : List Seg) : Option Bool := (seg_May.l0 p0 k 0)
/-! ### hermitage/room.ok: function 123 -/
def room_ok.f (k : Nat) (p0 : List Seg) (p1 : Int) : Option Bool := ((seg_May.f k p0).bind fun y1 => (if y1 = true then ((seg_Make.f k p0).bind fun y2 => ((seg_To.f p1).bind fun y3 => (some ((uandn y2 y3) == 0)))) else (some false)))
/-! ### hermitage/room.Device: function 105 -/
def room_Device.f (k : Nat) (p0 : Device) : Option Bool := (if 1 ≤ p0.ID then (if p0.ID ≤ 40 then (if 1 ≤ p0.Size then (if p0.Size ≤ 64 then ((room_ok.f k p0.Free p0.Size).bind fun y1 => (if y1 = true then ((room_ok.f k p0.Late p0.Size).bind fun y2 => (if y2 = true then ((seg_Make.f k p0.Free).bind fun y3 => ((seg_Make.f k p0.Late).bind fun y4 => (some ((uand y3 y4) == 0)))) else (some false))) else (some false))) else (some false)) else (some false)) else (some false)) else (some false))
/-! ### hermitage/room.May: function 87 -/
def room_May.j0 (it10_0 : Int) (re0 : Int → Option Bool) (bt32_1 : Bool) : Option Bool := (if bt32_1 = true then (some false) else (re0 (w64 (it10_0 + 1))))
def room_May.l0 (p0 : List Device) (k : Nat) : Nat → Int → Option Bool
  | 0, _ => none
  | n + 1, it10_0 => (if it10_0 < (p0.length : Int) then (if 0 ≤ it10_0 ∧ it10_0 < (p0.length : Int) then ((room_Device.f k (rd p0 it10_0)).bind fun y1 => (if y1 = true then (if 0 < it10_0 then (if 0 ≤ (w64 (it10_0 - 1)) ∧ (w64 (it10_0 - 1)) < (p0.length : Int) then (room_May.j0 it10_0 (room_May.l0 p0 k n) (decide (((rd p0 it10_0).ID) ≤ ((rd p0 (w64 (it10_0 - 1))).ID)))) else none) else (room_May.j0 it10_0 (room_May.l0 p0 k n) false)) else (room_May.j0 it10_0 (room_May.l0 p0 k n) true))) else none) else (some true))
def room_May.f (k : Nat) (p0 : List Device) : Option Bool := (if 6 < (p0.length : Int) then (some false) else (room_May.l0 p0 k k 0))
/-! ### hermitage/table.end: function 40 -/
def table_end.f (p0 : Entry) : Option Int := (some (w64 (p0.From + p0.Len)))
/-! ### hermitage/table.id: function 82 -/
def table_id.f (p0 : Int) : Option Bool := (if 1 ≤ p0 then (some (decide (p0 ≤ 40))) else (some false))
/-! ### hermitage/table.entry: function 42 -/
def table_entry.f (p0 : Table) (p1 : Entry) : Option Bool := (if 0 ≤ p1.From then (if p1.From < p0.Size then (if 1 ≤ p1.Len then (if p1.Len ≤ (w64 (p0.Size - p1.From)) then ((table_id.f p1.Dev).bind fun y1 => (if y1 = true then (if p1.Dev = p0.Dev then (some false) else (if 0 ≤ p1.To then (if p1.To < 64 then (if p1.Len ≤ (w64 (64 - p1.To)) then (if 0 ≤ p1.Stale then (some (decide (p1.Stale ≤ p1.Len))) else (some false)) else (some false)) else (some false)) else (some false))) else (some false))) else (some false)) else (some false)) else (some false)) else (some false))
/-! ### hermitage/table.May: function 41 -/
def table_May.j1 (it22_1 : Int) (re1 : Int → Option Bool) (bt46_2 : Bool) : Option Bool := (if bt46_2 = true then (some false) else (re1 (w64 (it22_1 + 1))))
def table_May.l0 (p0 : Table) : Nat → Int → Option Bool
  | 0, _ => none
  | n + 1, it22_1 => (if it22_1 < (p0.List_.length : Int) then (if 0 ≤ it22_1 ∧ it22_1 < (p0.List_.length : Int) then ((table_entry.f p0 (rd p0.List_ it22_1)).bind fun y2 => (if y2 = true then (if 0 < it22_1 then (if 0 ≤ (w64 (it22_1 - 1)) ∧ (w64 (it22_1 - 1)) < (p0.List_.length : Int) then ((table_end.f (rd p0.List_ (w64 (it22_1 - 1)))).bind fun y3 => (table_May.j1 it22_1 (table_May.l0 p0 n) (decide (((rd p0.List_ it22_1).From) < y3)))) else none) else (table_May.j1 it22_1 (table_May.l0 p0 n) false)) else (table_May.j1 it22_1 (table_May.l0 p0 n) true))) else none) else (some true))
def table_May.j0 (p0 : Table) (k : Nat) (bt18_0 : Bool) : Option Bool := (if bt18_0 = true then (some false) else (table_May.l0 p0 k 0))
def table_May.f (k : Nat) (p0 : Table) : Option Bool := ((table_id.f p0.Dev).bind fun y1 => (if y1 = true then (if p0.Size < 1 then (table_May.j0 p0 k true) else (table_May.j0 p0 k (decide (64 < p0.Size)))) else (table_May.j0 p0 k true)))
/-! ### hermitage/room.Find$1: function 98 -/
def room_Find_1.f (p0 : Device) (p1 : Int) : Option Int := (some (w64 (p0.ID - p1)))
/-! ### hermitage/room.Find: function 74 -/
def room_Find.j0 (it8_0_0 : Int) (bt8_1_0 : Bool) : Option (Int × Bool) := (some (it8_0_0, bt8_1_0))
def room_Find.l0 (p0 : List Device) (p1 : Int) : Nat → Int → Int → Option (Int × Bool)
  | 0, _, _ => none
  | n + 1, it9_1, it10_1 => (if it9_1 < it10_1 then (if 0 ≤ (w64 ((wu64 (w64 (it9_1 + it10_1))).fdiv (2 ^ min (1 : Int).toNat 64))) ∧ (w64 ((wu64 (w64 (it9_1 + it10_1))).fdiv (2 ^ min (1 : Int).toNat 64))) < (p0.length : Int) then ((room_Find_1.f (rd p0 (w64 ((wu64 (w64 (it9_1 + it10_1))).fdiv (2 ^ min (1 : Int).toNat 64)))) p1).bind fun y1 => (if y1 < 0 then (room_Find.l0 p0 p1 n (w64 ((w64 ((wu64 (w64 (it9_1 + it10_1))).fdiv (2 ^ min (1 : Int).toNat 64))) + 1)) it10_1) else (room_Find.l0 p0 p1 n it9_1 (w64 ((wu64 (w64 (it9_1 + it10_1))).fdiv (2 ^ min (1 : Int).toNat 64)))))) else none) else (if it9_1 < (p0.length : Int) then (if 0 ≤ it9_1 ∧ it9_1 < (p0.length : Int) then ((room_Find_1.f (rd p0 it9_1) p1).bind fun y2 => (room_Find.j0 it9_1 (y2 == 0))) else none) else (room_Find.j0 it9_1 false)))
def room_Find.f (k : Nat) (p0 : List Device) (p1 : Int) : Option (Int × Bool) := (room_Find.l0 p0 p1 k 0 (p0.length : Int))
/-! ### hermitage/chain.device: function 106 -/
def chain_device.f (k : Nat) (p0 : Pool) (p1 : Int) : Option Bool := ((room_Find.f k p0.Devices p1).bind fun y1 => (some y1.2))
/-! ### hermitage/chain.ids: function 88 -/
def chain_ids.j0 (it11_0 : Int) (re0 : Int → Option Bool) (bt47_1 : Bool) : Option Bool := (if bt47_1 = true then (some false) else (re0 (w64 (it11_0 + 1))))
def chain_ids.j1 (it7_2 : Int) : Option Bool := (some (!(decide (0 ≤ it7_2))))
def chain_ids.l1 (p0 : Pool) : Nat → Int → Option Bool
  | 0, _ => none
  | n + 1, it8_3 => (if it8_3 < (p0.Devices.length : Int) then (if 0 ≤ it8_3 ∧ it8_3 < (p0.Devices.length : Int) then (if p0.Next ≤ ((rd p0.Devices it8_3).ID) then (chain_ids.j1 it8_3) else (chain_ids.l1 p0 n (w64 (it8_3 + 1)))) else none) else (chain_ids.j1 (-1)))
def chain_ids.l0 (p0 : Pool) (k : Nat) : Nat → Int → Option Bool
  | 0, _ => none
  | n + 1, it11_0 => (if it11_0 < (p0.Tables.length : Int) then (if 0 ≤ it11_0 ∧ it11_0 < (p0.Tables.length : Int) then ((table_May.f k (rd p0.Tables it11_0)).bind fun y1 => (if y1 = true then ((chain_device.f k p0 ((rd p0.Tables it11_0).Dev)).bind fun y2 => (if y2 = true then (chain_ids.j0 it11_0 (chain_ids.l0 p0 k n) true) else (if p0.Next ≤ ((rd p0.Tables it11_0).Dev) then (chain_ids.j0 it11_0 (chain_ids.l0 p0 k n) true) else (if 0 < it11_0 then (if 0 ≤ (w64 (it11_0 - 1)) ∧ (w64 (it11_0 - 1)) < (p0.Tables.length : Int) then (chain_ids.j0 it11_0 (chain_ids.l0 p0 k n) (decide (((rd p0.Tables it11_0).Dev) ≤ ((rd p0.Tables (w64 (it11_0 - 1))).Dev)))) else none) else (chain_ids.j0 it11_0 (chain_ids.l0 p0 k n) false))))) else (chain_ids.j0 it11_0 (chain_ids.l0 p0 k n) true))) else none) else (chain_ids.l1 p0 k 0))
def chain_ids.f (k : Nat) (p0 : Pool) : Option Bool := (if 41 < p0.Next then (some false) else (chain_ids.l0 p0 k k 0))
/-! ### hermitage/chain.tables: function 89 -/
def chain_tables.j0 (it16_1 : Int) (re1 : Int → (List (Int × Bool)) → Option Bool) (mb2_0_2 : List (Int × Bool)) : Option Bool := (re1 (w64 (it16_1 + 1)) mb2_0_2)
def chain_tables.j1 (p0 : Pool) (it16_1 : Int) (mb2_0_1 : List (Int × Bool)) (re1 : Int → (List (Int × Bool)) → Option Bool) (it7_3 : Int) : Option Bool := (chain_tables.j0 it16_1 re1 (mset mb2_0_1 ((rd p0.Tables it16_1).Dev) (!(decide (0 ≤ it7_3)))))
def chain_tables.j2 (p0 : Pool) (it16_1 : Int) (mb2_0_1 : List (Int × Bool)) (it8_4 : Int) (re1 : Int → (List (Int × Bool)) → Option Bool) (re4 : Int → Option Bool) (bt16_5 : Bool) : Option Bool := (if bt16_5 = true then (chain_tables.j1 p0 it16_1 mb2_0_1 re1 it8_4) else (re4 (w64 (it8_4 + 1))))
def chain_tables.l2 (p0 : Pool) (k : Nat) (it16_1 : Int) (mb2_0_1 : List (Int × Bool)) (re1 : Int → (List (Int × Bool)) → Option Bool) : Nat → Int → Option Bool
  | 0, _ => none
  | n + 1, it8_4 => (if it8_4 < (((rd p0.Tables it16_1).List_).length : Int) then (if 0 ≤ it8_4 ∧ it8_4 < (((rd p0.Tables it16_1).List_).length : Int) then (if ((mget mb2_0_1 ((rd ((rd p0.Tables it16_1).List_) it8_4).Dev)).getD false) = true then (chain_tables.j2 p0 it16_1 mb2_0_1 it8_4 re1 (chain_tables.l2 p0 k it16_1 mb2_0_1 re1 n) false) else ((chain_device.f k p0 ((rd ((rd p0.Tables it16_1).List_) it8_4).Dev)).bind fun y1 => (chain_tables.j2 p0 it16_1 mb2_0_1 it8_4 re1 (chain_tables.l2 p0 k it16_1 mb2_0_1 re1 n) (!y1)))) else none) else (chain_tables.j1 p0 it16_1 mb2_0_1 re1 (-1)))
def chain_tables.l1 (p0 : Pool) (k : Nat) (it11_0 : Int) (re0 : Int → (List (Int × Bool)) → Option Bool) : Nat → Int → (List (Int × Bool)) → Option Bool
  | 0, _, _ => none
  | n + 1, it16_1, mb2_0_1 => (if it16_1 < (p0.Tables.length : Int) then (if 0 ≤ it16_1 ∧ it16_1 < (p0.Tables.length : Int) then (if ((mget mb2_0_1 ((rd p0.Tables it16_1).Dev)).getD false) = true then (chain_tables.j0 it16_1 (chain_tables.l1 p0 k it11_0 re0 n) (mset mb2_0_1 ((rd p0.Tables it16_1).Dev) true)) else (chain_tables.l2 p0 k it16_1 mb2_0_1 (chain_tables.l1 p0 k it11_0 re0 n) k 0)) else none) else (re0 (w64 (it11_0 + 1)) mb2_0_1))
def chain_tables.j3 (it7_6 : Int) : Option Bool := (some (!(decide (0 ≤ it7_6))))
def chain_tables.l3 (p0 : Pool) (mb2_0_0 : List (Int × Bool)) : Nat → Int → Option Bool
  | 0, _ => none
  | n + 1, it8_7 => (if it8_7 < (p0.Tables.length : Int) then (if 0 ≤ it8_7 ∧ it8_7 < (p0.Tables.length : Int) then (if ((mget mb2_0_0 ((rd p0.Tables it8_7).Dev)).getD false) = true then (chain_tables.l3 p0 mb2_0_0 n (w64 (it8_7 + 1))) else (chain_tables.j3 it8_7)) else none) else (chain_tables.j3 (-1)))
def chain_tables.l0 (p0 : Pool) (k : Nat) : Nat → Int → (List (Int × Bool)) → Option Bool
  | 0, _, _ => none
  | n + 1, it11_0, mb2_0_0 => (if it11_0 < (p0.Tables.length : Int) then (chain_tables.l1 p0 k it11_0 (chain_tables.l0 p0 k n) k 0 mb2_0_0) else (chain_tables.l3 p0 mb2_0_0 k 0))
def chain_tables.f (k : Nat) (p0 : Pool) : Option Bool := (chain_tables.l0 p0 k k 0 ([] : List (Int × Bool)))
/-! ### hermitage/chain.none: function 112 -/
def chain_none.f (p0 : Job) : Option Bool := (if p0.Dev = 0 then (if p0.At = 0 then (if p0.Table.Dev = 0 then (if p0.Table.Size = 0 then (some ((p0.Table.List_.length : Int) == 0)) else (some false)) else (some false)) else (some false)) else (some false))
/-! ### hermitage/chain.job: function 90 -/
def chain_job.j1 (it7_1 : Int) : Option Bool := (some (!(decide (0 ≤ it7_1))))
def chain_job.j2 (it8_2 : Int) (re2 : Int → Option Bool) (bt16_3 : Bool) : Option Bool := (if bt16_3 = true then (chain_job.j1 it8_2) else (re2 (w64 (it8_2 + 1))))
def chain_job.l0 (p0 : Pool) (k : Nat) : Nat → Int → Option Bool
  | 0, _ => none
  | n + 1, it8_2 => (if it8_2 < (p0.Job.Table.List_.length : Int) then (if 0 ≤ it8_2 ∧ it8_2 < (p0.Job.Table.List_.length : Int) then (if p0.Job.At < (w64 (((rd p0.Job.Table.List_ it8_2).From) + ((rd p0.Job.Table.List_ it8_2).Len))) then (chain_job.j2 it8_2 (chain_job.l0 p0 k n) true) else ((chain_device.f k p0 ((rd p0.Job.Table.List_ it8_2).Dev)).bind fun y4 => (chain_job.j2 it8_2 (chain_job.l0 p0 k n) (!y4)))) else none) else (chain_job.j1 (-1)))
def chain_job.j0 (p0 : Pool) (k : Nat) (bt61_0 : Bool) : Option Bool := (if bt61_0 = true then (some false) else (chain_job.l0 p0 k k 0))
def chain_job.f (k : Nat) (p0 : Pool) : Option Bool := ((chain_none.f p0.Job).bind fun y1 => (if y1 = true then (some true) else ((room_Find.f k p0.Devices p0.Job.Dev).bind fun y2 => (if y2.2 = true then (if p0.Job.At < 0 then (chain_job.j0 p0 k true) else (if 0 ≤ y2.1 ∧ y2.1 < (p0.Devices.length : Int) then (if ((rd p0.Devices y2.1).Size) ≤ p0.Job.At then (chain_job.j0 p0 k true) else (if p0.Job.Table.Dev = p0.Job.Dev then (if 0 ≤ y2.1 ∧ y2.1 < (p0.Devices.length : Int) then (if p0.Job.Table.Size = (rd p0.Devices y2.1).Size then ((table_May.f k p0.Job.Table).bind fun y3 => (chain_job.j0 p0 k (!y3))) else (chain_job.j0 p0 k true)) else none) else (chain_job.j0 p0 k true))) else none)) else (chain_job.j0 p0 k true)))))
/-! ### hermitage/chain.May: function 63 -/
def chain_May.j1 (it7_1 : Int) : Option Bool := (some (decide (0 ≤ it7_1)))
def chain_May.l0 (p0 : Pool) : Nat → Int → Option Bool
  | 0, _ => none
  | n + 1, it8_2 => (if it8_2 < (p0.Devices.length : Int) then (if 0 ≤ it8_2 ∧ it8_2 < (p0.Devices.length : Int) then (if (rd p0.Devices it8_2).ID = p0.Job.Dev then (chain_May.l0 p0 n (w64 (it8_2 + 1))) else (chain_May.j1 it8_2)) else none) else (chain_May.j1 (-1)))
def chain_May.j0 (p0 : Pool) (k : Nat) (bt39_0 : Bool) : Option Bool := (if bt39_0 = true then (some false) else (chain_May.l0 p0 k 0))
def chain_May.f (k : Nat) (p0 : Pool) : Option Bool := ((room_May.f k p0.Devices).bind fun y1 => (if y1 = true then (if 12 < (p0.Tables.length : Int) then (chain_May.j0 p0 k true) else (if p0.Job.Dev = 0 then ((chain_ids.f k p0).bind fun y2 => (if y2 = true then ((chain_tables.f k p0).bind fun y3 => (if y3 = true then ((chain_job.f k p0).bind fun y4 => (chain_May.j0 p0 k (!y4))) else (chain_May.j0 p0 k true))) else (chain_May.j0 p0 k true))) else (if 12 ≤ (p0.Tables.length : Int) then (chain_May.j0 p0 k true) else ((chain_ids.f k p0).bind fun y5 => (if y5 = true then ((chain_tables.f k p0).bind fun y6 => (if y6 = true then ((chain_job.f k p0).bind fun y7 => (chain_May.j0 p0 k (!y7))) else (chain_May.j0 p0 k true))) else (chain_May.j0 p0 k true)))))) else (chain_May.j0 p0 k true)))
/-! ### hermitage/chain.Find$1: function 116 -/
def chain_Find_1.f (p0 : Table) (p1 : Int) : Option Int := (some (w64 (p0.Dev - p1)))
/-! ### hermitage/chain.Find: function 93 -/
def chain_Find.j0 (it9_0_0 : Int) (bt9_1_0 : Bool) : Option (Int × Bool) := (some (it9_0_0, bt9_1_0))
def chain_Find.l0 (p0 : Pool) (p1 : Int) : Nat → Int → Int → Option (Int × Bool)
  | 0, _, _ => none
  | n + 1, it9_1, it10_1 => (if it9_1 < it10_1 then (if 0 ≤ (w64 ((wu64 (w64 (it9_1 + it10_1))).fdiv (2 ^ min (1 : Int).toNat 64))) ∧ (w64 ((wu64 (w64 (it9_1 + it10_1))).fdiv (2 ^ min (1 : Int).toNat 64))) < (p0.Tables.length : Int) then ((chain_Find_1.f (rd p0.Tables (w64 ((wu64 (w64 (it9_1 + it10_1))).fdiv (2 ^ min (1 : Int).toNat 64)))) p1).bind fun y1 => (if y1 < 0 then (chain_Find.l0 p0 p1 n (w64 ((w64 ((wu64 (w64 (it9_1 + it10_1))).fdiv (2 ^ min (1 : Int).toNat 64))) + 1)) it10_1) else (chain_Find.l0 p0 p1 n it9_1 (w64 ((wu64 (w64 (it9_1 + it10_1))).fdiv (2 ^ min (1 : Int).toNat 64)))))) else none) else (if it9_1 < (p0.Tables.length : Int) then (if 0 ≤ it9_1 ∧ it9_1 < (p0.Tables.length : Int) then ((chain_Find_1.f (rd p0.Tables it9_1) p1).bind fun y2 => (chain_Find.j0 it9_1 (y2 == 0))) else none) else (chain_Find.j0 it9_1 false)))
def chain_Find.f (k : Nat) (p0 : Pool) (p1 : Int) : Option (Int × Bool) := (chain_Find.l0 p0 p1 k 0 (p0.Tables.length : Int))
/-! ### hermitage/fore.deep: function 64 -/
def fore_deep.l0 (p0 : Pool) (p1 : Int) (rc : Pool → Int → (List (Int × Int)) → Option (Int × List (Int × Int))) (y1 : Int × Bool) : Nat → Int → Int → (List (Int × Int)) → Option (Int × List (Int × Int))
  | 0, _, _, _ => none
  | n + 1, it11_0, it37_0, mbm2_0_0 => (if it37_0 < (((rd p0.Tables y1.1).List_).length : Int) then (if 0 ≤ it37_0 ∧ it37_0 < (((rd p0.Tables y1.1).List_).length : Int) then ((rc p0 ((rd ((rd p0.Tables y1.1).List_) it37_0).Dev) mbm2_0_0).bind fun y2 => (fore_deep.l0 p0 p1 rc y1 n (imax it11_0 y2.1) (w64 (it37_0 + 1)) y2.2)) else none) else (some (w64 (it11_0 + 1), (mset mbm2_0_0 p1 (w64 (it11_0 + 1))))))
def fore_deep.b (k : Nat) (rc : Pool → Int → (List (Int × Int)) → Option (Int × List (Int × Int))) (p0 : Pool) (p1 : Int) (p2 : List (Int × Int)) : Option (Int × List (Int × Int)) := ((chain_Find.f k p0 p1).bind fun y1 => (if y1.2 = true then (if ((mget p2 p1).isSome) = true then (some (((mget p2 p1).getD 0), p2)) else (if 0 ≤ y1.1 ∧ y1.1 < (p0.Tables.length : Int) then (fore_deep.l0 p0 p1 rc y1 k 0 0 p2) else none)) else (some (0, p2))))
def fore_deep.f : Nat → Pool → Int → (List (Int × Int)) → Option (Int × List (Int × Int))
  | 0 => fun _ _ _ => none
  | k + 1 => fore_deep.b k (fore_deep.f k)
/-! ### hermitage/fore.Depth: function 24 -/
def fore_Depth.l0 (p0 : Pool) (k : Nat) : Nat → Int → Int → (List (Int × Int)) → Option (Int × Int)
  | 0, _, _, _ => none
  | n + 1, it4_0, it15_0, mb2_0_0 => (if it15_0 < (p0.Tables.length : Int) then (if 0 ≤ it15_0 ∧ it15_0 < (p0.Tables.length : Int) then ((fore_deep.f k p0 ((rd p0.Tables it15_0).Dev) mb2_0_0).bind fun y2 => (fore_Depth.l0 p0 k n (imax it4_0 y2.1) (w64 (it15_0 + 1)) y2.2)) else none) else (some (it4_0, 0)))
def fore_Depth.f (k : Nat) (p0 : Pool) : Option (Int × Int) := ((chain_May.f k p0).bind fun y1 => (if y1 = true then (fore_Depth.l0 p0 k k 0 0 ([] : List (Int × Int))) else (some (0, 1))))
/-! ### hermitage/hermitagelaw11.num: function 25 -/
def hermitagelaw11_num.f (p0 : Int) : Option Int := (some p0)
/-! ### hermitage/fore.Steps: function 33 -/
def fore_Steps.j0 (p0 : Pool) (p1 : Int) (bt6_0 : Bool) : Option (Int × Int) := (if bt6_0 = true then (some (0, 1)) else (if p0.Job.Dev = 0 then (some (0, 9)) else (if ¬ p1 = 0 then (some (w64 ((w64 ((w64 ((w64 (p0.Job.Table.Size - p0.Job.At)) + p1)) - 1)).tdiv p1), 0)) else none)))
def fore_Steps.f (k : Nat) (p0 : Pool) (p1 : Int) : Option (Int × Int) := ((chain_May.f k p0).bind fun y1 => (if y1 = true then (if p1 < 1 then (fore_Steps.j0 p0 p1 true) else (fore_Steps.j0 p0 p1 (decide (64 < p1)))) else (fore_Steps.j0 p0 p1 true)))
/-! ### hermitage/hermitagelaw10.Pool: function 65 -/
def hermitagelaw10_Pool.f (p0 : Int) : Option Pool := (some (⟨([(⟨1, p0, ([] : List Seg), ([] : List Seg)⟩ : Device), (⟨2, p0, ([(⟨0, p0⟩ : Seg)] : List Seg), ([] : List Seg)⟩ : Device)] : List Device), ([] : List Table), (⟨0, 0, (⟨0, 0, ([] : List Entry)⟩ : Table)⟩ : Job), 3⟩ : Pool))
/-! ### hermitage/hermitagelaw11.wakes: function 26 -/
def hermitagelaw11_wakes.f (k : Nat) : Option Bool := ((hermitagelaw10_Pool.f 10).bind fun y1 => ((fore_Steps.f k (⟨y1.Devices, y1.Tables, (⟨1, 0, (⟨1, 10, ([] : List Entry)⟩ : Table)⟩ : Job), y1.Next⟩ : Pool) 4).bind fun y2 => ((hermitagelaw11_num.f y2.2).bind fun y3 => (if y3 = 0 then (some (y2.1 == 3)) else (some false)))))
/-! ### hermitage/hermitagelaw11.ForeDepth: function 8 -/
def hermitagelaw11_ForeDepth.l0 (k : Nat) (y1 : Int) : Nat → Int → (List Table) → (List Table) → Option Bool
  | 0, _, _, _ => none
  | n + 1, it6_0, lb3_1_0, lb5_1_0 => (if it6_0 ≤ (w64 (1 + y1)) then (if (lb3_1_0.length + 1) * 40 ≤ 140737488355328 then (if (lb5_1_0.length + 1) * 40 ≤ 140737488355328 then (hermitagelaw11_ForeDepth.l0 k y1 n (w64 (it6_0 + 1)) (lb3_1_0 ++ [(⟨it6_0, 9, ([(⟨0, 1, w64 (it6_0 + 1), 0, 0⟩ : Entry)] : List Entry)⟩ : Table)]) (lb5_1_0 ++ [(⟨it6_0, 9, ([(⟨it6_0.tmod 9, 1, w64 ((w64 (1 + y1)) + 1), it6_0, 0⟩ : Entry)] : List Entry)⟩ : Table)])) else none) else none) else ((fore_Depth.f k (⟨([(⟨w64 ((w64 (1 + y1)) + 1), 20, ([] : List Seg), ([] : List Seg)⟩ : Device)] : List Device), lb3_1_0, (⟨0, 0, (⟨0, 0, ([] : List Entry)⟩ : Table)⟩ : Job), w64 ((w64 (1 + y1)) + 2)⟩ : Pool)).bind fun y2 => ((fore_Depth.f k (⟨([(⟨w64 ((w64 (1 + y1)) + 1), 20, ([] : List Seg), ([] : List Seg)⟩ : Device)] : List Device), lb5_1_0, (⟨0, 0, (⟨0, 0, ([] : List Entry)⟩ : Table)⟩ : Job), w64 ((w64 (1 + y1)) + 2)⟩ : Pool)).bind fun y3 => ((fore_Depth.f k (⟨([(⟨w64 ((w64 (1 + y1)) + 1), 20, ([] : List Seg), ([] : List Seg)⟩ : Device)] : List Device), ([] : List Table), (⟨0, 0, (⟨0, 0, ([] : List Entry)⟩ : Table)⟩ : Job), w64 ((w64 (1 + y1)) + 2)⟩ : Pool)).bind fun y4 => ((hermitagelaw11_num.f y2.2).bind fun y5 => (if y5 = 0 then ((hermitagelaw11_num.f y3.2).bind fun y6 => (if y6 = 0 then ((hermitagelaw11_num.f y4.2).bind fun y7 => (if y7 = 0 then (if y2.1 = w64 (1 + y1) then (if y3.1 = 1 then (if y4.1 = 0 then ((hermitagelaw11_wakes.f k).bind fun y8 => (some y8)) else (some false)) else (some false)) else (some false)) else (some false))) else (some false))) else (some false)))))))
def hermitagelaw11_ForeDepth.f (k : Nat) (p0 : hermitagelaw10Script) : Option Bool := ((hermitagelaw0_Within.f (p0.A.length : Int) 12).bind fun y1 => (hermitagelaw11_ForeDepth.l0 k y1 k 1 ([] : List Table) ([] : List Table)))
end Go.Proofs.Ytnaajldlloglkaa.W
