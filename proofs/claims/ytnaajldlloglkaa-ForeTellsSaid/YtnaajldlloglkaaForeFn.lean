/- What the functions tell, as plain functions over numbers and lists; printed by a program of the claim. -/
import Derived.Test.YtnaajldlloglkaaHP
set_option linter.unusedVariables false
set_option linter.unusedSimpArgs false
namespace Go.Proofs.Ytnaajldlloglkaa.W
open Go.H
structure Entry where
  From : Int
  Len : Int
  Dev : Int
  To : Int
  Stale : Int
  deriving DecidableEq, Inhabited
structure Table where
  Dev : Int
  Size : Int
  List_ : List Entry
  deriving DecidableEq, Inhabited
structure Ptr where
  Dev : Int
  At : Int
  deriving DecidableEq, Inhabited
structure Job where
  Dev : Int
  At : Int
  Table : Table
  deriving DecidableEq, Inhabited
structure Seg where
  At : Int
  Len : Int
  deriving DecidableEq, Inhabited
structure Device where
  ID : Int
  Size : Int
  Free : List Seg
  Late : List Seg
  deriving DecidableEq, Inhabited
structure Pool where
  Devices : List Device
  Tables : List Table
  Job : Job
  Next : Int
  deriving DecidableEq, Inhabited
structure hermitagelaw10Act where
  Do : Int
  N : Int
  Q : List Ptr
  deriving DecidableEq, Inhabited
structure hermitagelaw10Script where
  P : Pool
  A : List hermitagelaw10Act
  deriving DecidableEq, Inhabited
/-! ### hermitage/hermitagelaw0.Within: function 11 -/
def hermitagelaw0_Within.f (p0 : Int) (p1 : Int) : Option Int := (if ¬ wu64 (p1) = 0 then (some (w64 ((wu64 (p0)).tmod (wu64 (p1))))) else none)
/-! ### hermitage/seg.To: function 76 -/
def seg_To.f (p0 : Int) : Option Int := (if 64 ≤ p0 then (some 18446744073709551615) else (if 0 ≤ p0 then (some (wu64 ((wu64 (1 * 2 ^ min p0.toNat 64)) - 1))) else none))
/-! ### hermitage/seg.Make: function 99 -/
def seg_Make.l0 (p0 : List Seg) : Nat → Int → Int → Option Int
  | 0, _, _ => none
  | n + 1, it3_0, it8_0 => (if it8_0 < (p0.length : Int) then (if 0 ≤ it8_0 ∧ it8_0 < (p0.length : Int) then ((seg_To.f (w64 (((rd p0 it8_0).At) + ((rd p0 it8_0).Len)))).bind fun y1 => ((seg_To.f ((rd p0 it8_0).At)).bind fun y2 => (seg_Make.l0 p0 n (uor it3_0 (uandn y1 y2)) (w64 (it8_0 + 1))))) else none) else (some it3_0))
def seg_Make.f (k : Nat) (p0 : List Seg) : Option Int := (seg_Make.l0 p0 k 0 0)
/-! ### hermitage/seg.May: function 126 -/
def seg_May.j0 (it7_0 : Int) (re0 : Int → Option Bool) (bt54_1 : Bool) : Option Bool := (if bt54_1 = true then (some false) else (re0 (w64 (it7_0 + 1))))
def seg_May.l0 (p0 : List Seg) : Nat → Int → Option Bool
  | 0, _ => none
  | n + 1, it7_0 => (if it7_0 < (p0.length : Int) then (if 0 ≤ it7_0 ∧ it7_0 < (p0.length : Int) then (if ((rd p0 it7_0).At) < 0 then (seg_May.j0 it7_0 (seg_May.l0 p0 n) true) else (if ((rd p0 it7_0).Len) < 1 then (seg_May.j0 it7_0 (seg_May.l0 p0 n) true) else (if 64 < ((rd p0 it7_0).At) then (seg_May.j0 it7_0 (seg_May.l0 p0 n) true) else (if (w64 (64 - ((rd p0 it7_0).At))) < ((rd p0 it7_0).Len) then (seg_May.j0 it7_0 (seg_May.l0 p0 n) true) else (if 0 < it7_0 then (if 0 ≤ (w64 (it7_0 - 1)) ∧ (w64 (it7_0 - 1)) < (p0.length : Int) then (if 0 ≤ (w64 (it7_0 - 1)) ∧ (w64 (it7_0 - 1)) < (p0.length : Int) then (seg_May.j0 it7_0 (seg_May.l0 p0 n) (decide (((rd p0 it7_0).At) ≤ (w64 (((rd p0 (w64 (it7_0 - 1))).At) + ((rd p0 (w64 (it7_0 - 1))).Len)))))) else none) else none) else (seg_May.j0 it7_0 (seg_May.l0 p0 n) false)))))) else none) else (some true))
def seg_May.f (k : Nat) (p0 : List Seg) : Option Bool := (seg_May.l0 p0 k 0)
/-! ### hermitage/room.ok: function 123 -/
def room_ok.f (k : Nat) (p0 : List Seg) (p1 : Int) : Option Bool := ((seg_May.f k p0).bind fun y1 => (if y1 = true then ((seg_Make.f k p0).bind fun y2 => ((seg_To.f p1).bind fun y3 => (some ((uandn y2 y3) == 0)))) else (some false)))
/-! ### hermitage/room.Device: function 105 -/
def room_Device.f (k : Nat) (p0 : Device) : Option Bool := (if 1 ≤ p0.ID then (if p0.ID ≤ 40 then (if 1 ≤ p0.Size then (if p0.Size ≤ 64 then ((room_ok.f k p0.Free p0.Size).bind fun y1 => (if y1 = true then ((room_ok.f k p0.Late p0.Size).bind fun y2 => (if y2 = true then ((seg_Make.f k p0.Free).bind fun y3 => ((seg_Make.f k p0.Late).bind fun y4 => (some ((uand y3 y4) == 0)))) else (some false))) else (some false))) else (some false)) else (some false)) else (some false)) else (some false))
/-! ### hermitage/room.May: function 87 -/
def room_May.j0 (it10_0 : Int) (re0 : Int → Option Bool) (bt32_1 : Bool) : Option Bool := (if bt32_1 = true then (some false) else (re0 (w64 (it10_0 + 1))))
def room_May.l0 (p0 : List Device) (k : Nat) : Nat → Int → Option Bool
  | 0, _ => none
  | n + 1, it10_0 => (if it10_0 < (p0.length : Int) then (if 0 ≤ it10_0 ∧ it10_0 < (p0.length : Int) then ((room_Device.f k (rd p0 it10_0)).bind fun y1 => (if y1 = true then (if 0 < it10_0 then (if 0 ≤ (w64 (it10_0 - 1)) ∧ (w64 (it10_0 - 1)) < (p0.length : Int) then (room_May.j0 it10_0 (room_May.l0 p0 k n) (decide (((rd p0 it10_0).ID) ≤ ((rd p0 (w64 (it10_0 - 1))).ID)))) else none) else (room_May.j0 it10_0 (room_May.l0 p0 k n) false)) else (room_May.j0 it10_0 (room_May.l0 p0 k n) true))) else none) else (some true))
def room_May.f (k : Nat) (p0 : List Device) : Option Bool := (if 6 < (p0.length : Int) then (some false) else (room_May.l0 p0 k k 0))
/-! ### hermitage/table.end: function 40 -/
def table_end.f (p0 : Entry) : Option Int := (some (w64 (p0.From + p0.Len)))
/-! ### hermitage/table.id: function 82 -/
def table_id.f (p0 : Int) : Option Bool := (if 1 ≤ p0 then (some (decide (p0 ≤ 40))) else (some false))
/-! ### hermitage/table.entry: function 42 -/
def table_entry.f (p0 : Table) (p1 : Entry) : Option Bool := (if 0 ≤ p1.From then (if p1.From < p0.Size then (if 1 ≤ p1.Len then (if p1.Len ≤ (w64 (p0.Size - p1.From)) then ((table_id.f p1.Dev).bind fun y1 => (if y1 = true then (if p1.Dev = p0.Dev then (some false) else (if 0 ≤ p1.To then (if p1.To < 64 then (if p1.Len ≤ (w64 (64 - p1.To)) then (if 0 ≤ p1.Stale then (some (decide (p1.Stale ≤ p1.Len))) else (some false)) else (some false)) else (some false)) else (some false))) else (some false))) else (some false)) else (some false)) else (some false)) else (some false))
/-! ### hermitage/table.May: function 41 -/
def table_May.j1 (it22_1 : Int) (re1 : Int → Option Bool) (bt46_2 : Bool) : Option Bool := (if bt46_2 = true then (some false) else (re1 (w64 (it22_1 + 1))))
def table_May.l0 (p0 : Table) : Nat → Int → Option Bool
  | 0, _ => none
  | n + 1, it22_1 => (if it22_1 < (p0.List_.length : Int) then (if 0 ≤ it22_1 ∧ it22_1 < (p0.List_.length : Int) then ((table_entry.f p0 (rd p0.List_ it22_1)).bind fun y2 => (if y2 = true then (if 0 < it22_1 then (if 0 ≤ (w64 (it22_1 - 1)) ∧ (w64 (it22_1 - 1)) < (p0.List_.length : Int) then ((table_end.f (rd p0.List_ (w64 (it22_1 - 1)))).bind fun y3 => (table_May.j1 it22_1 (table_May.l0 p0 n) (decide (((rd p0.List_ it22_1).From) < y3)))) else none) else (table_May.j1 it22_1 (table_May.l0 p0 n) false)) else (table_May.j1 it22_1 (table_May.l0 p0 n) true))) else none) else (some true))
def table_May.j0 (p0 : Table) (k : Nat) (bt18_0 : Bool) : Option Bool := (if bt18_0 = true then (some false) else (table_May.l0 p0 k 0))
def table_May.f (k : Nat) (p0 : Table) : Option Bool := ((table_id.f p0.Dev).bind fun y1 => (if y1 = true then (if p0.Size < 1 then (table_May.j0 p0 k true) else (table_May.j0 p0 k (decide (64 < p0.Size)))) else (table_May.j0 p0 k true)))
/-! ### hermitage/room.Find$1: function 98 -/
def room_Find_1.f (p0 : Device) (p1 : Int) : Option Int := (some (w64 (p0.ID - p1)))
/-! ### hermitage/room.Find: function 74 -/
def room_Find.j0 (it8_0_0 : Int) (bt8_1_0 : Bool) : Option (Int × Bool) := (some (it8_0_0, bt8_1_0))
def room_Find.l0 (p0 : List Device) (p1 : Int) : Nat → Int → Int → Option (Int × Bool)
  | 0, _, _ => none
  | n + 1, it9_1, it10_1 => (if it9_1 < it10_1 then (if 0 ≤ (w64 ((wu64 (w64 (it9_1 + it10_1))).fdiv (2 ^ min (1 : Int).toNat 64))) ∧ (w64 ((wu64 (w64 (it9_1 + it10_1))).fdiv (2 ^ min (1 : Int).toNat 64))) < (p0.length : Int) then ((room_Find_1.f (rd p0 (w64 ((wu64 (w64 (it9_1 + it10_1))).fdiv (2 ^ min (1 : Int).toNat 64)))) p1).bind fun y1 => (if y1 < 0 then (room_Find.l0 p0 p1 n (w64 ((w64 ((wu64 (w64 (it9_1 + it10_1))).fdiv (2 ^ min (1 : Int).toNat 64))) + 1)) it10_1) else (room_Find.l0 p0 p1 n it9_1 (w64 ((wu64 (w64 (it9_1 + it10_1))).fdiv (2 ^ min (1 : Int).toNat 64)))))) else none) else (if it9_1 < (p0.length : Int) then (if 0 ≤ it9_1 ∧ it9_1 < (p0.length : Int) then ((room_Find_1.f (rd p0 it9_1) p1).bind fun y2 => (room_Find.j0 it9_1 (y2 == 0))) else none) else (room_Find.j0 it9_1 false)))
def room_Find.f (k : Nat) (p0 : List Device) (p1 : Int) : Option (Int × Bool) := (room_Find.l0 p0 p1 k 0 (p0.length : Int))
/-! ### hermitage/chain.device: function 106 -/
def chain_device.f (k : Nat) (p0 : Pool) (p1 : Int) : Option Bool := ((room_Find.f k p0.Devices p1).bind fun y1 => (some y1.2))
/-! ### hermitage/chain.ids: function 88 -/
def chain_ids.j0 (it11_0 : Int) (re0 : Int → Option Bool) (bt47_1 : Bool) : Option Bool := (if bt47_1 = true then (some false) else (re0 (w64 (it11_0 + 1))))
def chain_ids.j1 (it7_2 : Int) : Option Bool := (some (!(decide (0 ≤ it7_2))))
def chain_ids.l1 (p0 : Pool) : Nat → Int → Option Bool
  | 0, _ => none
  | n + 1, it8_3 => (if it8_3 < (p0.Devices.length : Int) then (if 0 ≤ it8_3 ∧ it8_3 < (p0.Devices.length : Int) then (if p0.Next ≤ ((rd p0.Devices it8_3).ID) then (chain_ids.j1 it8_3) else (chain_ids.l1 p0 n (w64 (it8_3 + 1)))) else none) else (chain_ids.j1 (-1)))
def chain_ids.l0 (p0 : Pool) (k : Nat) : Nat → Int → Option Bool
  | 0, _ => none
  | n + 1, it11_0 => (if it11_0 < (p0.Tables.length : Int) then (if 0 ≤ it11_0 ∧ it11_0 < (p0.Tables.length : Int) then ((table_May.f k (rd p0.Tables it11_0)).bind fun y1 => (if y1 = true then ((chain_device.f k p0 ((rd p0.Tables it11_0).Dev)).bind fun y2 => (if y2 = true then (chain_ids.j0 it11_0 (chain_ids.l0 p0 k n) true) else (if p0.Next ≤ ((rd p0.Tables it11_0).Dev) then (chain_ids.j0 it11_0 (chain_ids.l0 p0 k n) true) else (if 0 < it11_0 then (if 0 ≤ (w64 (it11_0 - 1)) ∧ (w64 (it11_0 - 1)) < (p0.Tables.length : Int) then (chain_ids.j0 it11_0 (chain_ids.l0 p0 k n) (decide (((rd p0.Tables it11_0).Dev) ≤ ((rd p0.Tables (w64 (it11_0 - 1))).Dev)))) else none) else (chain_ids.j0 it11_0 (chain_ids.l0 p0 k n) false))))) else (chain_ids.j0 it11_0 (chain_ids.l0 p0 k n) true))) else none) else (chain_ids.l1 p0 k 0))
def chain_ids.f (k : Nat) (p0 : Pool) : Option Bool := (if 41 < p0.Next then (some false) else (chain_ids.l0 p0 k k 0))
/-! ### hermitage/chain.tables: function 89 -/
def chain_tables.j0 (it16_1 : Int) (re1 : Int → (List (Int × Bool)) → Option Bool) (mb2_0_2 : List (Int × Bool)) : Option Bool := (re1 (w64 (it16_1 + 1)) mb2_0_2)
def chain_tables.j1 (p0 : Pool) (it16_1 : Int) (mb2_0_1 : List (Int × Bool)) (re1 : Int → (List (Int × Bool)) → Option Bool) (it7_3 : Int) : Option Bool := (chain_tables.j0 it16_1 re1 (mset mb2_0_1 ((rd p0.Tables it16_1).Dev) (!(decide (0 ≤ it7_3)))))
def chain_tables.j2 (p0 : Pool) (it16_1 : Int) (mb2_0_1 : List (Int × Bool)) (it8_4 : Int) (re1 : Int → (List (Int × Bool)) → Option Bool) (re4 : Int → Option Bool) (bt16_5 : Bool) : Option Bool := (if bt16_5 = true then (chain_tables.j1 p0 it16_1 mb2_0_1 re1 it8_4) else (re4 (w64 (it8_4 + 1))))
def chain_tables.l2 (p0 : Pool) (k : Nat) (it16_1 : Int) (mb2_0_1 : List (Int × Bool)) (re1 : Int → (List (Int × Bool)) → Option Bool) : Nat → Int → Option Bool
  | 0, _ => none
  | n + 1, it8_4 => (if it8_4 < (((rd p0.Tables it16_1).List_).length : Int) then (if 0 ≤ it8_4 ∧ it8_4 < (((rd p0.Tables it16_1).List_).length : Int) then (if ((mget mb2_0_1 ((rd ((rd p0.Tables it16_1).List_) it8_4).Dev)).getD false) = true then (chain_tables.j2 p0 it16_1 mb2_0_1 it8_4 re1 (chain_tables.l2 p0 k it16_1 mb2_0_1 re1 n) false) else ((chain_device.f k p0 ((rd ((rd p0.Tables it16_1).List_) it8_4).Dev)).bind fun y1 => (chain_tables.j2 p0 it16_1 mb2_0_1 it8_4 re1 (chain_tables.l2 p0 k it16_1 mb2_0_1 re1 n) (!y1)))) else none) else (chain_tables.j1 p0 it16_1 mb2_0_1 re1 (-1)))
def chain_tables.l1 (p0 : Pool) (k : Nat) (it11_0 : Int) (re0 : Int → (List (Int × Bool)) → Option Bool) : Nat → Int → (List (Int × Bool)) → Option Bool
  | 0, _, _ => none
  | n + 1, it16_1, mb2_0_1 => (if it16_1 < (p0.Tables.length : Int) then (if 0 ≤ it16_1 ∧ it16_1 < (p0.Tables.length : Int) then (if ((mget mb2_0_1 ((rd p0.Tables it16_1).Dev)).getD false) = true then (chain_tables.j0 it16_1 (chain_tables.l1 p0 k it11_0 re0 n) (mset mb2_0_1 ((rd p0.Tables it16_1).Dev) true)) else (chain_tables.l2 p0 k it16_1 mb2_0_1 (chain_tables.l1 p0 k it11_0 re0 n) k 0)) else none) else (re0 (w64 (it11_0 + 1)) mb2_0_1))
def chain_tables.j3 (it7_6 : Int) : Option Bool := (some (!(decide (0 ≤ it7_6))))
def chain_tables.l3 (p0 : Pool) (mb2_0_0 : List (Int × Bool)) : Nat → Int → Option Bool
  | 0, _ => none
  | n + 1, it8_7 => (if it8_7 < (p0.Tables.length : Int) then (if 0 ≤ it8_7 ∧ it8_7 < (p0.Tables.length : Int) then (if ((mget mb2_0_0 ((rd p0.Tables it8_7).Dev)).getD false) = true then (chain_tables.l3 p0 mb2_0_0 n (w64 (it8_7 + 1))) else (chain_tables.j3 it8_7)) else none) else (chain_tables.j3 (-1)))
def chain_tables.l0 (p0 : Pool) (k : Nat) : Nat → Int → (List (Int × Bool)) → Option Bool
  | 0, _, _ => none
  | n + 1, it11_0, mb2_0_0 => (if it11_0 < (p0.Tables.length : Int) then (chain_tables.l1 p0 k it11_0 (chain_tables.l0 p0 k n) k 0 mb2_0_0) else (chain_tables.l3 p0 mb2_0_0 k 0))
def chain_tables.f (k : Nat) (p0 : Pool) : Option Bool := (chain_tables.l0 p0 k k 0 ([] : List (Int × Bool)))
/-! ### hermitage/chain.none: function 112 -/
def chain_none.f (p0 : Job) : Option Bool := (if p0.Dev = 0 then (if p0.At = 0 then (if p0.Table.Dev = 0 then (if p0.Table.Size = 0 then (some ((p0.Table.List_.length : Int) == 0)) else (some false)) else (some false)) else (some false)) else (some false))
/-! ### hermitage/chain.job: function 90 -/
def chain_job.j1 (it7_1 : Int) : Option Bool := (some (!(decide (0 ≤ it7_1))))
def chain_job.j2 (it8_2 : Int) (re2 : Int → Option Bool) (bt16_3 : Bool) : Option Bool := (if bt16_3 = true then (chain_job.j1 it8_2) else (re2 (w64 (it8_2 + 1))))
def chain_job.l0 (p0 : Pool) (k : Nat) : Nat → Int → Option Bool
  | 0, _ => none
  | n + 1, it8_2 => (if it8_2 < (p0.Job.Table.List_.length : Int) then (if 0 ≤ it8_2 ∧ it8_2 < (p0.Job.Table.List_.length : Int) then (if p0.Job.At < (w64 (((rd p0.Job.Table.List_ it8_2).From) + ((rd p0.Job.Table.List_ it8_2).Len))) then (chain_job.j2 it8_2 (chain_job.l0 p0 k n) true) else ((chain_device.f k p0 ((rd p0.Job.Table.List_ it8_2).Dev)).bind fun y4 => (chain_job.j2 it8_2 (chain_job.l0 p0 k n) (!y4)))) else none) else (chain_job.j1 (-1)))
def chain_job.j0 (p0 : Pool) (k : Nat) (bt61_0 : Bool) : Option Bool := (if bt61_0 = true then (some false) else (chain_job.l0 p0 k k 0))
def chain_job.f (k : Nat) (p0 : Pool) : Option Bool := ((chain_none.f p0.Job).bind fun y1 => (if y1 = true then (some true) else ((room_Find.f k p0.Devices p0.Job.Dev).bind fun y2 => (if y2.2 = true then (if p0.Job.At < 0 then (chain_job.j0 p0 k true) else (if 0 ≤ y2.1 ∧ y2.1 < (p0.Devices.length : Int) then (if ((rd p0.Devices y2.1).Size) ≤ p0.Job.At then (chain_job.j0 p0 k true) else (if p0.Job.Table.Dev = p0.Job.Dev then (if 0 ≤ y2.1 ∧ y2.1 < (p0.Devices.length : Int) then (if p0.Job.Table.Size = (rd p0.Devices y2.1).Size then ((table_May.f k p0.Job.Table).bind fun y3 => (chain_job.j0 p0 k (!y3))) else (chain_job.j0 p0 k true)) else none) else (chain_job.j0 p0 k true))) else none)) else (chain_job.j0 p0 k true)))))
/-! ### hermitage/chain.May: function 63 -/
def chain_May.j1 (it7_1 : Int) : Option Bool := (some (decide (0 ≤ it7_1)))
def chain_May.l0 (p0 : Pool) : Nat → Int → Option Bool
  | 0, _ => none
  | n + 1, it8_2 => (if it8_2 < (p0.Devices.length : Int) then (if 0 ≤ it8_2 ∧ it8_2 < (p0.Devices.length : Int) then (if (rd p0.Devices it8_2).ID = p0.Job.Dev then (chain_May.l0 p0 n (w64 (it8_2 + 1))) else (chain_May.j1 it8_2)) else none) else (chain_May.j1 (-1)))
def chain_May.j0 (p0 : Pool) (k : Nat) (bt39_0 : Bool) : Option Bool := (if bt39_0 = true then (some false) else (chain_May.l0 p0 k 0))
def chain_May.f (k : Nat) (p0 : Pool) : Option Bool := ((room_May.f k p0.Devices).bind fun y1 => (if y1 = true then (if 12 < (p0.Tables.length : Int) then (chain_May.j0 p0 k true) else (if p0.Job.Dev = 0 then ((chain_ids.f k p0).bind fun y2 => (if y2 = true then ((chain_tables.f k p0).bind fun y3 => (if y3 = true then ((chain_job.f k p0).bind fun y4 => (chain_May.j0 p0 k (!y4))) else (chain_May.j0 p0 k true))) else (chain_May.j0 p0 k true))) else (if 12 ≤ (p0.Tables.length : Int) then (chain_May.j0 p0 k true) else ((chain_ids.f k p0).bind fun y5 => (if y5 = true then ((chain_tables.f k p0).bind fun y6 => (if y6 = true then ((chain_job.f k p0).bind fun y7 => (chain_May.j0 p0 k (!y7))) else (chain_May.j0 p0 k true))) else (chain_May.j0 p0 k true)))))) else (chain_May.j0 p0 k true)))
/-! ### hermitage/chain.Find$1: function 116 -/
def chain_Find_1.f (p0 : Table) (p1 : Int) : Option Int := (some (w64 (p0.Dev - p1)))
/-! ### hermitage/chain.Find: function 93 -/
def chain_Find.j0 (it9_0_0 : Int) (bt9_1_0 : Bool) : Option (Int × Bool) := (some (it9_0_0, bt9_1_0))
def chain_Find.l0 (p0 : Pool) (p1 : Int) : Nat → Int → Int → Option (Int × Bool)
  | 0, _, _ => none
  | n + 1, it9_1, it10_1 => (if it9_1 < it10_1 then (if 0 ≤ (w64 ((wu64 (w64 (it9_1 + it10_1))).fdiv (2 ^ min (1 : Int).toNat 64))) ∧ (w64 ((wu64 (w64 (it9_1 + it10_1))).fdiv (2 ^ min (1 : Int).toNat 64))) < (p0.Tables.length : Int) then ((chain_Find_1.f (rd p0.Tables (w64 ((wu64 (w64 (it9_1 + it10_1))).fdiv (2 ^ min (1 : Int).toNat 64)))) p1).bind fun y1 => (if y1 < 0 then (chain_Find.l0 p0 p1 n (w64 ((w64 ((wu64 (w64 (it9_1 + it10_1))).fdiv (2 ^ min (1 : Int).toNat 64))) + 1)) it10_1) else (chain_Find.l0 p0 p1 n it9_1 (w64 ((wu64 (w64 (it9_1 + it10_1))).fdiv (2 ^ min (1 : Int).toNat 64)))))) else none) else (if it9_1 < (p0.Tables.length : Int) then (if 0 ≤ it9_1 ∧ it9_1 < (p0.Tables.length : Int) then ((chain_Find_1.f (rd p0.Tables it9_1) p1).bind fun y2 => (chain_Find.j0 it9_1 (y2 == 0))) else none) else (chain_Find.j0 it9_1 false)))
def chain_Find.f (k : Nat) (p0 : Pool) (p1 : Int) : Option (Int × Bool) := (chain_Find.l0 p0 p1 k 0 (p0.Tables.length : Int))
/-! ### hermitage/fore.deep: function 64 -/
def fore_deep.l0 (p0 : Pool) (p1 : Int) (rc : Pool → Int → (List (Int × Int)) → Option (Int × List (Int × Int))) (y1 : Int × Bool) : Nat → Int → Int → (List (Int × Int)) → Option (Int × List (Int × Int))
  | 0, _, _, _ => none
  | n + 1, it11_0, it37_0, mbm2_0_0 => (if it37_0 < (((rd p0.Tables y1.1).List_).length : Int) then (if 0 ≤ it37_0 ∧ it37_0 < (((rd p0.Tables y1.1).List_).length : Int) then ((rc p0 ((rd ((rd p0.Tables y1.1).List_) it37_0).Dev) mbm2_0_0).bind fun y2 => (fore_deep.l0 p0 p1 rc y1 n (imax it11_0 y2.1) (w64 (it37_0 + 1)) y2.2)) else none) else (some (w64 (it11_0 + 1), (mset mbm2_0_0 p1 (w64 (it11_0 + 1))))))
def fore_deep.b (k : Nat) (rc : Pool → Int → (List (Int × Int)) → Option (Int × List (Int × Int))) (p0 : Pool) (p1 : Int) (p2 : List (Int × Int)) : Option (Int × List (Int × Int)) := ((chain_Find.f k p0 p1).bind fun y1 => (if y1.2 = true then (if ((mget p2 p1).isSome) = true then (some (((mget p2 p1).getD 0), p2)) else (if 0 ≤ y1.1 ∧ y1.1 < (p0.Tables.length : Int) then (fore_deep.l0 p0 p1 rc y1 k 0 0 p2) else none)) else (some (0, p2))))
def fore_deep.f : Nat → Pool → Int → (List (Int × Int)) → Option (Int × List (Int × Int))
  | 0 => fun _ _ _ => none
  | k + 1 => fore_deep.b k (fore_deep.f k)
/-! ### hermitage/fore.Depth: function 24 -/
def fore_Depth.l0 (p0 : Pool) (k : Nat) : Nat → Int → Int → (List (Int × Int)) → Option (Int × Int)
  | 0, _, _, _ => none
  | n + 1, it4_0, it15_0, mb2_0_0 => (if it15_0 < (p0.Tables.length : Int) then (if 0 ≤ it15_0 ∧ it15_0 < (p0.Tables.length : Int) then ((fore_deep.f k p0 ((rd p0.Tables it15_0).Dev) mb2_0_0).bind fun y2 => (fore_Depth.l0 p0 k n (imax it4_0 y2.1) (w64 (it15_0 + 1)) y2.2)) else none) else (some (it4_0, 0)))
def fore_Depth.f (k : Nat) (p0 : Pool) : Option (Int × Int) := ((chain_May.f k p0).bind fun y1 => (if y1 = true then (fore_Depth.l0 p0 k k 0 0 ([] : List (Int × Int))) else (some (0, 1))))
/-! ### hermitage/hermitagelaw11.num: function 25 -/
def hermitagelaw11_num.f (p0 : Int) : Option Int := (some p0)
/-! ### hermitage/fore.Steps: function 33 -/
def fore_Steps.j0 (p0 : Pool) (p1 : Int) (bt6_0 : Bool) : Option (Int × Int) := (if bt6_0 = true then (some (0, 1)) else (if p0.Job.Dev = 0 then (some (0, 9)) else (if ¬ p1 = 0 then (some (w64 ((w64 ((w64 ((w64 (p0.Job.Table.Size - p0.Job.At)) + p1)) - 1)).tdiv p1), 0)) else none)))
def fore_Steps.f (k : Nat) (p0 : Pool) (p1 : Int) : Option (Int × Int) := ((chain_May.f k p0).bind fun y1 => (if y1 = true then (if p1 < 1 then (fore_Steps.j0 p0 p1 true) else (fore_Steps.j0 p0 p1 (decide (64 < p1)))) else (fore_Steps.j0 p0 p1 true)))
/-! ### hermitage/hermitagelaw10.Pool: function 65 -/
def hermitagelaw10_Pool.f (p0 : Int) : Option Pool := (some (⟨([(⟨1, p0, ([] : List Seg), ([] : List Seg)⟩ : Device), (⟨2, p0, ([(⟨0, p0⟩ : Seg)] : List Seg), ([] : List Seg)⟩ : Device)] : List Device), ([] : List Table), (⟨0, 0, (⟨0, 0, ([] : List Entry)⟩ : Table)⟩ : Job), 3⟩ : Pool))
/-! ### hermitage/hermitagelaw11.wakes: function 26 -/
def hermitagelaw11_wakes.f (k : Nat) : Option Bool := ((hermitagelaw10_Pool.f 10).bind fun y1 => ((fore_Steps.f k (⟨y1.Devices, y1.Tables, (⟨1, 0, (⟨1, 10, ([] : List Entry)⟩ : Table)⟩ : Job), y1.Next⟩ : Pool) 4).bind fun y2 => ((hermitagelaw11_num.f y2.2).bind fun y3 => (if y3 = 0 then (some (y2.1 == 3)) else (some false)))))
/-! ### hermitage/hermitagelaw11.ForeDepth: function 8 -/
def hermitagelaw11_ForeDepth.l0 (k : Nat) (y1 : Int) : Nat → Int → (List Table) → (List Table) → Option Bool
  | 0, _, _, _ => none
  | n + 1, it6_0, lb3_1_0, lb5_1_0 => (if it6_0 ≤ (w64 (1 + y1)) then (if (lb3_1_0.length + 1) * 40 ≤ 140737488355328 then (if (lb5_1_0.length + 1) * 40 ≤ 140737488355328 then (hermitagelaw11_ForeDepth.l0 k y1 n (w64 (it6_0 + 1)) (lb3_1_0 ++ [(⟨it6_0, 9, ([(⟨0, 1, w64 (it6_0 + 1), 0, 0⟩ : Entry)] : List Entry)⟩ : Table)]) (lb5_1_0 ++ [(⟨it6_0, 9, ([(⟨it6_0.tmod 9, 1, w64 ((w64 (1 + y1)) + 1), it6_0, 0⟩ : Entry)] : List Entry)⟩ : Table)])) else none) else none) else ((fore_Depth.f k (⟨([(⟨w64 ((w64 (1 + y1)) + 1), 20, ([] : List Seg), ([] : List Seg)⟩ : Device)] : List Device), lb3_1_0, (⟨0, 0, (⟨0, 0, ([] : List Entry)⟩ : Table)⟩ : Job), w64 ((w64 (1 + y1)) + 2)⟩ : Pool)).bind fun y2 => ((fore_Depth.f k (⟨([(⟨w64 ((w64 (1 + y1)) + 1), 20, ([] : List Seg), ([] : List Seg)⟩ : Device)] : List Device), lb5_1_0, (⟨0, 0, (⟨0, 0, ([] : List Entry)⟩ : Table)⟩ : Job), w64 ((w64 (1 + y1)) + 2)⟩ : Pool)).bind fun y3 => ((fore_Depth.f k (⟨([(⟨w64 ((w64 (1 + y1)) + 1), 20, ([] : List Seg), ([] : List Seg)⟩ : Device)] : List Device), ([] : List Table), (⟨0, 0, (⟨0, 0, ([] : List Entry)⟩ : Table)⟩ : Job), w64 ((w64 (1 + y1)) + 2)⟩ : Pool)).bind fun y4 => ((hermitagelaw11_num.f y2.2).bind fun y5 => (if y5 = 0 then ((hermitagelaw11_num.f y3.2).bind fun y6 => (if y6 = 0 then ((hermitagelaw11_num.f y4.2).bind fun y7 => (if y7 = 0 then (if y2.1 = w64 (1 + y1) then (if y3.1 = 1 then (if y4.1 = 0 then ((hermitagelaw11_wakes.f k).bind fun y8 => (some y8)) else (some false)) else (some false)) else (some false)) else (some false))) else (some false))) else (some false)))))))
def hermitagelaw11_ForeDepth.f (k : Nat) (p0 : hermitagelaw10Script) : Option Bool := ((hermitagelaw0_Within.f (p0.A.length : Int) 12).bind fun y1 => (hermitagelaw11_ForeDepth.l0 k y1 k 1 ([] : List Table) ([] : List Table)))
/-! ### hermitage/hermitagelaw0.DevicesWeight: function 94 -/
def hermitagelaw0_DevicesWeight.j0 (p0 : List Device) (it3_0 : Int) (it4_0 : Int) (re0 : Int → Int → Option Int) (bt14_1 : Bool) : Option Int := (if bt14_1 = true then (if 0 ≤ it4_0 ∧ it4_0 < (p0.length : Int) then (if 0 ≤ it4_0 ∧ it4_0 < (p0.length : Int) then (re0 (w64 ((w64 (it3_0 + (((rd p0 it4_0).Free).length : Int))) + (((rd p0 it4_0).Late).length : Int))) (w64 (it4_0 + 1))) else none) else none) else (some it3_0))
def hermitagelaw0_DevicesWeight.l0 (p0 : List Device) : Nat → Int → Int → Option Int
  | 0, _, _ => none
  | n + 1, it3_0, it4_0 => (if it4_0 < (p0.length : Int) then (hermitagelaw0_DevicesWeight.j0 p0 it3_0 it4_0 (hermitagelaw0_DevicesWeight.l0 p0 n) (decide (it3_0 < 1048576))) else (hermitagelaw0_DevicesWeight.j0 p0 it3_0 it4_0 (hermitagelaw0_DevicesWeight.l0 p0 n) false))
def hermitagelaw0_DevicesWeight.f (k : Nat) (p0 : List Device) : Option Int := (hermitagelaw0_DevicesWeight.l0 p0 k (p0.length : Int) 0)
/-! ### hermitage/hermitagelaw0.PoolWeight: function 66 -/
def hermitagelaw0_PoolWeight.j0 (p0 : Pool) (it3_0 : Int) (it4_0 : Int) (re0 : Int → Int → Option Int) (bt26_1 : Bool) : Option Int := (if bt26_1 = true then (if 0 ≤ it4_0 ∧ it4_0 < (p0.Tables.length : Int) then (re0 (w64 (it3_0 + (((rd p0.Tables it4_0).List_).length : Int))) (w64 (it4_0 + 1))) else none) else (some it3_0))
def hermitagelaw0_PoolWeight.l0 (p0 : Pool) : Nat → Int → Int → Option Int
  | 0, _, _ => none
  | n + 1, it3_0, it4_0 => (if it4_0 < (p0.Tables.length : Int) then (hermitagelaw0_PoolWeight.j0 p0 it3_0 it4_0 (hermitagelaw0_PoolWeight.l0 p0 n) (decide (it3_0 < 1048576))) else (hermitagelaw0_PoolWeight.j0 p0 it3_0 it4_0 (hermitagelaw0_PoolWeight.l0 p0 n) false))
def hermitagelaw0_PoolWeight.f (k : Nat) (p0 : Pool) : Option Int := ((hermitagelaw0_DevicesWeight.f k p0.Devices).bind fun y1 => (hermitagelaw0_PoolWeight.l0 p0 k (w64 ((w64 (y1 + (p0.Tables.length : Int))) + (p0.Job.Table.List_.length : Int))) 0))
/-! ### hermitage/hermitagelaw10.Heavy: function 27 -/
def hermitagelaw10_Heavy.j0 (p0 : hermitagelaw10Script) (it3_0 : Int) (it4_0 : Int) (re0 : Int → Int → Option Bool) (bt20_1 : Bool) : Option Bool := (if bt20_1 = true then (if 0 ≤ it4_0 ∧ it4_0 < (p0.A.length : Int) then (re0 (w64 (it3_0 + (((rd p0.A it4_0).Q).length : Int))) (w64 (it4_0 + 1))) else none) else (some (decide (1000 < it3_0))))
def hermitagelaw10_Heavy.l0 (p0 : hermitagelaw10Script) : Nat → Int → Int → Option Bool
  | 0, _, _ => none
  | n + 1, it3_0, it4_0 => (if it4_0 < (p0.A.length : Int) then (hermitagelaw10_Heavy.j0 p0 it3_0 it4_0 (hermitagelaw10_Heavy.l0 p0 n) (decide (it3_0 < 1048576))) else (hermitagelaw10_Heavy.j0 p0 it3_0 it4_0 (hermitagelaw10_Heavy.l0 p0 n) false))
def hermitagelaw10_Heavy.f (k : Nat) (p0 : hermitagelaw10Script) : Option Bool := ((hermitagelaw0_PoolWeight.f k p0.P).bind fun y1 => (hermitagelaw10_Heavy.l0 p0 k (w64 (y1 + (p0.A.length : Int))) 0))
/-! ### hermitage/hermitageref0.CopyEntries: function 51 -/
def hermitageref0_CopyEntries.l0 (p0 : List Entry) : Nat → (List Entry) → Int → Option (List Entry)
  | 0, _, _ => none
  | n + 1, lt3_0, it4_0 => (if it4_0 < (p0.length : Int) then (if 0 ≤ it4_0 ∧ it4_0 < (p0.length : Int) then (if (lt3_0.length + 1) * 40 ≤ 140737488355328 then (hermitageref0_CopyEntries.l0 p0 n (lt3_0 ++ [(rd p0 it4_0)]) (w64 (it4_0 + 1))) else none) else none) else (some lt3_0))
def hermitageref0_CopyEntries.f (k : Nat) (p0 : List Entry) : Option (List Entry) := (hermitageref0_CopyEntries.l0 p0 k ([] : List Entry) 0)
/-! ### hermitage/hermitageref0.CopyTable: function 21 -/
def hermitageref0_CopyTable.f (k : Nat) (p0 : Table) : Option Table := ((hermitageref0_CopyEntries.f k p0.List_).bind fun y1 => (some (⟨p0.Dev, p0.Size, y1⟩ : Table)))
/-! ### hermitage/hermitageref0.CopySegs: function 117 -/
def hermitageref0_CopySegs.l0 (p0 : List Seg) : Nat → (List Seg) → Int → Option (List Seg)
  | 0, _, _ => none
  | n + 1, lt3_0, it4_0 => (if it4_0 < (p0.length : Int) then (if 0 ≤ it4_0 ∧ it4_0 < (p0.length : Int) then (if (lt3_0.length + 1) * 16 ≤ 140737488355328 then (hermitageref0_CopySegs.l0 p0 n (lt3_0 ++ [(rd p0 it4_0)]) (w64 (it4_0 + 1))) else none) else none) else (some lt3_0))
def hermitageref0_CopySegs.f (k : Nat) (p0 : List Seg) : Option (List Seg) := (hermitageref0_CopySegs.l0 p0 k ([] : List Seg) 0)
/-! ### hermitage/hermitageref0.CopyDevice: function 95 -/
def hermitageref0_CopyDevice.f (k : Nat) (p0 : Device) : Option Device := ((hermitageref0_CopySegs.f k p0.Free).bind fun y1 => ((hermitageref0_CopySegs.f k p0.Late).bind fun y2 => (some (⟨p0.ID, p0.Size, y1, y2⟩ : Device))))
/-! ### hermitage/hermitageref0.CopyDevices: function 67 -/
def hermitageref0_CopyDevices.l0 (p0 : List Device) (k : Nat) : Nat → (List Device) → Int → Option (List Device)
  | 0, _, _ => none
  | n + 1, lt3_0, it4_0 => (if it4_0 < (p0.length : Int) then (if 0 ≤ it4_0 ∧ it4_0 < (p0.length : Int) then ((hermitageref0_CopyDevice.f k (rd p0 it4_0)).bind fun y1 => (if (lt3_0.length + 1) * 64 ≤ 140737488355328 then (hermitageref0_CopyDevices.l0 p0 k n (lt3_0 ++ [y1]) (w64 (it4_0 + 1))) else none)) else none) else (some lt3_0))
def hermitageref0_CopyDevices.f (k : Nat) (p0 : List Device) : Option (List Device) := (hermitageref0_CopyDevices.l0 p0 k k ([] : List Device) 0)
/-! ### hermitage/hermitageref0.CopyTables: function 68 -/
def hermitageref0_CopyTables.l0 (p0 : List Table) (k : Nat) : Nat → (List Table) → Int → Option (List Table)
  | 0, _, _ => none
  | n + 1, lt3_0, it4_0 => (if it4_0 < (p0.length : Int) then (if 0 ≤ it4_0 ∧ it4_0 < (p0.length : Int) then ((hermitageref0_CopyTable.f k (rd p0 it4_0)).bind fun y1 => (if (lt3_0.length + 1) * 40 ≤ 140737488355328 then (hermitageref0_CopyTables.l0 p0 k n (lt3_0 ++ [y1]) (w64 (it4_0 + 1))) else none)) else none) else (some lt3_0))
def hermitageref0_CopyTables.f (k : Nat) (p0 : List Table) : Option (List Table) := (hermitageref0_CopyTables.l0 p0 k k ([] : List Table) 0)
/-! ### hermitage/hermitageref0.CopyPool: function 28 -/
def hermitageref0_CopyPool.f (k : Nat) (p0 : Pool) : Option Pool := ((hermitageref0_CopyDevices.f k p0.Devices).bind fun y1 => ((hermitageref0_CopyTables.f k p0.Tables).bind fun y2 => ((hermitageref0_CopyTable.f k p0.Job.Table).bind fun y3 => (some (⟨y1, y2, (⟨p0.Job.Dev, p0.Job.At, y3⟩ : Job), p0.Next⟩ : Pool)))))
/-! ### hermitage/hermitageref0.Between: function 37 -/
def hermitageref0_Between.f (p0 : Int) (p1 : Int) (p2 : Int) : Option Bool := (if p1 ≤ p0 then (some (decide (p0 ≤ p2))) else (some false))
/-! ### hermitage/hermitageref7.Place: function 49 -/
def hermitageref7_Place.f (p0 : Int) (p1 : Ptr) (p2 : Int) : Option Bool := ((hermitageref0_Between.f p1.Dev 1 40).bind fun y1 => (if y1 = true then (if p1.Dev = p0 then (some false) else (if 0 ≤ p1.At then (if 1 ≤ p2 then (if p2 ≤ 64 then (some (decide (p1.At ≤ (w64 (64 - p2))))) else (some false)) else (some false)) else (some false))) else (some false)))
/-! ### hermitage/hermitageref0.Num: function 50 -/
def hermitageref0_Num.f (p0 : Int) (p1 : Int) : Option Bool := (if 0 ≤ p0 then (some (decide (p0 ≤ p1))) else (some false))
/-! ### hermitage/hermitageref7.Table: function 19 -/
def hermitageref7_Table.j1 (p0 : Table) (it4_1 : Int) (re1 : Int → Int → Option Bool) (bt74_2 : Bool) : Option Bool := (if bt74_2 = true then (some false) else (re1 (w64 (((rd p0.List_ it4_1).From) + ((rd p0.List_ it4_1).Len))) (w64 (it4_1 + 1))))
def hermitageref7_Table.l0 (p0 : Table) : Nat → Int → Int → Option Bool
  | 0, _, _ => none
  | n + 1, it3_1, it4_1 => (if it4_1 < (p0.List_.length : Int) then (if 0 ≤ it4_1 ∧ it4_1 < (p0.List_.length : Int) then (if ((rd p0.List_ it4_1).From) < it3_1 then (hermitageref7_Table.j1 p0 it4_1 (hermitageref7_Table.l0 p0 n) true) else (if ((rd p0.List_ it4_1).Len) < 1 then (hermitageref7_Table.j1 p0 it4_1 (hermitageref7_Table.l0 p0 n) true) else (if p0.Size < ((rd p0.List_ it4_1).Len) then (hermitageref7_Table.j1 p0 it4_1 (hermitageref7_Table.l0 p0 n) true) else (if (w64 (p0.Size - ((rd p0.List_ it4_1).Len))) < ((rd p0.List_ it4_1).From) then (hermitageref7_Table.j1 p0 it4_1 (hermitageref7_Table.l0 p0 n) true) else ((hermitageref7_Place.f p0.Dev (⟨(rd p0.List_ it4_1).Dev, (rd p0.List_ it4_1).To⟩ : Ptr) ((rd p0.List_ it4_1).Len)).bind fun y3 => (if y3 = true then ((hermitageref0_Num.f ((rd p0.List_ it4_1).Stale) ((rd p0.List_ it4_1).Len)).bind fun y4 => (hermitageref7_Table.j1 p0 it4_1 (hermitageref7_Table.l0 p0 n) (!y4))) else (hermitageref7_Table.j1 p0 it4_1 (hermitageref7_Table.l0 p0 n) true))))))) else none) else (some true))
def hermitageref7_Table.j0 (p0 : Table) (k : Nat) (bt15_0 : Bool) : Option Bool := (if bt15_0 = true then (some false) else (hermitageref7_Table.l0 p0 k 0 0))
def hermitageref7_Table.f (k : Nat) (p0 : Table) : Option Bool := ((hermitageref0_Between.f p0.Dev 1 40).bind fun y1 => (if y1 = true then ((hermitageref0_Between.f p0.Size 1 64).bind fun y2 => (hermitageref7_Table.j0 p0 k (!y2))) else (hermitageref7_Table.j0 p0 k true)))
/-! ### hermitage/hermitageref7.At: function 35 -/
def hermitageref7_At.l0 (p0 : List Device) (p1 : Int) : Nat → Int → Option Int
  | 0, _ => none
  | n + 1, it5_0 => (if it5_0 < (p0.length : Int) then (if 0 ≤ it5_0 ∧ it5_0 < (p0.length : Int) then (if (rd p0 it5_0).ID = p1 then (some it5_0) else (hermitageref7_At.l0 p0 p1 n (w64 (it5_0 + 1)))) else none) else (some (-1)))
def hermitageref7_At.f (k : Nat) (p0 : List Device) (p1 : Int) : Option Int := (hermitageref7_At.l0 p0 p1 k 0)
/-! ### hermitage/hermitageref1.Segs: function 118 -/
def hermitageref1_Segs.j0 (it3_0 : Int) (re0 : Int → Option Bool) (bt70_1 : Bool) : Option Bool := (if bt70_1 = true then (some false) else (re0 (w64 (it3_0 + 1))))
def hermitageref1_Segs.l0 (p0 : List Seg) : Nat → Int → Option Bool
  | 0, _ => none
  | n + 1, it3_0 => (if it3_0 < (p0.length : Int) then (if 0 ≤ it3_0 ∧ it3_0 < (p0.length : Int) then (if ((rd p0 it3_0).At) < 0 then (hermitageref1_Segs.j0 it3_0 (hermitageref1_Segs.l0 p0 n) true) else (if 0 ≤ it3_0 ∧ it3_0 < (p0.length : Int) then (if ((rd p0 it3_0).Len) < 1 then (hermitageref1_Segs.j0 it3_0 (hermitageref1_Segs.l0 p0 n) true) else (if 0 ≤ it3_0 ∧ it3_0 < (p0.length : Int) then (if 64 < ((rd p0 it3_0).At) then (hermitageref1_Segs.j0 it3_0 (hermitageref1_Segs.l0 p0 n) true) else (if 0 ≤ it3_0 ∧ it3_0 < (p0.length : Int) then (if 0 ≤ it3_0 ∧ it3_0 < (p0.length : Int) then (if (w64 (64 - ((rd p0 it3_0).At))) < ((rd p0 it3_0).Len) then (hermitageref1_Segs.j0 it3_0 (hermitageref1_Segs.l0 p0 n) true) else (if 0 < it3_0 then (if 0 ≤ (w64 (it3_0 - 1)) ∧ (w64 (it3_0 - 1)) < (p0.length : Int) then (if 0 ≤ (w64 (it3_0 - 1)) ∧ (w64 (it3_0 - 1)) < (p0.length : Int) then (if 0 ≤ it3_0 ∧ it3_0 < (p0.length : Int) then (hermitageref1_Segs.j0 it3_0 (hermitageref1_Segs.l0 p0 n) (decide (((rd p0 it3_0).At) ≤ (w64 (((rd p0 (w64 (it3_0 - 1))).At) + ((rd p0 (w64 (it3_0 - 1))).Len)))))) else none) else none) else none) else (hermitageref1_Segs.j0 it3_0 (hermitageref1_Segs.l0 p0 n) false))) else none) else none)) else none)) else none)) else none) else (some true))
def hermitageref1_Segs.f (k : Nat) (p0 : List Seg) : Option Bool := (hermitageref1_Segs.l0 p0 k 0)
/-! ### hermitage/hermitageref1.Ends: function 119 -/
def hermitageref1_Ends.f (p0 : List Seg) : Option Int := (if (p0.length : Int) = 0 then (some 0) else (if 0 ≤ (w64 ((p0.length : Int) - 1)) ∧ (w64 ((p0.length : Int) - 1)) < (p0.length : Int) then (if 0 ≤ (w64 ((p0.length : Int) - 1)) ∧ (w64 ((p0.length : Int) - 1)) < (p0.length : Int) then (some (w64 (((rd p0 (w64 ((p0.length : Int) - 1))).At) + ((rd p0 (w64 ((p0.length : Int) - 1))).Len)))) else none) else none))
/-! ### hermitage/hermitageref1.Set: function 102 -/
def hermitageref1_Set.l1 (p0 : List Seg) (it4_0 : Int) (re0 : Int → (Nat → Bool) → Option (Nat → Bool)) : Nat → Int → (Nat → Bool) → Option (Nat → Bool)
  | 0, _, _ => none
  | n + 1, it5_1, ab2_0_1 => (if 0 ≤ it4_0 ∧ it4_0 < (p0.length : Int) then (if 0 ≤ it4_0 ∧ it4_0 < (p0.length : Int) then (if it5_1 < (w64 (((rd p0 it4_0).At) + ((rd p0 it4_0).Len))) then (if 0 ≤ it5_1 ∧ it5_1 < 64 then (hermitageref1_Set.l1 p0 it4_0 re0 n (w64 (it5_1 + 1)) (updF ab2_0_1 it5_1.toNat true)) else none) else (re0 (w64 (it4_0 + 1)) ab2_0_1)) else none) else none)
def hermitageref1_Set.l0 (p0 : List Seg) (k : Nat) : Nat → Int → (Nat → Bool) → Option (Nat → Bool)
  | 0, _, _ => none
  | n + 1, it4_0, ab2_0_0 => (if it4_0 < (p0.length : Int) then (if 0 ≤ it4_0 ∧ it4_0 < (p0.length : Int) then (hermitageref1_Set.l1 p0 it4_0 (hermitageref1_Set.l0 p0 k n) k ((rd p0 it4_0).At) ab2_0_0) else none) else (some ab2_0_0))
def hermitageref1_Set.f (k : Nat) (p0 : List Seg) : Option (Nat → Bool) := (hermitageref1_Set.l0 p0 k k 0 (fun _ => false))
/-! ### hermitage/hermitageref1.Of: function 125 -/
def hermitageref1_Of.j0 (it4_0 : Int) (re0 : (List Seg) → Int → Option (List Seg)) (lt3_1 : List Seg) : Option (List Seg) := (re0 lt3_1 (w64 (it4_0 + 1)))
def hermitageref1_Of.j1 (lt3_0 : List Seg) (it4_0 : Int) (re0 : (List Seg) → Int → Option (List Seg)) (bt34_2 : Bool) : Option (List Seg) := (if bt34_2 = true then (if 0 ≤ (w64 ((lt3_0.length : Int) - 1)) ∧ (w64 ((lt3_0.length : Int) - 1)) < (lt3_0.length : Int) then (if 0 ≤ (w64 ((lt3_0.length : Int) - 1)) ∧ (w64 ((lt3_0.length : Int) - 1)) < (lt3_0.length : Int) then (hermitageref1_Of.j0 it4_0 re0 (lt3_0.set (w64 ((lt3_0.length : Int) - 1)).toNat (⟨(rd lt3_0 (w64 ((lt3_0.length : Int) - 1))).At, w64 (((rd lt3_0 (w64 ((lt3_0.length : Int) - 1))).Len) + 1)⟩ : Seg))) else none) else none) else (if (lt3_0.length + 1) * 16 ≤ 140737488355328 then (hermitageref1_Of.j0 it4_0 re0 (lt3_0 ++ [(⟨it4_0, 1⟩ : Seg)])) else none))
def hermitageref1_Of.l0 (p0 : Nat → Bool) : Nat → (List Seg) → Int → Option (List Seg)
  | 0, _, _ => none
  | n + 1, lt3_0, it4_0 => (if it4_0 < 64 then (if 0 ≤ it4_0 ∧ it4_0 < 64 then (if (p0 it4_0.toNat) = true then (if 0 < (lt3_0.length : Int) then (if 0 ≤ (w64 ((lt3_0.length : Int) - 1)) ∧ (w64 ((lt3_0.length : Int) - 1)) < (lt3_0.length : Int) then (if 0 ≤ (w64 ((lt3_0.length : Int) - 1)) ∧ (w64 ((lt3_0.length : Int) - 1)) < (lt3_0.length : Int) then (hermitageref1_Of.j1 lt3_0 it4_0 (hermitageref1_Of.l0 p0 n) ((w64 (((rd lt3_0 (w64 ((lt3_0.length : Int) - 1))).At) + ((rd lt3_0 (w64 ((lt3_0.length : Int) - 1))).Len))) == it4_0)) else none) else none) else (hermitageref1_Of.j1 lt3_0 it4_0 (hermitageref1_Of.l0 p0 n) false)) else (hermitageref1_Of.j0 it4_0 (hermitageref1_Of.l0 p0 n) lt3_0)) else none) else (some lt3_0))
def hermitageref1_Of.f (k : Nat) (p0 : Nat → Bool) : Option (List Seg) := (hermitageref1_Of.l0 p0 k ([] : List Seg) 0)
/-! ### hermitage/hermitageref1.Two: function 120 -/
def hermitageref1_Two.j0 (it10_0 : Int) (re0 : Int → (Nat → Bool) → Option (List Seg)) (ab3_0_1 : Nat → Bool) : Option (List Seg) := (re0 (w64 (it10_0 + 1)) ab3_0_1)
def hermitageref1_Two.l0 (p2 : Int) (k : Nat) (y1 : (Nat → Bool)) (y2 : (Nat → Bool)) : Nat → Int → (Nat → Bool) → Option (List Seg)
  | 0, _, _ => none
  | n + 1, it10_0, ab3_0_0 => (if it10_0 < 64 then (if p2 = 0 then (if 0 ≤ it10_0 ∧ it10_0 < 64 then (if (y1 it10_0.toNat) = true then (if 0 ≤ it10_0 ∧ it10_0 < 64 then (hermitageref1_Two.j0 it10_0 (hermitageref1_Two.l0 p2 k y1 y2 n) (updF ab3_0_0 it10_0.toNat true)) else none) else (if 0 ≤ it10_0 ∧ it10_0 < 64 then (if 0 ≤ it10_0 ∧ it10_0 < 64 then (hermitageref1_Two.j0 it10_0 (hermitageref1_Two.l0 p2 k y1 y2 n) (updF ab3_0_0 it10_0.toNat (y2 it10_0.toNat))) else none) else none)) else none) else (if p2 = 1 then (if 0 ≤ it10_0 ∧ it10_0 < 64 then (if (y1 it10_0.toNat) = true then (if 0 ≤ it10_0 ∧ it10_0 < 64 then (if 0 ≤ it10_0 ∧ it10_0 < 64 then (hermitageref1_Two.j0 it10_0 (hermitageref1_Two.l0 p2 k y1 y2 n) (updF ab3_0_0 it10_0.toNat (!(y2 it10_0.toNat)))) else none) else none) else (if 0 ≤ it10_0 ∧ it10_0 < 64 then (hermitageref1_Two.j0 it10_0 (hermitageref1_Two.l0 p2 k y1 y2 n) (updF ab3_0_0 it10_0.toNat false)) else none)) else none) else (if 0 ≤ it10_0 ∧ it10_0 < 64 then (if (y1 it10_0.toNat) = true then (if 0 ≤ it10_0 ∧ it10_0 < 64 then (if 0 ≤ it10_0 ∧ it10_0 < 64 then (hermitageref1_Two.j0 it10_0 (hermitageref1_Two.l0 p2 k y1 y2 n) (updF ab3_0_0 it10_0.toNat (y2 it10_0.toNat))) else none) else none) else (if 0 ≤ it10_0 ∧ it10_0 < 64 then (hermitageref1_Two.j0 it10_0 (hermitageref1_Two.l0 p2 k y1 y2 n) (updF ab3_0_0 it10_0.toNat false)) else none)) else none))) else ((hermitageref1_Of.f k ab3_0_0).bind fun y3 => (some y3)))
def hermitageref1_Two.f (k : Nat) (p0 : List Seg) (p1 : List Seg) (p2 : Int) : Option (List Seg) := ((hermitageref1_Set.f k p0).bind fun y1 => ((hermitageref1_Set.f k p1).bind fun y2 => (hermitageref1_Two.l0 p2 k y1 y2 k 0 (fun _ => false))))
/-! ### hermitage/hermitageref7.Device: function 96 -/
def hermitageref7_Device.f (k : Nat) (p0 : Device) : Option Bool := ((hermitageref0_Between.f p0.ID 1 40).bind fun y1 => (if y1 = true then ((hermitageref0_Between.f p0.Size 1 64).bind fun y2 => (if y2 = true then ((hermitageref1_Segs.f k p0.Free).bind fun y3 => (if y3 = true then ((hermitageref1_Segs.f k p0.Late).bind fun y4 => (if y4 = true then ((hermitageref1_Ends.f p0.Free).bind fun y5 => (if y5 ≤ p0.Size then ((hermitageref1_Ends.f p0.Late).bind fun y6 => (if y6 ≤ p0.Size then ((hermitageref1_Two.f k p0.Free p0.Late 2).bind fun y7 => (some ((y7.length : Int) == 0))) else (some false))) else (some false))) else (some false))) else (some false))) else (some false))) else (some false)))
/-! ### hermitage/hermitageref7.Devices: function 69 -/
def hermitageref7_Devices.j0 (it3_0 : Int) (re0 : Int → Option Bool) (bt36_1 : Bool) : Option Bool := (if bt36_1 = true then (some false) else (re0 (w64 (it3_0 + 1))))
def hermitageref7_Devices.l0 (p0 : List Device) (k : Nat) : Nat → Int → Option Bool
  | 0, _ => none
  | n + 1, it3_0 => (if it3_0 < (p0.length : Int) then (if 0 ≤ it3_0 ∧ it3_0 < (p0.length : Int) then ((hermitageref7_Device.f k (rd p0 it3_0)).bind fun y1 => (if y1 = true then (if 0 < it3_0 then (if 0 ≤ (w64 (it3_0 - 1)) ∧ (w64 (it3_0 - 1)) < (p0.length : Int) then (if 0 ≤ it3_0 ∧ it3_0 < (p0.length : Int) then (hermitageref7_Devices.j0 it3_0 (hermitageref7_Devices.l0 p0 k n) (decide (((rd p0 it3_0).ID) ≤ ((rd p0 (w64 (it3_0 - 1))).ID)))) else none) else none) else (hermitageref7_Devices.j0 it3_0 (hermitageref7_Devices.l0 p0 k n) false)) else (hermitageref7_Devices.j0 it3_0 (hermitageref7_Devices.l0 p0 k n) true))) else none) else (some true))
def hermitageref7_Devices.f (k : Nat) (p0 : List Device) : Option Bool := (if 6 < (p0.length : Int) then (some false) else (hermitageref7_Devices.l0 p0 k k 0))
/-! ### hermitage/hermitageref9.Table: function 70 -/
def hermitageref9_Table.l0 (p0 : Pool) (p1 : Int) : Nat → Int → Option Int
  | 0, _ => none
  | n + 1, it5_0 => (if it5_0 < (p0.Tables.length : Int) then (if 0 ≤ it5_0 ∧ it5_0 < (p0.Tables.length : Int) then (if (rd p0.Tables it5_0).Dev = p1 then (some it5_0) else (hermitageref9_Table.l0 p0 p1 n (w64 (it5_0 + 1)))) else none) else (some (-1)))
def hermitageref9_Table.f (k : Nat) (p0 : Pool) (p1 : Int) : Option Int := (hermitageref9_Table.l0 p0 p1 k 0)
/-! ### hermitage/hermitageref9.round: function 71 -/
def hermitageref9_round.j0 (it5_1 : Int) (re1 : (List Bool) → Bool → Int → Option Bool) (lt3_2 : List Bool) (bt4_2 : Bool) : Option Bool := (re1 lt3_2 bt4_2 (w64 (it5_1 + 1)))
def hermitageref9_round.j1 (it7_3 : Int) (re3 : Bool → Int → Option Bool) (bt6_4 : Bool) : Option Bool := (re3 bt6_4 (w64 (it7_3 + 1)))
def hermitageref9_round.l2 (p0 : Pool) (k : Nat) (bt4_1 : Bool) (it5_1 : Int) (lt3_1 : List Bool) (re1 : (List Bool) → Bool → Int → Option Bool) : Nat → Bool → Int → Option Bool
  | 0, _, _ => none
  | n + 1, bt6_3, it7_3 => (if 0 ≤ it5_1 ∧ it5_1 < (p0.Tables.length : Int) then (if it7_3 < (((rd p0.Tables it5_1).List_).length : Int) then (if 0 ≤ it5_1 ∧ it5_1 < (p0.Tables.length : Int) then (if 0 ≤ it7_3 ∧ it7_3 < (((rd p0.Tables it5_1).List_).length : Int) then ((hermitageref9_Table.f k p0 ((rd ((rd p0.Tables it5_1).List_) it7_3).Dev)).bind fun y1 => (if bt6_3 = true then (if y1 < 0 then (hermitageref9_round.j1 it7_3 (hermitageref9_round.l2 p0 k bt4_1 it5_1 lt3_1 re1 n) true) else (if 0 ≤ y1 ∧ y1 < (lt3_1.length : Int) then (hermitageref9_round.j1 it7_3 (hermitageref9_round.l2 p0 k bt4_1 it5_1 lt3_1 re1 n) (rd lt3_1 y1)) else none)) else (hermitageref9_round.j1 it7_3 (hermitageref9_round.l2 p0 k bt4_1 it5_1 lt3_1 re1 n) false))) else none) else none) else (if bt6_3 = true then (if 0 ≤ it5_1 ∧ it5_1 < (lt3_1.length : Int) then (hermitageref9_round.j0 it5_1 re1 (lt3_1.set it5_1.toNat true) true) else none) else (hermitageref9_round.j0 it5_1 re1 lt3_1 bt4_1))) else none)
def hermitageref9_round.l1 (p0 : Pool) (k : Nat) (re0 : (List Bool) → Bool → Option Bool) : Nat → (List Bool) → Bool → Int → Option Bool
  | 0, _, _, _ => none
  | n + 1, lt3_1, bt4_1, it5_1 => (if it5_1 < (p0.Tables.length : Int) then (if 0 ≤ it5_1 ∧ it5_1 < (lt3_1.length : Int) then (if (rd lt3_1 it5_1) = true then (hermitageref9_round.j0 it5_1 (hermitageref9_round.l1 p0 k re0 n) lt3_1 bt4_1) else (hermitageref9_round.l2 p0 k bt4_1 it5_1 lt3_1 (hermitageref9_round.l1 p0 k re0 n) k true 0)) else none) else (re0 lt3_1 bt4_1))
def hermitageref9_round.l3 (lt3_0 : List Bool) : Nat → Int → Option Bool
  | 0, _ => none
  | n + 1, it9_5 => (if it9_5 < (lt3_0.length : Int) then (if 0 ≤ it9_5 ∧ it9_5 < (lt3_0.length : Int) then (if (rd lt3_0 it9_5) = true then (hermitageref9_round.l3 lt3_0 n (w64 (it9_5 + 1))) else (some true)) else none) else (some false))
def hermitageref9_round.l0 (p0 : Pool) (k : Nat) : Nat → (List Bool) → Bool → Option Bool
  | 0, _, _ => none
  | n + 1, lt3_0, bt4_0 => (if bt4_0 = true then (hermitageref9_round.l1 p0 k (hermitageref9_round.l0 p0 k n) k lt3_0 false 0) else (hermitageref9_round.l3 lt3_0 k 0))
def hermitageref9_round.f (k : Nat) (p0 : Pool) : Option Bool := (if 0 ≤ (p0.Tables.length : Int) ∧ (p0.Tables.length : Int) < 4294967296 then (hermitageref9_round.l0 p0 k k (List.replicate (p0.Tables.length : Int).toNat false) true) else none)
/-! ### hermitage/hermitageref7.End: function 52 -/
def hermitageref7_End.f (p0 : Table) : Option Int := (if (p0.List_.length : Int) = 0 then (some 0) else (if 0 ≤ (w64 ((p0.List_.length : Int) - 1)) ∧ (w64 ((p0.List_.length : Int) - 1)) < (p0.List_.length : Int) then (some (w64 (((rd p0.List_ (w64 ((p0.List_.length : Int) - 1))).From) + ((rd p0.List_ (w64 ((p0.List_.length : Int) - 1))).Len)))) else none))
/-! ### hermitage/hermitageref0.EqEntries: function 60 -/
def hermitageref0_EqEntries.l0 (p0 : List Entry) (p1 : List Entry) : Nat → Int → Option Bool
  | 0, _ => none
  | n + 1, it5_0 => (if it5_0 < (p0.length : Int) then (if 0 ≤ it5_0 ∧ it5_0 < (p0.length : Int) then (if 0 ≤ it5_0 ∧ it5_0 < (p1.length : Int) then (if (rd p0 it5_0) = (rd p1 it5_0) then (hermitageref0_EqEntries.l0 p0 p1 n (w64 (it5_0 + 1))) else (some false)) else none) else none) else (some true))
def hermitageref0_EqEntries.f (k : Nat) (p0 : List Entry) (p1 : List Entry) : Option Bool := (if (p0.length : Int) = (p1.length : Int) then (hermitageref0_EqEntries.l0 p0 p1 k 0) else (some false))
/-! ### hermitage/hermitageref0.EqTable: function 58 -/
def hermitageref0_EqTable.f (k : Nat) (p0 : Table) (p1 : Table) : Option Bool := (if p0.Dev = p1.Dev then (if p0.Size = p1.Size then ((hermitageref0_EqEntries.f k p0.List_ p1.List_).bind fun y1 => (some y1)) else (some false)) else (some false))
/-! ### hermitage/hermitageref9.job: function 72 -/
def hermitageref9_job.l0 (p0 : Pool) (k : Nat) : Nat → Int → Option Bool
  | 0, _ => none
  | n + 1, it5_1 => (if it5_1 < (p0.Job.Table.List_.length : Int) then (if 0 ≤ it5_1 ∧ it5_1 < (p0.Job.Table.List_.length : Int) then ((hermitageref7_At.f k p0.Devices ((rd p0.Job.Table.List_ it5_1).Dev)).bind fun y6 => (if y6 < 0 then (some false) else (hermitageref9_job.l0 p0 k n (w64 (it5_1 + 1))))) else none) else (some true))
def hermitageref9_job.j0 (p0 : Pool) (k : Nat) (bt73_0 : Bool) : Option Bool := (if bt73_0 = true then (some false) else (hermitageref9_job.l0 p0 k k 0))
def hermitageref9_job.f (k : Nat) (p0 : Pool) : Option Bool := (if p0.Job.Dev = 0 then (if p0.Job.At = 0 then ((hermitageref0_EqTable.f k p0.Job.Table (⟨0, 0, ([] : List Entry)⟩ : Table)).bind fun y1 => (some y1)) else (some false)) else ((hermitageref7_At.f k p0.Devices p0.Job.Dev).bind fun y2 => (if y2 < 0 then (hermitageref9_job.j0 p0 k true) else (if 0 ≤ y2 ∧ y2 < (p0.Devices.length : Int) then ((hermitageref0_Num.f p0.Job.At (w64 (((rd p0.Devices y2).Size) - 1))).bind fun y3 => (if y3 = true then ((hermitageref7_Table.f k p0.Job.Table).bind fun y4 => (if y4 = true then (if p0.Job.Table.Dev = p0.Job.Dev then (if 0 ≤ y2 ∧ y2 < (p0.Devices.length : Int) then (if p0.Job.Table.Size = (rd p0.Devices y2).Size then ((hermitageref7_End.f p0.Job.Table).bind fun y5 => (hermitageref9_job.j0 p0 k (decide (p0.Job.At < y5)))) else (hermitageref9_job.j0 p0 k true)) else none) else (hermitageref9_job.j0 p0 k true)) else (hermitageref9_job.j0 p0 k true))) else (hermitageref9_job.j0 p0 k true))) else none))))
/-! ### hermitage/hermitageref9.Pool: function 29 -/
def hermitageref9_Pool.j1 (it4_1 : Int) (re1 : Int → Int → Option Bool) (it3_2 : Int) : Option Bool := (re1 it3_2 (w64 (it4_1 + 1)))
def hermitageref9_Pool.j2 (it5_3 : Int) (re3 : Int → Option Bool) (bt111_4 : Bool) : Option Bool := (if bt111_4 = true then (some false) else (re3 (w64 (it5_3 + 1))))
def hermitageref9_Pool.j3 (it8_6 : Int) (re6 : Int → Option Bool) (bt150_7 : Bool) : Option Bool := (if bt150_7 = true then (some false) else (re6 (w64 (it8_6 + 1))))
def hermitageref9_Pool.l3 (p0 : Pool) (k : Nat) (it7_5 : Int) (re5 : Int → Option Bool) : Nat → Int → Option Bool
  | 0, _ => none
  | n + 1, it8_6 => (if 0 ≤ it7_5 ∧ it7_5 < (p0.Tables.length : Int) then (if it8_6 < (((rd p0.Tables it7_5).List_).length : Int) then (if 0 ≤ it7_5 ∧ it7_5 < (p0.Tables.length : Int) then (if 0 ≤ it8_6 ∧ it8_6 < (((rd p0.Tables it7_5).List_).length : Int) then ((hermitageref7_At.f k p0.Devices ((rd ((rd p0.Tables it7_5).List_) it8_6).Dev)).bind fun y7 => (if y7 < 0 then ((hermitageref9_Table.f k p0 ((rd ((rd p0.Tables it7_5).List_) it8_6).Dev)).bind fun y8 => (hermitageref9_Pool.j3 it8_6 (hermitageref9_Pool.l3 p0 k it7_5 re5 n) (decide (y8 < 0)))) else (hermitageref9_Pool.j3 it8_6 (hermitageref9_Pool.l3 p0 k it7_5 re5 n) false))) else none) else none) else (re5 (w64 (it7_5 + 1)))) else none)
def hermitageref9_Pool.l2 (p0 : Pool) (k : Nat) (it3_1 : Int) : Nat → Int → Option Bool
  | 0, _ => none
  | n + 1, it7_5 => (if it7_5 < (p0.Tables.length : Int) then (hermitageref9_Pool.l3 p0 k it7_5 (hermitageref9_Pool.l2 p0 k it3_1 n) k 0) else (if 0 < it3_1 then ((hermitageref9_round.f k p0).bind fun y9 => (if y9 = true then (some false) else ((hermitageref9_job.f k p0).bind fun y10 => (some y10)))) else (some false)))
def hermitageref9_Pool.l1 (p0 : Pool) (k : Nat) (it3_1 : Int) : Nat → Int → Option Bool
  | 0, _ => none
  | n + 1, it5_3 => (if it5_3 < (p0.Tables.length : Int) then (if 0 ≤ it5_3 ∧ it5_3 < (p0.Tables.length : Int) then ((hermitageref7_Table.f k (rd p0.Tables it5_3)).bind fun y4 => (if y4 = true then (if p0.Next ≤ ((rd p0.Tables it5_3).Dev) then (hermitageref9_Pool.j2 it5_3 (hermitageref9_Pool.l1 p0 k it3_1 n) true) else (if 0 < it5_3 then (if 0 ≤ (w64 (it5_3 - 1)) ∧ (w64 (it5_3 - 1)) < (p0.Tables.length : Int) then (if ((rd p0.Tables it5_3).Dev) ≤ ((rd p0.Tables (w64 (it5_3 - 1))).Dev) then (hermitageref9_Pool.j2 it5_3 (hermitageref9_Pool.l1 p0 k it3_1 n) true) else ((hermitageref7_At.f k p0.Devices ((rd p0.Tables it5_3).Dev)).bind fun y5 => (hermitageref9_Pool.j2 it5_3 (hermitageref9_Pool.l1 p0 k it3_1 n) (decide (0 ≤ y5))))) else none) else ((hermitageref7_At.f k p0.Devices ((rd p0.Tables it5_3).Dev)).bind fun y6 => (hermitageref9_Pool.j2 it5_3 (hermitageref9_Pool.l1 p0 k it3_1 n) (decide (0 ≤ y6)))))) else (hermitageref9_Pool.j2 it5_3 (hermitageref9_Pool.l1 p0 k it3_1 n) true))) else none) else (hermitageref9_Pool.l2 p0 k it3_1 k 0))
def hermitageref9_Pool.l0 (p0 : Pool) (k : Nat) : Nat → Int → Int → Option Bool
  | 0, _, _ => none
  | n + 1, it3_1, it4_1 => (if it4_1 < (p0.Devices.length : Int) then (if 0 ≤ it4_1 ∧ it4_1 < (p0.Devices.length : Int) then (if p0.Next ≤ ((rd p0.Devices it4_1).ID) then (some false) else (if 0 ≤ it4_1 ∧ it4_1 < (p0.Devices.length : Int) then (if (rd p0.Devices it4_1).ID = p0.Job.Dev then (hermitageref9_Pool.j1 it4_1 (hermitageref9_Pool.l0 p0 k n) it3_1) else (hermitageref9_Pool.j1 it4_1 (hermitageref9_Pool.l0 p0 k n) (w64 (it3_1 + 1)))) else none)) else none) else (hermitageref9_Pool.l1 p0 k it3_1 k 0))
def hermitageref9_Pool.j0 (p0 : Pool) (k : Nat) (bt37_0 : Bool) : Option Bool := (if bt37_0 = true then (some false) else (hermitageref9_Pool.l0 p0 k k 0 0))
def hermitageref9_Pool.f (k : Nat) (p0 : Pool) : Option Bool := ((hermitageref7_Devices.f k p0.Devices).bind fun y1 => (if y1 = true then (if 12 < (p0.Tables.length : Int) then (hermitageref9_Pool.j0 p0 k true) else (if p0.Job.Dev = 0 then ((hermitageref0_Between.f p0.Next 1 41).bind fun y2 => (hermitageref9_Pool.j0 p0 k (!y2))) else (if 12 ≤ (p0.Tables.length : Int) then (hermitageref9_Pool.j0 p0 k true) else ((hermitageref0_Between.f p0.Next 1 41).bind fun y3 => (hermitageref9_Pool.j0 p0 k (!y3)))))) else (hermitageref9_Pool.j0 p0 k true)))
/-! ### hermitage/room.Busy: function 75 -/
def room_Busy.f (k : Nat) (p0 : Device) : Option Int := ((seg_To.f p0.Size).bind fun y1 => ((seg_Make.f k p0.Free).bind fun y2 => ((seg_Make.f k p0.Late).bind fun y3 => (some (uandn y1 (uor y2 y3))))))
/-! ### math/bits.OnesCount64: function 100 -/
def math_bits_OnesCount64.f (p0 : Int) : Option Int := (some (iand (w64 (wu64 ((wu64 ((wu64 ((uand (wu64 (((wu64 ((uand ((wu64 ((uand (p0.fdiv (2 ^ min (1 : Int).toNat 64)) 6148914691236517205) + (uand p0 6148914691236517205))).fdiv (2 ^ min (2 : Int).toNat 64)) 3689348814741910323) + (uand (wu64 ((uand (p0.fdiv (2 ^ min (1 : Int).toNat 64)) 6148914691236517205) + (uand p0 6148914691236517205))) 3689348814741910323))).fdiv (2 ^ min (4 : Int).toNat 64)) + (wu64 ((uand ((wu64 ((uand (p0.fdiv (2 ^ min (1 : Int).toNat 64)) 6148914691236517205) + (uand p0 6148914691236517205))).fdiv (2 ^ min (2 : Int).toNat 64)) 3689348814741910323) + (uand (wu64 ((uand (p0.fdiv (2 ^ min (1 : Int).toNat 64)) 6148914691236517205) + (uand p0 6148914691236517205))) 3689348814741910323))))) 1085102592571150095) + ((uand (wu64 (((wu64 ((uand ((wu64 ((uand (p0.fdiv (2 ^ min (1 : Int).toNat 64)) 6148914691236517205) + (uand p0 6148914691236517205))).fdiv (2 ^ min (2 : Int).toNat 64)) 3689348814741910323) + (uand (wu64 ((uand (p0.fdiv (2 ^ min (1 : Int).toNat 64)) 6148914691236517205) + (uand p0 6148914691236517205))) 3689348814741910323))).fdiv (2 ^ min (4 : Int).toNat 64)) + (wu64 ((uand ((wu64 ((uand (p0.fdiv (2 ^ min (1 : Int).toNat 64)) 6148914691236517205) + (uand p0 6148914691236517205))).fdiv (2 ^ min (2 : Int).toNat 64)) 3689348814741910323) + (uand (wu64 ((uand (p0.fdiv (2 ^ min (1 : Int).toNat 64)) 6148914691236517205) + (uand p0 6148914691236517205))) 3689348814741910323))))) 1085102592571150095).fdiv (2 ^ min (8 : Int).toNat 64)))) + ((wu64 ((uand (wu64 (((wu64 ((uand ((wu64 ((uand (p0.fdiv (2 ^ min (1 : Int).toNat 64)) 6148914691236517205) + (uand p0 6148914691236517205))).fdiv (2 ^ min (2 : Int).toNat 64)) 3689348814741910323) + (uand (wu64 ((uand (p0.fdiv (2 ^ min (1 : Int).toNat 64)) 6148914691236517205) + (uand p0 6148914691236517205))) 3689348814741910323))).fdiv (2 ^ min (4 : Int).toNat 64)) + (wu64 ((uand ((wu64 ((uand (p0.fdiv (2 ^ min (1 : Int).toNat 64)) 6148914691236517205) + (uand p0 6148914691236517205))).fdiv (2 ^ min (2 : Int).toNat 64)) 3689348814741910323) + (uand (wu64 ((uand (p0.fdiv (2 ^ min (1 : Int).toNat 64)) 6148914691236517205) + (uand p0 6148914691236517205))) 3689348814741910323))))) 1085102592571150095) + ((uand (wu64 (((wu64 ((uand ((wu64 ((uand (p0.fdiv (2 ^ min (1 : Int).toNat 64)) 6148914691236517205) + (uand p0 6148914691236517205))).fdiv (2 ^ min (2 : Int).toNat 64)) 3689348814741910323) + (uand (wu64 ((uand (p0.fdiv (2 ^ min (1 : Int).toNat 64)) 6148914691236517205) + (uand p0 6148914691236517205))) 3689348814741910323))).fdiv (2 ^ min (4 : Int).toNat 64)) + (wu64 ((uand ((wu64 ((uand (p0.fdiv (2 ^ min (1 : Int).toNat 64)) 6148914691236517205) + (uand p0 6148914691236517205))).fdiv (2 ^ min (2 : Int).toNat 64)) 3689348814741910323) + (uand (wu64 ((uand (p0.fdiv (2 ^ min (1 : Int).toNat 64)) 6148914691236517205) + (uand p0 6148914691236517205))) 3689348814741910323))))) 1085102592571150095).fdiv (2 ^ min (8 : Int).toNat 64)))).fdiv (2 ^ min (16 : Int).toNat 64)))) + ((wu64 ((wu64 ((uand (wu64 (((wu64 ((uand ((wu64 ((uand (p0.fdiv (2 ^ min (1 : Int).toNat 64)) 6148914691236517205) + (uand p0 6148914691236517205))).fdiv (2 ^ min (2 : Int).toNat 64)) 3689348814741910323) + (uand (wu64 ((uand (p0.fdiv (2 ^ min (1 : Int).toNat 64)) 6148914691236517205) + (uand p0 6148914691236517205))) 3689348814741910323))).fdiv (2 ^ min (4 : Int).toNat 64)) + (wu64 ((uand ((wu64 ((uand (p0.fdiv (2 ^ min (1 : Int).toNat 64)) 6148914691236517205) + (uand p0 6148914691236517205))).fdiv (2 ^ min (2 : Int).toNat 64)) 3689348814741910323) + (uand (wu64 ((uand (p0.fdiv (2 ^ min (1 : Int).toNat 64)) 6148914691236517205) + (uand p0 6148914691236517205))) 3689348814741910323))))) 1085102592571150095) + ((uand (wu64 (((wu64 ((uand ((wu64 ((uand (p0.fdiv (2 ^ min (1 : Int).toNat 64)) 6148914691236517205) + (uand p0 6148914691236517205))).fdiv (2 ^ min (2 : Int).toNat 64)) 3689348814741910323) + (uand (wu64 ((uand (p0.fdiv (2 ^ min (1 : Int).toNat 64)) 6148914691236517205) + (uand p0 6148914691236517205))) 3689348814741910323))).fdiv (2 ^ min (4 : Int).toNat 64)) + (wu64 ((uand ((wu64 ((uand (p0.fdiv (2 ^ min (1 : Int).toNat 64)) 6148914691236517205) + (uand p0 6148914691236517205))).fdiv (2 ^ min (2 : Int).toNat 64)) 3689348814741910323) + (uand (wu64 ((uand (p0.fdiv (2 ^ min (1 : Int).toNat 64)) 6148914691236517205) + (uand p0 6148914691236517205))) 3689348814741910323))))) 1085102592571150095).fdiv (2 ^ min (8 : Int).toNat 64)))) + ((wu64 ((uand (wu64 (((wu64 ((uand ((wu64 ((uand (p0.fdiv (2 ^ min (1 : Int).toNat 64)) 6148914691236517205) + (uand p0 6148914691236517205))).fdiv (2 ^ min (2 : Int).toNat 64)) 3689348814741910323) + (uand (wu64 ((uand (p0.fdiv (2 ^ min (1 : Int).toNat 64)) 6148914691236517205) + (uand p0 6148914691236517205))) 3689348814741910323))).fdiv (2 ^ min (4 : Int).toNat 64)) + (wu64 ((uand ((wu64 ((uand (p0.fdiv (2 ^ min (1 : Int).toNat 64)) 6148914691236517205) + (uand p0 6148914691236517205))).fdiv (2 ^ min (2 : Int).toNat 64)) 3689348814741910323) + (uand (wu64 ((uand (p0.fdiv (2 ^ min (1 : Int).toNat 64)) 6148914691236517205) + (uand p0 6148914691236517205))) 3689348814741910323))))) 1085102592571150095) + ((uand (wu64 (((wu64 ((uand ((wu64 ((uand (p0.fdiv (2 ^ min (1 : Int).toNat 64)) 6148914691236517205) + (uand p0 6148914691236517205))).fdiv (2 ^ min (2 : Int).toNat 64)) 3689348814741910323) + (uand (wu64 ((uand (p0.fdiv (2 ^ min (1 : Int).toNat 64)) 6148914691236517205) + (uand p0 6148914691236517205))) 3689348814741910323))).fdiv (2 ^ min (4 : Int).toNat 64)) + (wu64 ((uand ((wu64 ((uand (p0.fdiv (2 ^ min (1 : Int).toNat 64)) 6148914691236517205) + (uand p0 6148914691236517205))).fdiv (2 ^ min (2 : Int).toNat 64)) 3689348814741910323) + (uand (wu64 ((uand (p0.fdiv (2 ^ min (1 : Int).toNat 64)) 6148914691236517205) + (uand p0 6148914691236517205))) 3689348814741910323))))) 1085102592571150095).fdiv (2 ^ min (8 : Int).toNat 64)))).fdiv (2 ^ min (16 : Int).toNat 64)))).fdiv (2 ^ min (32 : Int).toNat 64))))) 127))
/-! ### (hermitage/seg.Set).Count: function 77 -/
def seg_Set_Count.f (p0 : Int) : Option Int := ((math_bits_OnesCount64.f p0).bind fun y1 => (some y1))
/-! ### hermitage/move.Loose: function 73 -/
def move_Loose.j0 (it10_0 : Int) (re0 : Int → Int → Option Int) (it5_1 : Int) : Option Int := (re0 it5_1 (w64 (it10_0 + 1)))
def move_Loose.l0 (p0 : List Device) (p1 : Int) (k : Nat) : Nat → Int → Int → Option Int
  | 0, _, _ => none
  | n + 1, it5_0, it10_0 => (if it10_0 < (p0.length : Int) then (if 0 ≤ it10_0 ∧ it10_0 < (p0.length : Int) then (if (rd p0 it10_0).ID = p1 then (move_Loose.j0 it10_0 (move_Loose.l0 p0 p1 k n) it5_0) else ((room_Busy.f k (rd p0 it10_0)).bind fun y1 => ((seg_Set_Count.f y1).bind fun y2 => (move_Loose.j0 it10_0 (move_Loose.l0 p0 p1 k n) (w64 (it5_0 + (w64 (((rd p0 it10_0).Size) - y2)))))))) else none) else (some it5_0))
def move_Loose.f (k : Nat) (p0 : List Device) (p1 : Int) : Option Int := (move_Loose.l0 p0 p1 k k 0 0)
/-! ### hermitage/fore.Spare: function 30 -/
def fore_Spare.j0 (it4_0 : Int) : Option (Int × Int) := (some (it4_0, 0))
def fore_Spare.f (k : Nat) (p0 : Pool) : Option (Int × Int) := ((chain_May.f k p0).bind fun y1 => (if y1 = true then ((move_Loose.f k p0.Devices p0.Job.Dev).bind fun y2 => ((room_Find.f k p0.Devices p0.Job.Dev).bind fun y3 => (if y3.2 = true then (if 0 ≤ y3.1 ∧ y3.1 < (p0.Devices.length : Int) then ((room_Busy.f k (rd p0.Devices y3.1)).bind fun y4 => ((seg_To.f p0.Job.At).bind fun y5 => ((seg_Set_Count.f (uandn y4 y5)).bind fun y6 => (fore_Spare.j0 (w64 (y2 - y6)))))) else none) else (fore_Spare.j0 y2)))) else (some (0, 1))))
/-! ### hermitage/hermitageref1.Has: function 79 -/
def hermitageref1_Has.f (k : Nat) (p0 : List Seg) (p1 : Int) : Option Bool := ((hermitageref1_Set.f k p0).bind fun y1 => ((hermitageref0_Num.f p1 63).bind fun y2 => (if y2 = true then (if 0 ≤ p1 ∧ p1 < 64 then (some (y1 p1.toNat)) else none) else (some false))))
/-! ### hermitage/hermitageref9.Rest: function 38 -/
def hermitageref9_Rest.j0 (it6_0 : Int) (re0 : Int → Int → Option (Int × Int)) (it5_1 : Int) : Option (Int × Int) := (re0 it5_1 (w64 (it6_0 + 1)))
def hermitageref9_Rest.j1 (it5_0 : Int) (it6_0 : Int) (re0 : Int → Int → Option (Int × Int)) (bt47_2 : Bool) : Option (Int × Int) := (if bt47_2 = true then (hermitageref9_Rest.j0 it6_0 re0 (w64 (it5_0 + 1))) else (hermitageref9_Rest.j0 it6_0 re0 it5_0))
def hermitageref9_Rest.l0 (p0 : Pool) (k : Nat) (y1 : Int) : Nat → Int → Int → Option (Int × Int)
  | 0, _, _ => none
  | n + 1, it5_0, it6_0 => (if 0 ≤ y1 ∧ y1 < (p0.Devices.length : Int) then (if it6_0 < ((rd p0.Devices y1).Size) then (if 0 ≤ y1 ∧ y1 < (p0.Devices.length : Int) then ((hermitageref1_Has.f k ((rd p0.Devices y1).Free) it6_0).bind fun y2 => (if y2 = true then (hermitageref9_Rest.j1 it5_0 it6_0 (hermitageref9_Rest.l0 p0 k y1 n) false) else (if 0 ≤ y1 ∧ y1 < (p0.Devices.length : Int) then ((hermitageref1_Has.f k ((rd p0.Devices y1).Late) it6_0).bind fun y3 => (hermitageref9_Rest.j1 it5_0 it6_0 (hermitageref9_Rest.l0 p0 k y1 n) (!y3))) else none))) else none) else (if 0 ≤ y1 ∧ y1 < (p0.Devices.length : Int) then (some (w64 (((rd p0.Devices y1).Size) - p0.Job.At), it5_0)) else none)) else none)
def hermitageref9_Rest.f (k : Nat) (p0 : Pool) : Option (Int × Int) := ((hermitageref7_At.f k p0.Devices p0.Job.Dev).bind fun y1 => (if y1 < 0 then (some (0, 0)) else (hermitageref9_Rest.l0 p0 k y1 k 0 p0.Job.At)))
/-! ### hermitage/hermitageref1.List: function 121 -/
def hermitageref1_List.j0 (it5_0 : Int) (re0 : (List Int) → Int → Option (List Int)) (lt3_1 : List Int) : Option (List Int) := (re0 lt3_1 (w64 (it5_0 + 1)))
def hermitageref1_List.l0 (y1 : (Nat → Bool)) : Nat → (List Int) → Int → Option (List Int)
  | 0, _, _ => none
  | n + 1, lt3_0, it5_0 => (if it5_0 < 64 then (if 0 ≤ it5_0 ∧ it5_0 < 64 then (if (y1 it5_0.toNat) = true then (if (lt3_0.length + 1) * 8 ≤ 140737488355328 then (hermitageref1_List.j0 it5_0 (hermitageref1_List.l0 y1 n) (lt3_0 ++ [it5_0])) else none) else (hermitageref1_List.j0 it5_0 (hermitageref1_List.l0 y1 n) lt3_0)) else none) else (some lt3_0))
def hermitageref1_List.f (k : Nat) (p0 : List Seg) : Option (List Int) := ((hermitageref1_Set.f k p0).bind fun y1 => (hermitageref1_List.l0 y1 k ([] : List Int) 0))
/-! ### hermitage/hermitageref1.Count: function 101 -/
def hermitageref1_Count.f (k : Nat) (p0 : List Seg) : Option Int := ((hermitageref1_List.f k p0).bind fun y1 => (some (y1.length : Int)))
/-! ### hermitage/hermitageref7.Used: function 78 -/
def hermitageref7_Used.f (k : Nat) (p0 : Device) : Option Int := ((hermitageref1_Count.f k p0.Free).bind fun y1 => ((hermitageref1_Count.f k p0.Late).bind fun y2 => (some (w64 ((w64 (p0.Size - y1)) - y2)))))
/-! ### hermitage/hermitageref9.Spare: function 31 -/
def hermitageref9_Spare.j0 (it4_0 : Int) (re0 : Int → Int → Option Int) (it3_1 : Int) : Option Int := (re0 it3_1 (w64 (it4_0 + 1)))
def hermitageref9_Spare.l0 (p0 : Pool) (k : Nat) : Nat → Int → Int → Option Int
  | 0, _, _ => none
  | n + 1, it3_0, it4_0 => (if it4_0 < (p0.Devices.length : Int) then (if 0 ≤ it4_0 ∧ it4_0 < (p0.Devices.length : Int) then (if (rd p0.Devices it4_0).ID = p0.Job.Dev then (hermitageref9_Spare.j0 it4_0 (hermitageref9_Spare.l0 p0 k n) it3_0) else (if 0 ≤ it4_0 ∧ it4_0 < (p0.Devices.length : Int) then (if 0 ≤ it4_0 ∧ it4_0 < (p0.Devices.length : Int) then ((hermitageref7_Used.f k (rd p0.Devices it4_0)).bind fun y1 => (hermitageref9_Spare.j0 it4_0 (hermitageref9_Spare.l0 p0 k n) (w64 ((w64 (it3_0 + ((rd p0.Devices it4_0).Size))) - y1)))) else none) else none)) else none) else ((hermitageref9_Rest.f k p0).bind fun y2 => (some (w64 (it3_0 - y2.2)))))
def hermitageref9_Spare.f (k : Nat) (p0 : Pool) : Option Int := (hermitageref9_Spare.l0 p0 k k 0 0)
/-! ### hermitage/hermitageref9.Depth: function 32 -/
def hermitageref9_Depth.j0 (it8_2 : Int) (re2 : Int → Int → Option Int) (it7_3 : Int) : Option Int := (re2 it7_3 (w64 (it8_2 + 1)))
def hermitageref9_Depth.l2 (p0 : Pool) (k : Nat) (it4_1 : Int) (it6_1 : Int) (lt3_1 : List Int) (re1 : (List Int) → Int → Int → Option Int) : Nat → Int → Int → Option Int
  | 0, _, _ => none
  | n + 1, it7_2, it8_2 => (if 0 ≤ it6_1 ∧ it6_1 < (p0.Tables.length : Int) then (if it8_2 < (((rd p0.Tables it6_1).List_).length : Int) then (if 0 ≤ it6_1 ∧ it6_1 < (p0.Tables.length : Int) then (if 0 ≤ it8_2 ∧ it8_2 < (((rd p0.Tables it6_1).List_).length : Int) then ((hermitageref9_Table.f k p0 ((rd ((rd p0.Tables it6_1).List_) it8_2).Dev)).bind fun y1 => (if 0 ≤ y1 then (if 0 ≤ y1 ∧ y1 < (lt3_1.length : Int) then (hermitageref9_Depth.j0 it8_2 (hermitageref9_Depth.l2 p0 k it4_1 it6_1 lt3_1 re1 n) (imax it7_2 (rd lt3_1 y1))) else none) else (hermitageref9_Depth.j0 it8_2 (hermitageref9_Depth.l2 p0 k it4_1 it6_1 lt3_1 re1 n) it7_2))) else none) else none) else (if 0 ≤ it6_1 ∧ it6_1 < (lt3_1.length : Int) then (if 0 ≤ it6_1 ∧ it6_1 < ((lt3_1.set it6_1.toNat (w64 (it7_2 + 1))).length : Int) then (re1 (lt3_1.set it6_1.toNat (w64 (it7_2 + 1))) (imax it4_1 (rd (lt3_1.set it6_1.toNat (w64 (it7_2 + 1))) it6_1)) (w64 (it6_1 + 1))) else none) else none)) else none)
def hermitageref9_Depth.l1 (p0 : Pool) (k : Nat) (it5_0 : Int) (re0 : (List Int) → Int → Int → Option Int) : Nat → (List Int) → Int → Int → Option Int
  | 0, _, _, _ => none
  | n + 1, lt3_1, it4_1, it6_1 => (if it6_1 < (p0.Tables.length : Int) then (hermitageref9_Depth.l2 p0 k it4_1 it6_1 lt3_1 (hermitageref9_Depth.l1 p0 k it5_0 re0 n) k 0 0) else (re0 lt3_1 it4_1 (w64 (it5_0 + 1))))
def hermitageref9_Depth.l0 (p0 : Pool) (k : Nat) : Nat → (List Int) → Int → Int → Option Int
  | 0, _, _, _ => none
  | n + 1, lt3_0, it4_0, it5_0 => (if it5_0 < (p0.Tables.length : Int) then (hermitageref9_Depth.l1 p0 k it5_0 (hermitageref9_Depth.l0 p0 k n) k lt3_0 it4_0 0) else (some it4_0))
def hermitageref9_Depth.f (k : Nat) (p0 : Pool) : Option Int := (if 0 ≤ (p0.Tables.length : Int) ∧ (p0.Tables.length : Int) < 4294967296 then (hermitageref9_Depth.l0 p0 k k (List.replicate (p0.Tables.length : Int).toNat (0 : Int)) 0 0) else none)
/-! ### hermitage/fore.Fits: function 34 -/
def fore_Fits.f (k : Nat) (p0 : Pool) (p1 : Int) : Option (Bool × Int) := ((chain_May.f k p0).bind fun y1 => (if y1 = true then ((room_Find.f k p0.Devices p1).bind fun y2 => (if y2.2 = true then (if 0 ≤ y2.1 ∧ y2.1 < (p0.Devices.length : Int) then ((move_Loose.f k p0.Devices p1).bind fun y3 => ((room_Busy.f k (rd p0.Devices y2.1)).bind fun y4 => ((seg_Set_Count.f y4).bind fun y5 => (some (decide (y5 ≤ y3), 0))))) else none) else (some (false, 3)))) else (some (false, 1))))
/-! ### hermitage/hermitageref9.Fits: function 36 -/
def hermitageref9_Fits.j0 (it6_0 : Int) (re0 : Int → Int → Option Bool) (it5_1 : Int) : Option Bool := (re0 it5_1 (w64 (it6_0 + 1)))
def hermitageref9_Fits.l0 (p0 : Pool) (p1 : Int) (k : Nat) : Nat → Int → Int → Option Bool
  | 0, _, _ => none
  | n + 1, it5_0, it6_0 => (if it6_0 < (p0.Devices.length : Int) then (if it6_0 = p1 then (hermitageref9_Fits.j0 it6_0 (hermitageref9_Fits.l0 p0 p1 k n) it5_0) else (if 0 ≤ it6_0 ∧ it6_0 < (p0.Devices.length : Int) then (if 0 ≤ it6_0 ∧ it6_0 < (p0.Devices.length : Int) then ((hermitageref7_Used.f k (rd p0.Devices it6_0)).bind fun y1 => (hermitageref9_Fits.j0 it6_0 (hermitageref9_Fits.l0 p0 p1 k n) (w64 ((w64 (it5_0 + ((rd p0.Devices it6_0).Size))) - y1)))) else none) else none)) else (if 0 ≤ p1 ∧ p1 < (p0.Devices.length : Int) then ((hermitageref7_Used.f k (rd p0.Devices p1)).bind fun y2 => (some (decide (y2 ≤ it5_0)))) else none))
def hermitageref9_Fits.f (k : Nat) (p0 : Pool) (p1 : Int) : Option Bool := (hermitageref9_Fits.l0 p0 p1 k k 0 0)
/-! ### hermitage/hermitageref0.EqSegs: function 122 -/
def hermitageref0_EqSegs.l0 (p0 : List Seg) (p1 : List Seg) : Nat → Int → Option Bool
  | 0, _ => none
  | n + 1, it5_0 => (if it5_0 < (p0.length : Int) then (if 0 ≤ it5_0 ∧ it5_0 < (p0.length : Int) then (if 0 ≤ it5_0 ∧ it5_0 < (p1.length : Int) then (if (rd p0 it5_0) = (rd p1 it5_0) then (hermitageref0_EqSegs.l0 p0 p1 n (w64 (it5_0 + 1))) else (some false)) else none) else none) else (some true))
def hermitageref0_EqSegs.f (k : Nat) (p0 : List Seg) (p1 : List Seg) : Option Bool := (if (p0.length : Int) = (p1.length : Int) then (hermitageref0_EqSegs.l0 p0 p1 k 0) else (some false))
/-! ### hermitage/hermitageref0.EqDevice: function 103 -/
def hermitageref0_EqDevice.f (k : Nat) (p0 : Device) (p1 : Device) : Option Bool := (if p0.ID = p1.ID then (if p0.Size = p1.Size then ((hermitageref0_EqSegs.f k p0.Free p1.Free).bind fun y1 => (if y1 = true then ((hermitageref0_EqSegs.f k p0.Late p1.Late).bind fun y2 => (some y2)) else (some false))) else (some false)) else (some false))
/-! ### hermitage/hermitageref0.EqDevices: function 80 -/
def hermitageref0_EqDevices.l0 (p0 : List Device) (p1 : List Device) (k : Nat) : Nat → Int → Option Bool
  | 0, _ => none
  | n + 1, it5_0 => (if it5_0 < (p0.length : Int) then (if 0 ≤ it5_0 ∧ it5_0 < (p0.length : Int) then (if 0 ≤ it5_0 ∧ it5_0 < (p1.length : Int) then ((hermitageref0_EqDevice.f k (rd p0 it5_0) (rd p1 it5_0)).bind fun y1 => (if y1 = true then (hermitageref0_EqDevices.l0 p0 p1 k n (w64 (it5_0 + 1))) else (some false))) else none) else none) else (some true))
def hermitageref0_EqDevices.f (k : Nat) (p0 : List Device) (p1 : List Device) : Option Bool := (if (p0.length : Int) = (p1.length : Int) then (hermitageref0_EqDevices.l0 p0 p1 k k 0) else (some false))
/-! ### hermitage/hermitageref0.EqTables: function 81 -/
def hermitageref0_EqTables.l0 (p0 : List Table) (p1 : List Table) (k : Nat) : Nat → Int → Option Bool
  | 0, _ => none
  | n + 1, it5_0 => (if it5_0 < (p0.length : Int) then (if 0 ≤ it5_0 ∧ it5_0 < (p0.length : Int) then (if 0 ≤ it5_0 ∧ it5_0 < (p1.length : Int) then ((hermitageref0_EqTable.f k (rd p0 it5_0) (rd p1 it5_0)).bind fun y1 => (if y1 = true then (hermitageref0_EqTables.l0 p0 p1 k n (w64 (it5_0 + 1))) else (some false))) else none) else none) else (some true))
def hermitageref0_EqTables.f (k : Nat) (p0 : List Table) (p1 : List Table) : Option Bool := (if (p0.length : Int) = (p1.length : Int) then (hermitageref0_EqTables.l0 p0 p1 k k 0) else (some false))
/-! ### hermitage/hermitageref0.EqPool: function 39 -/
def hermitageref0_EqPool.f (k : Nat) (p0 : Pool) (p1 : Pool) : Option Bool := ((hermitageref0_EqDevices.f k p0.Devices p1.Devices).bind fun y1 => (if y1 = true then ((hermitageref0_EqTables.f k p0.Tables p1.Tables).bind fun y2 => (if y2 = true then (if p0.Job.Dev = p1.Job.Dev then (if p0.Job.At = p1.Job.At then ((hermitageref0_EqTable.f k p0.Job.Table p1.Job.Table).bind fun y3 => (if y3 = true then (some (p0.Next == p1.Next)) else (some false))) else (some false)) else (some false)) else (some false))) else (some false)))
/-! ### hermitage/hermitagelaw11.ForeTells: function 9 -/
def hermitagelaw11_ForeTells.j6 (it12_2 : Int) (re2 : Int → Option Bool) (bt150_7 : Bool) : Option Bool := (if bt150_7 = true then (some false) else (re2 (w64 (it12_2 + 1))))
def hermitagelaw11_ForeTells.j4 (it12_2 : Int) (y10 : Int × Int) (y11 : Bool × Int) (re2 : Int → Option Bool) (it18_5 : Int) (it19_5 : Int) (it20_5 : Int) (bt21_5 : Bool) : Option Bool := ((hermitagelaw11_num.f y10.2).bind fun y16 => (if y16 = it18_5 then (if y10.1 = it19_5 then ((hermitagelaw11_num.f y11.2).bind fun y17 => (if y17 = it20_5 then (hermitagelaw11_ForeTells.j6 it12_2 re2 (!(y11.1 == bt21_5))) else (hermitagelaw11_ForeTells.j6 it12_2 re2 true))) else (hermitagelaw11_ForeTells.j6 it12_2 re2 true)) else (hermitagelaw11_ForeTells.j6 it12_2 re2 true)))
def hermitagelaw11_ForeTells.j5 (p0 : hermitagelaw10Script) (k : Nat) (it12_2 : Int) (it13_3 : Int) (y10 : Int × Int) (y11 : Bool × Int) (re2 : Int → Option Bool) (it20_6 : Int) (bt21_6 : Bool) : Option Bool := ((hermitageref0_Between.f it13_3 1 64).bind fun y14 => (if y14 = true then (if p0.P.Job.Dev = 0 then (hermitagelaw11_ForeTells.j4 it12_2 y10 y11 re2 9 0 it20_6 bt21_6) else ((hermitageref9_Rest.f k p0.P).bind fun y15 => (if ¬ it13_3 = 0 then (hermitagelaw11_ForeTells.j4 it12_2 y10 y11 re2 0 (w64 ((w64 ((w64 (y15.1 + it13_3)) - 1)).tdiv it13_3)) it20_6 bt21_6) else none))) else (hermitagelaw11_ForeTells.j4 it12_2 y10 y11 re2 1 0 it20_6 bt21_6)))
def hermitagelaw11_ForeTells.j2 (p0 : hermitagelaw10Script) (k : Nat) (y2 : Pool) (y3 : Bool) (it12_2 : Int) (re2 : Int → Option Bool) (it13_3 : Int) : Option Bool := ((fore_Steps.f k y2 it13_3).bind fun y10 => ((fore_Fits.f k y2 it13_3).bind fun y11 => (if y3 = true then ((hermitageref7_At.f k p0.P.Devices it13_3).bind fun y12 => (if 0 ≤ y12 then ((hermitageref9_Fits.f k p0.P y12).bind fun y13 => (hermitagelaw11_ForeTells.j5 p0 k it12_2 it13_3 y10 y11 re2 0 y13)) else (hermitagelaw11_ForeTells.j5 p0 k it12_2 it13_3 y10 y11 re2 3 false))) else (hermitagelaw11_ForeTells.j4 it12_2 y10 y11 re2 1 0 1 false))))
def hermitagelaw11_ForeTells.j3 (p0 : hermitagelaw10Script) (k : Nat) (y2 : Pool) (y3 : Bool) (it12_2 : Int) (re2 : Int → Option Bool) (bt82_4 : Bool) : Option Bool := (if bt82_4 = true then (if (0 : Int) ≤ 0 ∧ 0 < (p0.A.length : Int) then (hermitagelaw11_ForeTells.j2 p0 k y2 y3 it12_2 re2 ((rd p0.A 0).N)) else none) else (hermitagelaw11_ForeTells.j2 p0 k y2 y3 it12_2 re2 it12_2))
def hermitagelaw11_ForeTells.l0 (p0 : hermitagelaw10Script) (k : Nat) (y2 : Pool) (y3 : Bool) : Nat → Int → Option Bool
  | 0, _ => none
  | n + 1, it12_2 => (if it12_2 < 9 then (if it12_2 = 8 then (hermitagelaw11_ForeTells.j3 p0 k y2 y3 it12_2 (hermitagelaw11_ForeTells.l0 p0 k y2 y3 n) (decide (0 < (p0.A.length : Int)))) else (hermitagelaw11_ForeTells.j3 p0 k y2 y3 it12_2 (hermitagelaw11_ForeTells.l0 p0 k y2 y3 n) false)) else ((hermitageref0_EqPool.f k y2 p0.P).bind fun y18 => (if y18 = true then ((hermitagelaw0_Within.f 3 2).bind fun y19 => (if y19 = 1 then ((hermitagelaw11_wakes.f k).bind fun y20 => (some y20)) else (some false))) else (some false))))
def hermitagelaw11_ForeTells.j1 (p0 : hermitagelaw10Script) (k : Nat) (y2 : Pool) (y3 : Bool) (bt69_1 : Bool) : Option Bool := (if bt69_1 = true then (some false) else (hermitagelaw11_ForeTells.l0 p0 k y2 y3 k (-1)))
def hermitagelaw11_ForeTells.j0 (p0 : hermitagelaw10Script) (k : Nat) (y2 : Pool) (y3 : Bool) (y4 : Int × Int) (y5 : Int × Int) (it9_0 : Int) (it10_0 : Int) (it11_0 : Int) : Option Bool := ((hermitagelaw11_num.f y4.2).bind fun y8 => (if y8 = it9_0 then ((hermitagelaw11_num.f y5.2).bind fun y9 => (if y9 = it9_0 then (if y4.1 = it10_0 then (hermitagelaw11_ForeTells.j1 p0 k y2 y3 (y5.1 != it11_0)) else (hermitagelaw11_ForeTells.j1 p0 k y2 y3 true)) else (hermitagelaw11_ForeTells.j1 p0 k y2 y3 true))) else (hermitagelaw11_ForeTells.j1 p0 k y2 y3 true)))
def hermitagelaw11_ForeTells.f (k : Nat) (p0 : hermitagelaw10Script) : Option Bool := ((hermitagelaw10_Heavy.f k p0).bind fun y1 => (if y1 = true then (some true) else ((hermitageref0_CopyPool.f k p0.P).bind fun y2 => ((hermitageref9_Pool.f k p0.P).bind fun y3 => ((fore_Spare.f k y2).bind fun y4 => ((fore_Depth.f k y2).bind fun y5 => (if y3 = true then ((hermitageref9_Spare.f k p0.P).bind fun y6 => ((hermitageref9_Depth.f k p0.P).bind fun y7 => (hermitagelaw11_ForeTells.j0 p0 k y2 y3 y4 y5 0 y6 y7))) else (hermitagelaw11_ForeTells.j0 p0 k y2 y3 y4 y5 1 0 0))))))))
end Go.Proofs.Ytnaajldlloglkaa.W
