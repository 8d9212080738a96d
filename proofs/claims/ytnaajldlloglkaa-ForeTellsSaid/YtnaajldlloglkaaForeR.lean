/- The rows of the Fore laws: the argument opened. -/
import Derived.Test.YtnaajldlloglkaaRows
import Derived.Test.YtnaajldlloglkaaForeW
import Derived.Test.YtnaajldlloglkaaHL
import Derived.ProofKit
import Derived.LaidMore
import Derived.OpenShut
import Derived.ChangeOld
import Derived.Stop.Joined
set_option linter.unusedVariables false
set_option linter.unusedSimpArgs false
namespace Go.Proofs.Ytnaajldlloglkaa.W
open Go.H Go.Proofs Go.ChangeShapes Go.WideShapes Go.ChangeAt Go.WideElems Go.RowKit
set_option maxRecDepth 100000
def gI (n : Int) : Prop := (Lit.int .i64 n).wf = true
def gL {α : Type} (e : TypeId) (g : α → Prop) (xs : List α) : Prop := xs.length * Try.prog.bytesOf e ≤ reachBytes ∧ ∀ x ∈ xs, g x
theorem gI_iff {n : Int} (h : gI n) : -9223372036854775808 ≤ n ∧ n < 9223372036854775808 := by
  have h1 : (decide (IntKind.i64.min ≤ n) && decide (n ≤ IntKind.i64.max)) = true := h
  simp only [Bool.and_eq_true, decide_eq_true_eq] at h1
  have e1 : IntKind.i64.min = -9223372036854775808 := by decide
  have e2 : IntKind.i64.max = 9223372036854775807 := by decide
  omega
theorem opnI : Opn Try.prog 3 (Kd.int .i64) gI := Opn.int Try.underlying3 (by kernel_rfl)
def gE (s : Entry) : Prop := gI s.From ∧ gI s.Len ∧ gI s.Dev ∧ gI s.To ∧ gI s.Stale
theorem opnEntry : Opn Try.prog 45 kEntry gE := Opn.struct (good := (fun p : Int × Int × Int × Int × Int => gI p.1 ∧ gI p.2.1 ∧ gI p.2.2.1 ∧ gI p.2.2.2.1 ∧ gI p.2.2.2.2)) Try.underlying45 (n := 5) (by kernel_rfl) rfl (OpnF.cons (g1 := gI) (g2 := (fun p : Int × Int × Int × Int => gI p.1 ∧ gI p.2.1 ∧ gI p.2.2.1 ∧ gI p.2.2.2)) opnI rfl (Nat.le_of_ble_eq_true rfl) (OpnF.cons (g1 := gI) (g2 := (fun p : Int × Int × Int => gI p.1 ∧ gI p.2.1 ∧ gI p.2.2)) opnI rfl (Nat.le_of_ble_eq_true rfl) (OpnF.cons (g1 := gI) (g2 := (fun p : Int × Int => gI p.1 ∧ gI p.2)) opnI rfl (Nat.le_of_ble_eq_true rfl) (OpnF.cons (g1 := gI) (g2 := gI) opnI rfl (Nat.le_of_ble_eq_true rfl) (OpnF.one opnI rfl rfl))))) (fun x : Entry => (x.From, x.Len, x.Dev, x.To, x.Stale)) (fun p => ⟨p.1, p.2.1, p.2.2.1, p.2.2.2.1, p.2.2.2.2⟩) (fun _ => rfl)
theorem opnEntries : Opn Try.prog 22 (Kd.sl kEntry) (gL 45 gE) := Opn.sl Try.underlying22 (by kernel_rfl) opnEntry
def gT (s : Table) : Prop := gI s.Dev ∧ gI s.Size ∧ (gL 45 gE) s.List_
theorem opnTable : Opn Try.prog 24 kTableR gT := Opn.struct (good := (fun p : Int × Int × (List Entry) => gI p.1 ∧ gI p.2.1 ∧ (gL 45 gE) p.2.2)) Try.underlying24 (n := 3) (by kernel_rfl) rfl (OpnF.cons (g1 := gI) (g2 := (fun p : Int × (List Entry) => gI p.1 ∧ (gL 45 gE) p.2)) opnI rfl (Nat.le_of_ble_eq_true rfl) (OpnF.cons (g1 := gI) (g2 := (gL 45 gE)) opnI rfl (Nat.le_of_ble_eq_true rfl) (OpnF.one opnEntries rfl rfl))) (fun x : Table => (x.Dev, x.Size, x.List_)) (fun p => ⟨p.1, p.2.1, p.2.2⟩) (fun _ => rfl)
theorem opnTables : Opn Try.prog 57 (Kd.sl kTableR) (gL 24 gT) := Opn.sl Try.underlying57 (by kernel_rfl) opnTable
def gP (s : Ptr) : Prop := gI s.Dev ∧ gI s.At
theorem opnPtr : Opn Try.prog 33 kPtr gP := Opn.struct (good := (fun p : Int × Int => gI p.1 ∧ gI p.2)) Try.underlying33 (n := 2) (by kernel_rfl) rfl (OpnF.cons (g1 := gI) (g2 := gI) opnI rfl (Nat.le_of_ble_eq_true rfl) (OpnF.one opnI rfl rfl)) (fun x : Ptr => (x.Dev, x.At)) (fun p => ⟨p.1, p.2⟩) (fun _ => rfl)
theorem opnPtrs : Opn Try.prog 30 (Kd.sl kPtr) (gL 33 gP) := Opn.sl Try.underlying30 (by kernel_rfl) opnPtr
def gSg (s : Seg) : Prop := gI s.At ∧ gI s.Len
theorem opnSeg : Opn Try.prog 132 kSeg gSg := Opn.struct (good := (fun p : Int × Int => gI p.1 ∧ gI p.2)) Try.underlying132 (n := 2) (by kernel_rfl) rfl (OpnF.cons (g1 := gI) (g2 := gI) opnI rfl (Nat.le_of_ble_eq_true rfl) (OpnF.one opnI rfl rfl)) (fun x : Seg => (x.At, x.Len)) (fun p => ⟨p.1, p.2⟩) (fun _ => rfl)
theorem opnSegs : Opn Try.prog 65 (Kd.sl kSeg) (gL 132 gSg) := Opn.sl Try.underlying65 (by kernel_rfl) opnSeg
def gD (s : Device) : Prop := gI s.ID ∧ gI s.Size ∧ (gL 132 gSg) s.Free ∧ (gL 132 gSg) s.Late
theorem opnDevice : Opn Try.prog 67 kDeviceR gD := Opn.struct (good := (fun p : Int × Int × (List Seg) × (List Seg) => gI p.1 ∧ gI p.2.1 ∧ (gL 132 gSg) p.2.2.1 ∧ (gL 132 gSg) p.2.2.2)) Try.underlying67 (n := 4) (by kernel_rfl) rfl (OpnF.cons (g1 := gI) (g2 := (fun p : Int × (List Seg) × (List Seg) => gI p.1 ∧ (gL 132 gSg) p.2.1 ∧ (gL 132 gSg) p.2.2)) opnI rfl (Nat.le_of_ble_eq_true rfl) (OpnF.cons (g1 := gI) (g2 := (fun p : (List Seg) × (List Seg) => (gL 132 gSg) p.1 ∧ (gL 132 gSg) p.2)) opnI rfl (Nat.le_of_ble_eq_true rfl) (OpnF.cons (g1 := (gL 132 gSg)) (g2 := (gL 132 gSg)) opnSegs rfl (Nat.le_of_ble_eq_true rfl) (OpnF.one opnSegs rfl rfl)))) (fun x : Device => (x.ID, x.Size, x.Free, x.Late)) (fun p => ⟨p.1, p.2.1, p.2.2.1, p.2.2.2⟩) (fun _ => rfl)
theorem opnDevices : Opn Try.prog 56 (Kd.sl kDeviceR) (gL 67 gD) := Opn.sl Try.underlying56 (by kernel_rfl) opnDevice
def gJ (s : Job) : Prop := gI s.Dev ∧ gI s.At ∧ gT s.Table
theorem opnJob : Opn Try.prog 59 kJobR gJ := Opn.struct (good := (fun p : Int × Int × W.Table => gI p.1 ∧ gI p.2.1 ∧ gT p.2.2)) Try.underlying59 (n := 5) (by kernel_rfl) rfl (OpnF.cons (g1 := gI) (g2 := (fun p : Int × W.Table => gI p.1 ∧ gT p.2)) opnI rfl (Nat.le_of_ble_eq_true rfl) (OpnF.cons (g1 := gI) (g2 := gT) opnI rfl (Nat.le_of_ble_eq_true rfl) (OpnF.one opnTable rfl rfl))) (fun x : Job => (x.Dev, x.At, x.Table)) (fun p => ⟨p.1, p.2.1, p.2.2⟩) (fun _ => rfl)
def gPl (s : Pool) : Prop := (gL 67 gD) s.Devices ∧ (gL 24 gT) s.Tables ∧ gJ s.Job ∧ gI s.Next
theorem opnPool : Opn Try.prog 61 kPoolR gPl := Opn.struct (good := (fun p : (List Device) × (List W.Table) × W.Job × Int => (gL 67 gD) p.1 ∧ (gL 24 gT) p.2.1 ∧ gJ p.2.2.1 ∧ gI p.2.2.2)) Try.underlying61 (n := 8) (by kernel_rfl) rfl (OpnF.cons (g1 := (gL 67 gD)) (g2 := (fun p : (List W.Table) × W.Job × Int => (gL 24 gT) p.1 ∧ gJ p.2.1 ∧ gI p.2.2)) opnDevices rfl (Nat.le_of_ble_eq_true rfl) (OpnF.cons (g1 := (gL 24 gT)) (g2 := (fun p : W.Job × Int => gJ p.1 ∧ gI p.2)) opnTables rfl (Nat.le_of_ble_eq_true rfl) (OpnF.cons (g1 := gJ) (g2 := gI) opnJob rfl (Nat.le_of_ble_eq_true rfl) (OpnF.one opnI rfl rfl)))) (fun x : Pool => (x.Devices, x.Tables, x.Job, x.Next)) (fun p => ⟨p.1, p.2.1, p.2.2.1, p.2.2.2⟩) (fun _ => rfl)
def gA (s : hermitagelaw10Act) : Prop := gI s.Do ∧ gI s.N ∧ (gL 33 gP) s.Q
theorem opnAct : Opn Try.prog 74 khermitagelaw10ActR gA := Opn.struct (good := (fun p : Int × Int × (List Ptr) => gI p.1 ∧ gI p.2.1 ∧ (gL 33 gP) p.2.2)) Try.underlying74 (n := 3) (by kernel_rfl) rfl (OpnF.cons (g1 := gI) (g2 := (fun p : Int × (List Ptr) => gI p.1 ∧ (gL 33 gP) p.2)) opnI rfl (Nat.le_of_ble_eq_true rfl) (OpnF.cons (g1 := gI) (g2 := (gL 33 gP)) opnI rfl (Nat.le_of_ble_eq_true rfl) (OpnF.one opnPtrs rfl rfl))) (fun x : hermitagelaw10Act => (x.Do, x.N, x.Q)) (fun p => ⟨p.1, p.2.1, p.2.2⟩) (fun _ => rfl)
theorem opnActs : Opn Try.prog 62 (Kd.sl khermitagelaw10ActR) (gL 74 gA) := Opn.sl Try.underlying62 (by kernel_rfl) opnAct
def gS (s : hermitagelaw10Script) : Prop := gPl s.P ∧ (gL 74 gA) s.A
theorem opnScript : Opn Try.prog 64 khermitagelaw10ScriptR gS := Opn.struct (good := (fun p : Pool × (List hermitagelaw10Act) => gPl p.1 ∧ (gL 74 gA) p.2)) Try.underlying64 (n := 9) (by kernel_rfl) rfl (OpnF.cons (g1 := gPl) (g2 := (gL 74 gA)) opnPool rfl (Nat.le_of_ble_eq_true rfl) (OpnF.one opnActs rfl rfl)) (fun x : hermitagelaw10Script => (x.P, x.A)) (fun p => ⟨p.1, p.2⟩) (fun _ => rfl)
/-- The one argument, opened. -/
theorem open_script {H : Type} {enc : TypeId × Value → H} {W : World} {base : Nat} {v : Value} {d : DataW H} {ps : List MemPlace} (hv : Value.okWide Try.prog W .any base 64 v) (h : DataW.Trod enc Try.prog W 0 (fun _ => true) true 64 v d ps) (hw : (d.weights Try.prog 64).all (· ≤ reachBytes) = true) :
    ∃ (p : hermitagelaw10Script) (A1 : Option Addr) (c1 : Nat) (A2 : Option Addr) (c2 : Nat) (A3 : Option Addr) (c3 : Nat) (A4 : Option Addr) (c4 : Nat), v = .agg #[.slice A1 p.P.Devices.length c1, .slice A2 p.P.Tables.length c2, .int .i64 p.P.Job.Dev, .int .i64 p.P.Job.At, .int .i64 p.P.Job.Table.Dev, .int .i64 p.P.Job.Table.Size, .slice A3 p.P.Job.Table.List_.length c3, .int .i64 p.P.Next, .slice A4 p.A.length c4] ∧
      p.P.Devices.length ≤ c1 ∧ Sl kDeviceR W.heap okAll A1 p.P.Devices ∧ p.P.Tables.length ≤ c2 ∧ Sl kTableR W.heap okAll A2 p.P.Tables ∧ p.P.Job.Table.List_.length ≤ c3 ∧ Sl kEntry W.heap okAll A3 p.P.Job.Table.List_ ∧ p.A.length ≤ c4 ∧ Sl khermitagelaw10ActR W.heap okAll A4 p.A ∧ gS p := by
  obtain ⟨cs, rfl, _⟩ := okWide_struct Try.underlying64 hv
  obtain ⟨fuel, hf⟩ := h
  obtain ⟨p, hr, hg⟩ := opnScript.open_ hf hw
  obtain ⟨A1, c1, A2, c2, A3, c3, A4, c4, e, h1, h2, h3, h4, h5, h6, h7, h8⟩ := khermitagelaw10ScriptR_open hr
  refine ⟨p, A1, c1, A2, c2, A3, c3, A4, c4, ?_, h1, h2, h3, h4, h5, h6, h7, h8, hg⟩
  rw [← Array.toArray_toList (xs := cs)]
  congr 1
  exact congrArg List.toArray e
end Go.Proofs.Ytnaajldlloglkaa.W
