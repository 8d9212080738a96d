/- The rows of ChainDeep: the argument opened. -/
import Derived.Test.YtnaajldlloglkaaDoorChainW
import Derived.Test.YtnaajldlloglkaaDoorChainP1
import Derived.Test.YtnaajldlloglkaaDoorRows
import Derived.Test.YtnaajldlloglkaaDoorHL
import Derived.ProofKit
import Derived.LaidMore
import Derived.OpenShut
import Derived.ChangeOld
import Derived.Stop.Joined
set_option linter.unusedVariables false
set_option linter.unusedSimpArgs false
namespace Go.Proofs.YtnaajldlloglkaaDoor.W
open Go.H Go.Proofs Go.ChangeShapes Go.WideShapes Go.ChangeAt Go.WideElems Go.RowKit
set_option maxRecDepth 100000
def gI (n : Int) : Prop := (Lit.int .i64 n).wf = true
def gL {α : Type} (e : TypeId) (g : α → Prop) (xs : List α) : Prop := xs.length * Tryd.prog.bytesOf e ≤ reachBytes ∧ ∀ x ∈ xs, g x
theorem gI_iff {n : Int} (h : gI n) : -9223372036854775808 ≤ n ∧ n < 9223372036854775808 := by
  have h1 : (decide (IntKind.i64.min ≤ n) && decide (n ≤ IntKind.i64.max)) = true := h
  simp only [Bool.and_eq_true, decide_eq_true_eq] at h1
  have e1 : IntKind.i64.min = -9223372036854775808 := by decide
  have e2 : IntKind.i64.max = 9223372036854775807 := by decide
  omega
theorem opnI : Opn Tryd.prog 3 (Kd.int .i64) gI := Opn.int Tryd.underlying3 (by kernel_rfl)
def gE (s : Entry) : Prop := gI s.From ∧ gI s.Len ∧ gI s.Dev ∧ gI s.To ∧ gI s.Stale
theorem opnEntry : Opn Tryd.prog 86 kEntry gE := Opn.struct (good := (fun p : Int × Int × Int × Int × Int => gI p.1 ∧ gI p.2.1 ∧ gI p.2.2.1 ∧ gI p.2.2.2.1 ∧ gI p.2.2.2.2)) Tryd.underlying86 (n := 5) (by kernel_rfl) rfl (OpnF.cons (g1 := gI) (g2 := (fun p : Int × Int × Int × Int => gI p.1 ∧ gI p.2.1 ∧ gI p.2.2.1 ∧ gI p.2.2.2)) opnI rfl (Nat.le_of_ble_eq_true rfl) (OpnF.cons (g1 := gI) (g2 := (fun p : Int × Int × Int => gI p.1 ∧ gI p.2.1 ∧ gI p.2.2)) opnI rfl (Nat.le_of_ble_eq_true rfl) (OpnF.cons (g1 := gI) (g2 := (fun p : Int × Int => gI p.1 ∧ gI p.2)) opnI rfl (Nat.le_of_ble_eq_true rfl) (OpnF.cons (g1 := gI) (g2 := gI) opnI rfl (Nat.le_of_ble_eq_true rfl) (OpnF.one opnI rfl rfl))))) (fun x : Entry => (x.From, x.Len, x.Dev, x.To, x.Stale)) (fun p => ⟨p.1, p.2.1, p.2.2.1, p.2.2.2.1, p.2.2.2.2⟩) (fun _ => rfl)
theorem opnEntries : Opn Tryd.prog 73 (Kd.sl kEntry) (gL 86 gE) := Opn.sl Tryd.underlying73 (by kernel_rfl) opnEntry
def gT (s : Table) : Prop := gI s.Dev ∧ gI s.Size ∧ (gL 86 gE) s.List_
theorem opnTable : Opn Tryd.prog 75 kTableR gT := Opn.struct (good := (fun p : Int × Int × (List Entry) => gI p.1 ∧ gI p.2.1 ∧ (gL 86 gE) p.2.2)) Tryd.underlying75 (n := 3) (by kernel_rfl) rfl (OpnF.cons (g1 := gI) (g2 := (fun p : Int × (List Entry) => gI p.1 ∧ (gL 86 gE) p.2)) opnI rfl (Nat.le_of_ble_eq_true rfl) (OpnF.cons (g1 := gI) (g2 := (gL 86 gE)) opnI rfl (Nat.le_of_ble_eq_true rfl) (OpnF.one opnEntries rfl rfl))) (fun x : Table => (x.Dev, x.Size, x.List_)) (fun p => ⟨p.1, p.2.1, p.2.2⟩) (fun _ => rfl)
theorem opnTables : Opn Tryd.prog 72 (Kd.sl kTableR) (gL 75 gT) := Opn.sl Tryd.underlying72 (by kernel_rfl) opnTable
def gP (s : Ptr) : Prop := gI s.Dev ∧ gI s.At
theorem opnPtr : Opn Tryd.prog 70 kPtr gP := Opn.struct (good := (fun p : Int × Int => gI p.1 ∧ gI p.2)) Tryd.underlying70 (n := 2) (by kernel_rfl) rfl (OpnF.cons (g1 := gI) (g2 := gI) opnI rfl (Nat.le_of_ble_eq_true rfl) (OpnF.one opnI rfl rfl)) (fun x : Ptr => (x.Dev, x.At)) (fun p => ⟨p.1, p.2⟩) (fun _ => rfl)
theorem opnPtrs : Opn Tryd.prog 64 (Kd.sl kPtr) (gL 70 gP) := Opn.sl Tryd.underlying64 (by kernel_rfl) opnPtr
def gSg (s : Seg) : Prop := gI s.At ∧ gI s.Len
theorem opnSeg : Opn Tryd.prog 93 kSeg gSg := Opn.struct (good := (fun p : Int × Int => gI p.1 ∧ gI p.2)) Tryd.underlying93 (n := 2) (by kernel_rfl) rfl (OpnF.cons (g1 := gI) (g2 := gI) opnI rfl (Nat.le_of_ble_eq_true rfl) (OpnF.one opnI rfl rfl)) (fun x : Seg => (x.At, x.Len)) (fun p => ⟨p.1, p.2⟩) (fun _ => rfl)
theorem opnSegs : Opn Tryd.prog 28 (Kd.sl kSeg) (gL 93 gSg) := Opn.sl Tryd.underlying28 (by kernel_rfl) opnSeg
def gD (s : Device) : Prop := gI s.ID ∧ gI s.Size ∧ (gL 93 gSg) s.Free ∧ (gL 93 gSg) s.Late
theorem opnDevice : Opn Tryd.prog 84 kDeviceR gD := Opn.struct (good := (fun p : Int × Int × (List Seg) × (List Seg) => gI p.1 ∧ gI p.2.1 ∧ (gL 93 gSg) p.2.2.1 ∧ (gL 93 gSg) p.2.2.2)) Tryd.underlying84 (n := 4) (by kernel_rfl) rfl (OpnF.cons (g1 := gI) (g2 := (fun p : Int × (List Seg) × (List Seg) => gI p.1 ∧ (gL 93 gSg) p.2.1 ∧ (gL 93 gSg) p.2.2)) opnI rfl (Nat.le_of_ble_eq_true rfl) (OpnF.cons (g1 := gI) (g2 := (fun p : (List Seg) × (List Seg) => (gL 93 gSg) p.1 ∧ (gL 93 gSg) p.2)) opnI rfl (Nat.le_of_ble_eq_true rfl) (OpnF.cons (g1 := (gL 93 gSg)) (g2 := (gL 93 gSg)) opnSegs rfl (Nat.le_of_ble_eq_true rfl) (OpnF.one opnSegs rfl rfl)))) (fun x : Device => (x.ID, x.Size, x.Free, x.Late)) (fun p => ⟨p.1, p.2.1, p.2.2.1, p.2.2.2⟩) (fun _ => rfl)
theorem opnDevices : Opn Tryd.prog 56 (Kd.sl kDeviceR) (gL 84 gD) := Opn.sl Tryd.underlying56 (by kernel_rfl) opnDevice
def gJ (s : Job) : Prop := gI s.Dev ∧ gI s.At ∧ gT s.Table
theorem opnJob : Opn Tryd.prog 77 kJobR gJ := Opn.struct (good := (fun p : Int × Int × W.Table => gI p.1 ∧ gI p.2.1 ∧ gT p.2.2)) Tryd.underlying77 (n := 5) (by kernel_rfl) rfl (OpnF.cons (g1 := gI) (g2 := (fun p : Int × W.Table => gI p.1 ∧ gT p.2)) opnI rfl (Nat.le_of_ble_eq_true rfl) (OpnF.cons (g1 := gI) (g2 := gT) opnI rfl (Nat.le_of_ble_eq_true rfl) (OpnF.one opnTable rfl rfl))) (fun x : Job => (x.Dev, x.At, x.Table)) (fun p => ⟨p.1, p.2.1, p.2.2⟩) (fun _ => rfl)
def gPl (s : Pool) : Prop := (gL 84 gD) s.Devices ∧ (gL 75 gT) s.Tables ∧ gJ s.Job ∧ gI s.Next
theorem opnPool : Opn Tryd.prog 79 kPoolR gPl := Opn.struct (good := (fun p : (List Device) × (List W.Table) × W.Job × Int => (gL 84 gD) p.1 ∧ (gL 75 gT) p.2.1 ∧ gJ p.2.2.1 ∧ gI p.2.2.2)) Tryd.underlying79 (n := 8) (by kernel_rfl) rfl (OpnF.cons (g1 := (gL 84 gD)) (g2 := (fun p : (List W.Table) × W.Job × Int => (gL 75 gT) p.1 ∧ gJ p.2.1 ∧ gI p.2.2)) opnDevices rfl (Nat.le_of_ble_eq_true rfl) (OpnF.cons (g1 := (gL 75 gT)) (g2 := (fun p : W.Job × Int => gJ p.1 ∧ gI p.2)) opnTables rfl (Nat.le_of_ble_eq_true rfl) (OpnF.cons (g1 := gJ) (g2 := gI) opnJob rfl (Nat.le_of_ble_eq_true rfl) (OpnF.one opnI rfl rfl)))) (fun x : Pool => (x.Devices, x.Tables, x.Job, x.Next)) (fun p => ⟨p.1, p.2.1, p.2.2.1, p.2.2.2⟩) (fun _ => rfl)
def gS (s : hermitagelaw9Ask) : Prop := gPl s.P ∧ (gL 70 gP) s.Q
theorem opnAsk : Opn Tryd.prog 81 khermitagelaw9AskR gS := Opn.struct (good := (fun p : Pool × (List Ptr) => gPl p.1 ∧ (gL 70 gP) p.2)) Tryd.underlying81 (n := 9) (by kernel_rfl) rfl (OpnF.cons (g1 := gPl) (g2 := (gL 70 gP)) opnPool rfl (Nat.le_of_ble_eq_true rfl) (OpnF.one opnPtrs rfl rfl)) (fun x : hermitagelaw9Ask => (x.P, x.Q)) (fun p => ⟨p.1, p.2⟩) (fun _ => rfl)
/-- The one argument, opened. -/
theorem open_script {H : Type} {enc : TypeId × Value → H} {W : World} {base : Nat} {v : Value} {d : DataW H} {ps : List MemPlace} (hv : Value.okWide Tryd.prog W .any base 81 v) (h : DataW.Trod enc Tryd.prog W 0 (fun _ => true) true 81 v d ps) (hw : (d.weights Tryd.prog 81).all (· ≤ reachBytes) = true) :
    ∃ (p : hermitagelaw9Ask) (A1 : Option Addr) (c1 : Nat) (A2 : Option Addr) (c2 : Nat) (A3 : Option Addr) (c3 : Nat) (A4 : Option Addr) (c4 : Nat), v = .agg #[.slice A1 p.P.Devices.length c1, .slice A2 p.P.Tables.length c2, .int .i64 p.P.Job.Dev, .int .i64 p.P.Job.At, .int .i64 p.P.Job.Table.Dev, .int .i64 p.P.Job.Table.Size, .slice A3 p.P.Job.Table.List_.length c3, .int .i64 p.P.Next, .slice A4 p.Q.length c4] ∧
      p.P.Devices.length ≤ c1 ∧ Sl kDeviceR W.heap okAll A1 p.P.Devices ∧ p.P.Tables.length ≤ c2 ∧ Sl kTableR W.heap okAll A2 p.P.Tables ∧ p.P.Job.Table.List_.length ≤ c3 ∧ Sl kEntry W.heap okAll A3 p.P.Job.Table.List_ ∧ p.Q.length ≤ c4 ∧ Sl kPtr W.heap okAll A4 p.Q ∧ gS p := by
  obtain ⟨cs, rfl, _⟩ := okWide_struct Tryd.underlying81 hv
  obtain ⟨fuel, hf⟩ := h
  obtain ⟨p, hr, hg⟩ := opnAsk.open_ hf hw
  obtain ⟨A1, c1, A2, c2, A3, c3, A4, c4, e, h1, h2, h3, h4, h5, h6, h7, h8⟩ := khermitagelaw9AskR_open hr
  refine ⟨p, A1, c1, A2, c2, A3, c3, A4, c4, ?_, h1, h2, h3, h4, h5, h6, h7, h8, hg⟩
  rw [← Array.toArray_toList (xs := cs)]
  congr 1
  exact congrArg List.toArray e
theorem ChainDeep_all {p : hermitagelaw9Ask} (_ : gS p) : ∃ k, hermitagelaw9_ChainDeep.f k p = some true := ChainDeep_true (p := p) trivial
/-- The table as it is laid. -/
theorem laid_eq : (Rows.laid_math_bits_deBruijn64tab : DataW Unit) = .agg ((List.range 64).map fun i => .lit (.int .u8 (tz i))) := by rfl
theorem gTab : Tryd.prog.globalNamed "math/bits.deBruijn64tab" = some 0 := by kernel_rfl
theorem tTab : (Tryd.prog.globals[0]?).map (·.type) = some 167 := by kernel_rfl
theorem glob_of_laid {W : World} (h : laidMetH Tryd.prog [("math/bits.deBruijn64tab", Rows.laid_math_bits_deBruijn64tab)] W) : ∃ gT, Box W.heap 0 gT (arrI .u8 64 tz) := by
  rw [MakeChecks.laidMetH_plain _ _ _ (by kernel_rfl)] at h
  obtain ⟨ps, ⟨g0, t0, cs0, f0, p0, q0, hg0, ht0, hv0, hd0, hq, hps⟩, _, hc⟩ := h
  obtain rfl := Option.some.inj (gTab.symm.trans hg0)
  obtain rfl := Option.some.inj (tTab.symm.trans ht0)
  have c5 : Tryd.prog.cellsOf 5 = 1 := by kernel_rfl
  have c167 : Tryd.prog.cellsOf 167 = 64 := by kernel_rfl
  obtain ⟨xs, m1, _, hx1, hlen, hn, hel⟩ := DataW.trod_array Tryd.underlying167 hd0
  rw [laid_eq] at hx1
  simp only [Prod.mk.injEq, DataW.agg.injEq] at hx1
  rw [c167] at hlen
  have hcs : cs0.toList = arrI .u8 64 tz := by
    apply List.ext_getElem?
    intro i
    by_cases hi : i < 64
    · rw [arrF_get hi]
      have h1 := hel i hi
      rw [c5, Nat.mul_one, List.getElem?_eq_getElem (show i < xs.length by omega)] at h1
      obtain ⟨k, e1, e2, _⟩ := DataW.trod_int Tryd.underlying5 h1
      have e3 : (xs.map (·.1))[i]? = some (.lit (.int .u8 k)) := by rw [List.getElem?_map, List.getElem?_eq_getElem (show i < xs.length by omega), e2]; rfl
      rw [← hx1.1, List.getElem?_map, List.getElem?_range hi] at e3
      simp only [Option.map_some, Option.some.injEq, DataW.lit.injEq, Lit.int.injEq, true_and] at e3
      subst e3
      have e4 : ((cs0.toList.drop i).take 1)[0]? = some (.int .u8 (tz i)) := by rw [e1]; rfl
      rw [List.getElem?_take, List.getElem?_drop] at e4
      simpa using e4
    · rw [List.getElem?_eq_none (by omega), List.getElem?_eq_none (by rw [arrF_len]; omega)]
  have hv1 := hv0
  simp only [World.var?, gTab, Option.bind_some] at hv1
  split at hv1
  · rename_i cs T fr hb
    cases hv1
    obtain ⟨⟨c, t, e⟩, _⟩ := hc 0 0 (by
      rw [hps]
      simp only [List.append_assoc, List.mem_append]
      left
      simp only [MemPlace.row, List.mem_map, List.mem_range]
      have hsz : cs0.size = 64 := by rw [← Array.length_toList, hlen]
      exact ⟨0, by omega, rfl⟩)
    rw [hb] at e
    cases e
    exact ⟨T, by unfold Box; rw [hb, ← hcs, Array.toArray_toList]⟩
  · cases hv1
end Go.Proofs.YtnaajldlloglkaaDoor.W
