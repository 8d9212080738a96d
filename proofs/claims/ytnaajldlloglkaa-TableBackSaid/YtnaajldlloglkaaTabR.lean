/- The rows of the Table laws: the argument opened. -/
import Derived.Test.YtnaajldlloglkaaRows
import Derived.Test.YtnaajldlloglkaaTabW
import Derived.Test.YtnaajldlloglkaaTabP5
import Derived.Test.YtnaajldlloglkaaHL
import Derived.ProofKit
import Derived.LaidMore
import Derived.OpenShut
import Derived.ChangeOld
import Derived.Stop.Joined
set_option linter.unusedVariables false
set_option linter.unusedSimpArgs false
namespace Go.Proofs.Ytnaajldlloglkaa.W
open Go.H Go.Proofs Go.ChangeShapes Go.WideShapes Go.ChangeAt Go.WideElems Go.RowKit
set_option maxRecDepth 100000
def gI (n : Int) : Prop := (Lit.int .i64 n).wf = true
def gL {α : Type} (e : TypeId) (g : α → Prop) (xs : List α) : Prop := xs.length * Try.prog.bytesOf e ≤ reachBytes ∧ ∀ x ∈ xs, g x
theorem gI_iff {n : Int} (h : gI n) : -9223372036854775808 ≤ n ∧ n < 9223372036854775808 := by
  have h1 : (decide (IntKind.i64.min ≤ n) && decide (n ≤ IntKind.i64.max)) = true := h
  simp only [Bool.and_eq_true, decide_eq_true_eq] at h1
  have e1 : IntKind.i64.min = -9223372036854775808 := by decide
  have e2 : IntKind.i64.max = 9223372036854775807 := by decide
  omega
theorem opnI : Opn Try.prog 3 (Kd.int .i64) gI := Opn.int Try.underlying3 (by kernel_rfl)
def gE (s : Entry) : Prop := gI s.From ∧ gI s.Len ∧ gI s.Dev ∧ gI s.To ∧ gI s.Stale
theorem opnEntry : Opn Try.prog 45 kEntry gE := Opn.struct (good := (fun p : Int × Int × Int × Int × Int => gI p.1 ∧ gI p.2.1 ∧ gI p.2.2.1 ∧ gI p.2.2.2.1 ∧ gI p.2.2.2.2)) Try.underlying45 (n := 5) (by kernel_rfl) rfl (OpnF.cons (g1 := gI) (g2 := (fun p : Int × Int × Int × Int => gI p.1 ∧ gI p.2.1 ∧ gI p.2.2.1 ∧ gI p.2.2.2)) opnI rfl (Nat.le_of_ble_eq_true rfl) (OpnF.cons (g1 := gI) (g2 := (fun p : Int × Int × Int => gI p.1 ∧ gI p.2.1 ∧ gI p.2.2)) opnI rfl (Nat.le_of_ble_eq_true rfl) (OpnF.cons (g1 := gI) (g2 := (fun p : Int × Int => gI p.1 ∧ gI p.2)) opnI rfl (Nat.le_of_ble_eq_true rfl) (OpnF.cons (g1 := gI) (g2 := gI) opnI rfl (Nat.le_of_ble_eq_true rfl) (OpnF.one opnI rfl rfl))))) (fun x : Entry => (x.From, x.Len, x.Dev, x.To, x.Stale)) (fun p => ⟨p.1, p.2.1, p.2.2.1, p.2.2.2.1, p.2.2.2.2⟩) (fun _ => rfl)
theorem opnEntries : Opn Try.prog 22 (Kd.sl kEntry) (gL 45 gE) := Opn.sl Try.underlying22 (by kernel_rfl) opnEntry
def gT (s : Table) : Prop := gI s.Dev ∧ gI s.Size ∧ (gL 45 gE) s.List_
theorem opnTable : Opn Try.prog 24 kTableR gT := Opn.struct (good := (fun p : Int × Int × (List Entry) => gI p.1 ∧ gI p.2.1 ∧ (gL 45 gE) p.2.2)) Try.underlying24 (n := 3) (by kernel_rfl) rfl (OpnF.cons (g1 := gI) (g2 := (fun p : Int × (List Entry) => gI p.1 ∧ (gL 45 gE) p.2)) opnI rfl (Nat.le_of_ble_eq_true rfl) (OpnF.cons (g1 := gI) (g2 := (gL 45 gE)) opnI rfl (Nat.le_of_ble_eq_true rfl) (OpnF.one opnEntries rfl rfl))) (fun x : Table => (x.Dev, x.Size, x.List_)) (fun p => ⟨p.1, p.2.1, p.2.2⟩) (fun _ => rfl)
def gP (s : Ptr) : Prop := gI s.Dev ∧ gI s.At
theorem opnPtr : Opn Try.prog 33 kPtr gP := Opn.struct (good := (fun p : Int × Int => gI p.1 ∧ gI p.2)) Try.underlying33 (n := 2) (by kernel_rfl) rfl (OpnF.cons (g1 := gI) (g2 := gI) opnI rfl (Nat.le_of_ble_eq_true rfl) (OpnF.one opnI rfl rfl)) (fun x : Ptr => (x.Dev, x.At)) (fun p => ⟨p.1, p.2⟩) (fun _ => rfl)
def gA (s : hermitagelaw8Act) : Prop := gI s.Do ∧ gI s.N ∧ gI s.M ∧ gP s.P
theorem opnAct : Opn Try.prog 35 khermitagelaw8Act gA := Opn.struct (good := (fun p : Int × Int × Int × Ptr => gI p.1 ∧ gI p.2.1 ∧ gI p.2.2.1 ∧ gP p.2.2.2)) Try.underlying35 (n := 5) (by kernel_rfl) rfl (OpnF.cons (g1 := gI) (g2 := (fun p : Int × Int × Ptr => gI p.1 ∧ gI p.2.1 ∧ gP p.2.2)) opnI rfl (Nat.le_of_ble_eq_true rfl) (OpnF.cons (g1 := gI) (g2 := (fun p : Int × Ptr => gI p.1 ∧ gP p.2)) opnI rfl (Nat.le_of_ble_eq_true rfl) (OpnF.cons (g1 := gI) (g2 := gP) opnI rfl (Nat.le_of_ble_eq_true rfl) (OpnF.one opnPtr rfl rfl)))) (fun x : hermitagelaw8Act => (x.Do, x.N, x.M, x.P)) (fun p => ⟨p.1, p.2.1, p.2.2.1, p.2.2.2⟩) (fun _ => rfl)
theorem opnActs : Opn Try.prog 25 (Kd.sl khermitagelaw8Act) (gL 35 gA) := Opn.sl Try.underlying25 (by kernel_rfl) opnAct
def gS (s : hermitagelaw8Script) : Prop := gT s.T ∧ (gL 35 gA) s.A
theorem opnScript : Opn Try.prog 27 khermitagelaw8ScriptR gS := Opn.struct (good := (fun p : Table × (List hermitagelaw8Act) => gT p.1 ∧ (gL 35 gA) p.2)) Try.underlying27 (n := 4) (by kernel_rfl) rfl (OpnF.cons (g1 := gT) (g2 := (gL 35 gA)) opnTable rfl (Nat.le_of_ble_eq_true rfl) (OpnF.one opnActs rfl rfl)) (fun x : hermitagelaw8Script => (x.T, x.A)) (fun p => ⟨p.1, p.2⟩) (fun _ => rfl)
theorem gS.sized {p : hermitagelaw8Script} (h : gS p) : Sized p := by
  have e1 : Try.prog.bytesOf 45 = 40 := by kernel_rfl
  have e2 : Try.prog.bytesOf 35 = 40 := by kernel_rfl
  obtain ⟨⟨_, _, h1, _⟩, h3, h4⟩ := h
  rw [e1] at h1
  rw [e2] at h3
  simp only [reachBytes] at h1 h3
  exact ⟨by omega, by omega, fun a ha => gI_iff (h4 a ha).2.1⟩
/-- The one argument, opened. -/
theorem open_script {H : Type} {enc : TypeId × Value → H} {W : World} {base : Nat} {v : Value} {d : DataW H} {ps : List MemPlace} (hv : Value.okWide Try.prog W .any base 27 v) (h : DataW.Trod enc Try.prog W 0 (fun _ => true) true 27 v d ps) (hw : (d.weights Try.prog 27).all (· ≤ reachBytes) = true) :
    ∃ (p : hermitagelaw8Script) (A1 : Option Addr) (c1 : Nat) (A2 : Option Addr) (c2 : Nat), v = .agg #[.int .i64 p.T.Dev, .int .i64 p.T.Size, .slice A1 p.T.List_.length c1, .slice A2 p.A.length c2] ∧ p.T.List_.length ≤ c1 ∧ Sl kEntry W.heap okAll A1 p.T.List_ ∧ p.A.length ≤ c2 ∧ Sl khermitagelaw8Act W.heap okAll A2 p.A ∧ Sized p := by
  obtain ⟨cs, rfl, _⟩ := okWide_struct Try.underlying27 hv
  obtain ⟨fuel, hf⟩ := h
  obtain ⟨p, hr, hg⟩ := opnScript.open_ hf hw
  obtain ⟨A1, c1, A2, c2, e, h1, h2, h3, h4⟩ := khermitagelaw8ScriptR_open hr
  refine ⟨p, A1, c1, A2, c2, ?_, h1, h2, h3, h4, hg.sized⟩
  rw [← Array.toArray_toList (xs := cs)]
  congr 1
  exact congrArg List.toArray e
end Go.Proofs.Ytnaajldlloglkaa.W
