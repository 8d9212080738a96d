/- The rows of the Seg laws: the argument opened, the table that is laid. -/
import Derived.Test.YtnaajldlloglkaaDoorRows
import Derived.Test.YtnaajldlloglkaaDoorSegW
import Derived.Test.YtnaajldlloglkaaDoorSegP4
import Derived.Test.YtnaajldlloglkaaDoorHL
import Derived.ProofKit
import Derived.LaidMore
import Derived.OpenShut
import Derived.ChangeOld
import Derived.Stop.Joined
set_option linter.unusedVariables false
set_option linter.unusedSimpArgs false
namespace Go.Proofs.YtnaajldlloglkaaDoor.W
open Go.H Go.Proofs Go.ChangeShapes Go.WideShapes Go.ChangeAt Go.WideElems Go.RowKit
set_option maxRecDepth 100000
def gI (n : Int) : Prop := (Lit.int .i64 n).wf = true
def gL {α : Type} (e : TypeId) (g : α → Prop) (xs : List α) : Prop := xs.length * Tryd.prog.bytesOf e ≤ reachBytes ∧ ∀ x ∈ xs, g x
theorem opnI : Opn Tryd.prog 3 (Kd.int .i64) gI := Opn.int Tryd.underlying3 (by kernel_rfl)
theorem opnSeg : Opn Tryd.prog 93 kSeg (fun s : Seg => gI s.At ∧ gI s.Len) := Opn.struct (good := fun p : Int × Int => gI p.1 ∧ gI p.2) Tryd.underlying93 (n := 2) (by kernel_rfl) rfl (OpnF.cons opnI rfl (by decide) (OpnF.one opnI rfl rfl)) (fun x : Seg => (x.At, x.Len)) (fun p => ⟨p.1, p.2⟩) (fun _ => rfl)
theorem opnSegs : Opn Tryd.prog 28 (Kd.sl kSeg) (gL 93 fun s : Seg => gI s.At ∧ gI s.Len) := Opn.sl Tryd.underlying28 (by kernel_rfl) opnSeg
theorem opnLists : Opn Tryd.prog 22 (Kd.sl (Kd.sl kSeg)) (gL 28 (gL 93 fun s : Seg => gI s.At ∧ gI s.Len)) := Opn.sl Tryd.underlying22 (by kernel_rfl) opnSegs
theorem opnInts : Opn Tryd.prog 23 (Kd.sl (Kd.int .i64)) (gL 3 gI) := Opn.sl Tryd.underlying23 (by kernel_rfl) opnI
def gAsk (p : hermitagelaw1Ask) : Prop := gL 28 (gL 93 fun s : Seg => gI s.At ∧ gI s.Len) p.L ∧ gL 3 gI p.N
theorem opnAsk : Opn Tryd.prog 25 khermitagelaw1AskR gAsk := Opn.struct (good := fun p : List (List Seg) × List Int => gL 28 (gL 93 fun s : Seg => gI s.At ∧ gI s.Len) p.1 ∧ gL 3 gI p.2) Tryd.underlying25 (n := 2) (by kernel_rfl) rfl (OpnF.cons opnLists rfl (by decide) (OpnF.one opnInts rfl rfl)) (fun x : hermitagelaw1Ask => (x.L, x.N)) (fun p => ⟨p.1, p.2⟩) (fun _ => rfl)
theorem gAsk.sized {p : hermitagelaw1Ask} (h : gAsk p) : Sized p := by
  have e1 : Tryd.prog.bytesOf 28 = 24 := by kernel_rfl
  have e2 : Tryd.prog.bytesOf 93 = 16 := by kernel_rfl
  have e3 : Tryd.prog.bytesOf 3 = 8 := by kernel_rfl
  obtain ⟨⟨h1, h2⟩, h3, _⟩ := h
  rw [e1] at h1
  rw [e3] at h3
  simp only [reachBytes] at h1 h3
  refine ⟨by omega, by omega, fun l hl => ?_⟩
  have := (h2 l hl).1
  rw [e2] at this
  simp only [reachBytes] at this
  omega
/-- The one argument, opened. -/
theorem open_ask {H : Type} {enc : TypeId × Value → H} {W : World} {base : Nat} {v : Value} {d : DataW H} {ps : List MemPlace} (hv : Value.okWide Tryd.prog W .any base 25 v) (h : DataW.Trod enc Tryd.prog W 0 (fun _ => true) true 25 v d ps) (hw : (d.weights Tryd.prog 25).all (· ≤ reachBytes) = true) :
    ∃ (p : hermitagelaw1Ask) (A1 : Option Addr) (c1 : Nat) (A2 : Option Addr) (c2 : Nat), v = .agg #[.slice A1 p.L.length c1, .slice A2 p.N.length c2] ∧ p.L.length ≤ c1 ∧ Sl (Kd.sl kSeg) W.heap okAll A1 p.L ∧ p.N.length ≤ c2 ∧ Sl (Kd.int .i64) W.heap okAll A2 p.N ∧ Sized p := by
  obtain ⟨cs, rfl, _⟩ := okWide_struct Tryd.underlying25 hv
  obtain ⟨fuel, hf⟩ := h
  obtain ⟨p, hr, hg⟩ := opnAsk.open_ hf hw
  obtain ⟨A1, c1, A2, c2, e, h1, h2, h3, h4⟩ := khermitagelaw1AskR_open hr
  refine ⟨p, A1, c1, A2, c2, ?_, h1, h2, h3, h4, hg.sized⟩
  have : cs.toList = [.slice A1 p.L.length c1, .slice A2 p.N.length c2] := e
  rw [← this, Array.toArray_toList]
/-- The table as it is laid. -/
theorem laid_eq : (Rows.laid_math_bits_deBruijn64tab : DataW Unit) = .agg ((List.range 64).map fun i => .lit (.int .u8 (tz i))) := by rfl
theorem gTab : Tryd.prog.globalNamed "math/bits.deBruijn64tab" = some 0 := by kernel_rfl
theorem tTab : (Tryd.prog.globals[0]?).map (·.type) = some 167 := by kernel_rfl
theorem glob_of_laid {W : World} (h : laidMetH Tryd.prog [("math/bits.deBruijn64tab", Rows.laid_math_bits_deBruijn64tab)] W) : ∃ gT, Box W.heap 0 gT (arrI .u8 64 tz) := by
  rw [MakeChecks.laidMetH_plain _ _ _ (by kernel_rfl)] at h
  obtain ⟨ps, ⟨g0, t0, cs0, f0, p0, q0, hg0, ht0, hv0, hd0, hq, hps⟩, _, hc⟩ := h
  obtain rfl := Option.some.inj (gTab.symm.trans hg0)
  obtain rfl := Option.some.inj (tTab.symm.trans ht0)
  have c5 : Tryd.prog.cellsOf 5 = 1 := by kernel_rfl
  have c167 : Tryd.prog.cellsOf 167 = 64 := by kernel_rfl
  obtain ⟨xs, m1, _, hx1, hlen, hn, hel⟩ := DataW.trod_array Tryd.underlying167 hd0
  rw [laid_eq] at hx1
  simp only [Prod.mk.injEq, DataW.agg.injEq] at hx1
  rw [c167] at hlen
  have hcs : cs0.toList = arrI .u8 64 tz := by
    apply List.ext_getElem?
    intro i
    by_cases hi : i < 64
    · rw [arrF_get hi]
      have h1 := hel i hi
      rw [c5, Nat.mul_one, List.getElem?_eq_getElem (show i < xs.length by omega)] at h1
      obtain ⟨k, e1, e2, _⟩ := DataW.trod_int Tryd.underlying5 h1
      have e3 : (xs.map (·.1))[i]? = some (.lit (.int .u8 k)) := by rw [List.getElem?_map, List.getElem?_eq_getElem (show i < xs.length by omega), e2]; rfl
      rw [← hx1.1, List.getElem?_map, List.getElem?_range hi] at e3
      simp only [Option.map_some, Option.some.injEq, DataW.lit.injEq, Lit.int.injEq, true_and] at e3
      subst e3
      have e4 : ((cs0.toList.drop i).take 1)[0]? = some (.int .u8 (tz i)) := by rw [e1]; rfl
      rw [List.getElem?_take, List.getElem?_drop] at e4
      simpa using e4
    · rw [List.getElem?_eq_none (by omega), List.getElem?_eq_none (by rw [arrF_len]; omega)]
  have hv1 := hv0
  simp only [World.var?, gTab, Option.bind_some] at hv1
  split at hv1
  · rename_i cs T fr hb
    cases hv1
    obtain ⟨⟨c, t, e⟩, _⟩ := hc 0 0 (by
      rw [hps]
      simp only [List.append_assoc, List.mem_append]
      left
      simp only [MemPlace.row, List.mem_map, List.mem_range]
      have hsz : cs0.size = 64 := by rw [← Array.length_toList, hlen]
      exact ⟨0, by omega, rfl⟩)
    rw [hb] at e
    cases e
    exact ⟨T, by unfold Box; rw [hb, ← hcs, Array.toArray_toList]⟩
  · cases hv1
end Go.Proofs.YtnaajldlloglkaaDoor.W
