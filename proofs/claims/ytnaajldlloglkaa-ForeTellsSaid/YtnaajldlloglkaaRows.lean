/-
  No cell of these rows narrows 'for every input' (looked for: loops, veiled, ifaces, maps, wideKeys, modest, calm, conditions, laid).
  DERIVED. THE GIVEN ROWS OF THIS SEAT. 7 by the template 'for every input the law returns true; each argument reads behind the call as it read before'; 0 by the template 'total and deterministic' (their statements: YtnaajldlloglkaaTotals.lean).
  GIVEN WITH THE SEED: the statements are not yours to turn. If you find one false, say at which input.
  Laid BY PROGRAM, IN A SANDBOX (cutbox-rows.mjs): the forced cells as the released guide's own fill.sh prints them over the translation 4d74806a30bf9f58… (all of the seat's roots in one cut). By AI agents, Wed Nov 11 2026. No macro, syntax, notation, axiom, sorry.
-/
import Derived.Test.YtnaajldlloglkaaChecked
import GoSem.Claim
import GoSem.ClaimJoined
import GoSem.ClaimMapViews
import Derived.JoinedTies
import Derived.KernelRfl
namespace Go.Proofs.Ytnaajldlloglkaa
/- THE CELL 'sum', in the pinned program and in every row, IS THE sha256 OF THE DUMP (.gsa) THAT YtnaajldlloglkaaProg.lean LOADS. Nothing in Lean hashes anything: it is a label: what it is worth is what the hold of that sum in a sandbox is worth. -/
noncomputable def Try.pinned : Pinned := { name := "ytnaajldlloglkaa", sum := "4d74806a30bf9f5864b8c0f2c6ee8b41e2b2ac3a1fc3fd3ae3a39be5b89ed3ce", checked := Try.checked }
namespace Rows
def none {H : Type} : Left H := { results := [], args := [] }

/-- 'hermitagelaw8.TableBack': WHATEVER THE INPUT: true; the input reads as it did. -/
def tableBackSpec : ChangeSpec := { name := "tableBack", fn := fun _ => fun
  | [d] => { results := [.lit (.bool true)], args := [d] }
  | _ => none }
def tableBackRow : OpenClaim := { program := "ytnaajldlloglkaa", sum := "4d74806a30bf9f5864b8c0f2c6ee8b41e2b2ac3a1fc3fd3ae3a39be5b89ed3ce", func := "hermitage/hermitagelaw8.TableBack", spec := "tableBack", unfollowed := true, recurses := true, apart := false }
def TableBackSaid : Prop := tableBackRow.holds Try.pinned (OpenSpec.ofChange tableBackSpec)

/-- ITS FALSE NEIGHBOUR: 'it returns false'. Refute it at one input. -/
def tableBackWrong : ChangeSpec := { name := "tableBack", fn := fun _ => fun
  | [d] => { results := [.lit (.bool false)], args := [d] }
  | _ => none }
def TableBackWrongFalsely : Prop := tableBackRow.holds Try.pinned (OpenSpec.ofChange tableBackWrong)

/-- 'hermitagelaw8.TableExact': WHATEVER THE INPUT: true; the input reads as it did. -/
def tableExactSpec : ChangeSpec := { name := "tableExact", fn := fun _ => fun
  | [d] => { results := [.lit (.bool true)], args := [d] }
  | _ => none }
def tableExactRow : OpenClaim := { program := "ytnaajldlloglkaa", sum := "4d74806a30bf9f5864b8c0f2c6ee8b41e2b2ac3a1fc3fd3ae3a39be5b89ed3ce", func := "hermitage/hermitagelaw8.TableExact", spec := "tableExact", unfollowed := true, recurses := true, apart := false }
def TableExactSaid : Prop := tableExactRow.holds Try.pinned (OpenSpec.ofChange tableExactSpec)

/-- ITS FALSE NEIGHBOUR: 'it returns false'. Refute it at one input. -/
def tableExactWrong : ChangeSpec := { name := "tableExact", fn := fun _ => fun
  | [d] => { results := [.lit (.bool false)], args := [d] }
  | _ => none }
def TableExactWrongFalsely : Prop := tableExactRow.holds Try.pinned (OpenSpec.ofChange tableExactWrong)

/-- 'hermitagelaw8.TableAdds': WHATEVER THE INPUT: true; the input reads as it did. -/
def tableAddsSpec : ChangeSpec := { name := "tableAdds", fn := fun _ => fun
  | [d] => { results := [.lit (.bool true)], args := [d] }
  | _ => none }
def tableAddsRow : OpenClaim := { program := "ytnaajldlloglkaa", sum := "4d74806a30bf9f5864b8c0f2c6ee8b41e2b2ac3a1fc3fd3ae3a39be5b89ed3ce", func := "hermitage/hermitagelaw8.TableAdds", spec := "tableAdds", unfollowed := true, recurses := true, apart := false }
def TableAddsSaid : Prop := tableAddsRow.holds Try.pinned (OpenSpec.ofChange tableAddsSpec)

/-- ITS FALSE NEIGHBOUR: 'it returns false'. Refute it at one input. -/
def tableAddsWrong : ChangeSpec := { name := "tableAdds", fn := fun _ => fun
  | [d] => { results := [.lit (.bool false)], args := [d] }
  | _ => none }
def TableAddsWrongFalsely : Prop := tableAddsRow.holds Try.pinned (OpenSpec.ofChange tableAddsWrong)

/-- 'hermitagelaw8.TableLoses': WHATEVER THE INPUT: true; the input reads as it did. -/
def tableLosesSpec : ChangeSpec := { name := "tableLoses", fn := fun _ => fun
  | [d] => { results := [.lit (.bool true)], args := [d] }
  | _ => none }
def tableLosesRow : OpenClaim := { program := "ytnaajldlloglkaa", sum := "4d74806a30bf9f5864b8c0f2c6ee8b41e2b2ac3a1fc3fd3ae3a39be5b89ed3ce", func := "hermitage/hermitagelaw8.TableLoses", spec := "tableLoses", unfollowed := true, recurses := true, apart := false }
def TableLosesSaid : Prop := tableLosesRow.holds Try.pinned (OpenSpec.ofChange tableLosesSpec)

/-- ITS FALSE NEIGHBOUR: 'it returns false'. Refute it at one input. -/
def tableLosesWrong : ChangeSpec := { name := "tableLoses", fn := fun _ => fun
  | [d] => { results := [.lit (.bool false)], args := [d] }
  | _ => none }
def TableLosesWrongFalsely : Prop := tableLosesRow.holds Try.pinned (OpenSpec.ofChange tableLosesWrong)

/-- 'hermitagelaw8.TableRanges': WHATEVER THE INPUT: true; the input reads as it did. -/
def tableRangesSpec : ChangeSpec := { name := "tableRanges", fn := fun _ => fun
  | [d] => { results := [.lit (.bool true)], args := [d] }
  | _ => none }
def tableRangesRow : OpenClaim := { program := "ytnaajldlloglkaa", sum := "4d74806a30bf9f5864b8c0f2c6ee8b41e2b2ac3a1fc3fd3ae3a39be5b89ed3ce", func := "hermitage/hermitagelaw8.TableRanges", spec := "tableRanges", unfollowed := true, recurses := true, apart := false }
def TableRangesSaid : Prop := tableRangesRow.holds Try.pinned (OpenSpec.ofChange tableRangesSpec)

/-- ITS FALSE NEIGHBOUR: 'it returns false'. Refute it at one input. -/
def tableRangesWrong : ChangeSpec := { name := "tableRanges", fn := fun _ => fun
  | [d] => { results := [.lit (.bool false)], args := [d] }
  | _ => none }
def TableRangesWrongFalsely : Prop := tableRangesRow.holds Try.pinned (OpenSpec.ofChange tableRangesWrong)

/-- 'hermitagelaw11.ForeDepth': WHATEVER THE INPUT: true; the input reads as it did. -/
def foreDepthSpec : ChangeSpec := { name := "foreDepth", fn := fun _ => fun
  | [d] => { results := [.lit (.bool true)], args := [d] }
  | _ => none }
def foreDepthRow : OpenClaim := { program := "ytnaajldlloglkaa", sum := "4d74806a30bf9f5864b8c0f2c6ee8b41e2b2ac3a1fc3fd3ae3a39be5b89ed3ce", func := "hermitage/hermitagelaw11.ForeDepth", spec := "foreDepth", unfollowed := true, recurses := true, apart := false }
def ForeDepthSaid : Prop := foreDepthRow.holds Try.pinned (OpenSpec.ofChange foreDepthSpec)

/-- ITS FALSE NEIGHBOUR: 'it returns false'. Refute it at one input. -/
def foreDepthWrong : ChangeSpec := { name := "foreDepth", fn := fun _ => fun
  | [d] => { results := [.lit (.bool false)], args := [d] }
  | _ => none }
def ForeDepthWrongFalsely : Prop := foreDepthRow.holds Try.pinned (OpenSpec.ofChange foreDepthWrong)

/-- 'hermitagelaw11.ForeTells': WHATEVER THE INPUT: true; the input reads as it did. -/
def foreTellsSpec : ChangeSpec := { name := "foreTells", fn := fun _ => fun
  | [d] => { results := [.lit (.bool true)], args := [d] }
  | _ => none }
def foreTellsRow : OpenClaim := { program := "ytnaajldlloglkaa", sum := "4d74806a30bf9f5864b8c0f2c6ee8b41e2b2ac3a1fc3fd3ae3a39be5b89ed3ce", func := "hermitage/hermitagelaw11.ForeTells", spec := "foreTells", unfollowed := true, recurses := true, apart := false }
def ForeTellsSaid : Prop := foreTellsRow.holds Try.pinned (OpenSpec.ofChange foreTellsSpec)

/-- ITS FALSE NEIGHBOUR: 'it returns false'. Refute it at one input. -/
def foreTellsWrong : ChangeSpec := { name := "foreTells", fn := fun _ => fun
  | [d] => { results := [.lit (.bool false)], args := [d] }
  | _ => none }
def ForeTellsWrongFalsely : Prop := foreTellsRow.holds Try.pinned (OpenSpec.ofChange foreTellsWrong)

/- THE SECOND FORM. 'bulk': how many values and letters a reading holds, each counted each time it is reached (what is shared counts as often as it is met; a slice's spare places count too). A statement '..UptoSaid' is the law's where the arguments, and the package variables that the reading takes, are together of bulk at most 1048576: NARROWER than '..Said'. Prove '..Said' where nothing that the law and all that it calls make is longer than what came in: it says more and counts as full. Else prove '..UptoSaid'. A law counts once. -/
mutual
def uptoBulk {H : Type} : DataW H → Nat
  | .lit (.string bytes) => bytes.length + 1
  | .lit _ => 1
  | .nil => 1
  | .ptr d => uptoBulk d + 1
  | .slice elems spare => uptoBulkAll elems + uptoBulkAll spare + 1
  | .agg parts => uptoBulkAll parts + 1
  | .iface _ d => uptoBulk d + 1
  | .map entries => uptoBulkEntries entries + 1
  | .held _ => 1
def uptoBulkAll {H : Type} : List (DataW H) → Nat
  | [] => 0
  | d :: r => uptoBulk d + uptoBulkAll r
def uptoBulkEntries {H : Type} : List (Lit × DataW H) → Nat
  | [] => 0
  | x :: r => uptoBulkEntry x + uptoBulkEntries r
def uptoBulkEntry {H : Type} : Lit × DataW H → Nat
  | (.string bytes, d) => bytes.length + uptoBulk d + 1
  | (_, d) => uptoBulk d + 1
 end
def uptoSmall : (H : Type) → List (DataW H) → Bool := fun _ ds => decide (uptoBulkAll ds ≤ 1048576)
def OpenSpec.upto (s : _root_.Go.ChangeSpec) : _root_.Go.OpenSpec := { _root_.Go.OpenSpec.ofChange s with cond := some uptoSmall }

/-- 'hermitagelaw8.TableBack', WHERE WHAT IT READS IS OF BULK AT MOST 1048576: true; the input reads as it did. -/
def tableBackUptoRow : OpenClaim := { program := "ytnaajldlloglkaa", sum := "4d74806a30bf9f5864b8c0f2c6ee8b41e2b2ac3a1fc3fd3ae3a39be5b89ed3ce", func := "hermitage/hermitagelaw8.TableBack", spec := "tableBack", unfollowed := true, recurses := true, apart := false, narrowed := true }
def TableBackUptoSaid : Prop := tableBackUptoRow.holds Try.pinned (OpenSpec.upto tableBackSpec)

/-- 'hermitagelaw8.TableExact', WHERE WHAT IT READS IS OF BULK AT MOST 1048576: true; the input reads as it did. -/
def tableExactUptoRow : OpenClaim := { program := "ytnaajldlloglkaa", sum := "4d74806a30bf9f5864b8c0f2c6ee8b41e2b2ac3a1fc3fd3ae3a39be5b89ed3ce", func := "hermitage/hermitagelaw8.TableExact", spec := "tableExact", unfollowed := true, recurses := true, apart := false, narrowed := true }
def TableExactUptoSaid : Prop := tableExactUptoRow.holds Try.pinned (OpenSpec.upto tableExactSpec)

/-- 'hermitagelaw8.TableAdds', WHERE WHAT IT READS IS OF BULK AT MOST 1048576: true; the input reads as it did. -/
def tableAddsUptoRow : OpenClaim := { program := "ytnaajldlloglkaa", sum := "4d74806a30bf9f5864b8c0f2c6ee8b41e2b2ac3a1fc3fd3ae3a39be5b89ed3ce", func := "hermitage/hermitagelaw8.TableAdds", spec := "tableAdds", unfollowed := true, recurses := true, apart := false, narrowed := true }
def TableAddsUptoSaid : Prop := tableAddsUptoRow.holds Try.pinned (OpenSpec.upto tableAddsSpec)

/-- 'hermitagelaw8.TableLoses', WHERE WHAT IT READS IS OF BULK AT MOST 1048576: true; the input reads as it did. -/
def tableLosesUptoRow : OpenClaim := { program := "ytnaajldlloglkaa", sum := "4d74806a30bf9f5864b8c0f2c6ee8b41e2b2ac3a1fc3fd3ae3a39be5b89ed3ce", func := "hermitage/hermitagelaw8.TableLoses", spec := "tableLoses", unfollowed := true, recurses := true, apart := false, narrowed := true }
def TableLosesUptoSaid : Prop := tableLosesUptoRow.holds Try.pinned (OpenSpec.upto tableLosesSpec)

/-- 'hermitagelaw8.TableRanges', WHERE WHAT IT READS IS OF BULK AT MOST 1048576: true; the input reads as it did. -/
def tableRangesUptoRow : OpenClaim := { program := "ytnaajldlloglkaa", sum := "4d74806a30bf9f5864b8c0f2c6ee8b41e2b2ac3a1fc3fd3ae3a39be5b89ed3ce", func := "hermitage/hermitagelaw8.TableRanges", spec := "tableRanges", unfollowed := true, recurses := true, apart := false, narrowed := true }
def TableRangesUptoSaid : Prop := tableRangesUptoRow.holds Try.pinned (OpenSpec.upto tableRangesSpec)

/-- 'hermitagelaw11.ForeDepth', WHERE WHAT IT READS IS OF BULK AT MOST 1048576: true; the input reads as it did. -/
def foreDepthUptoRow : OpenClaim := { program := "ytnaajldlloglkaa", sum := "4d74806a30bf9f5864b8c0f2c6ee8b41e2b2ac3a1fc3fd3ae3a39be5b89ed3ce", func := "hermitage/hermitagelaw11.ForeDepth", spec := "foreDepth", unfollowed := true, recurses := true, apart := false, narrowed := true }
def ForeDepthUptoSaid : Prop := foreDepthUptoRow.holds Try.pinned (OpenSpec.upto foreDepthSpec)

/-- 'hermitagelaw11.ForeTells', WHERE WHAT IT READS IS OF BULK AT MOST 1048576: true; the input reads as it did. -/
def foreTellsUptoRow : OpenClaim := { program := "ytnaajldlloglkaa", sum := "4d74806a30bf9f5864b8c0f2c6ee8b41e2b2ac3a1fc3fd3ae3a39be5b89ed3ce", func := "hermitage/hermitagelaw11.ForeTells", spec := "foreTells", unfollowed := true, recurses := true, apart := false, narrowed := true }
def ForeTellsUptoSaid : Prop := foreTellsUptoRow.holds Try.pinned (OpenSpec.upto foreTellsSpec)

end Rows
end Go.Proofs.Ytnaajldlloglkaa
