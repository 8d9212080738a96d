/-
  NARROWER THAN 'FOR EVERY INPUT', by the rows' own cells (each row's printed sentence says how): MoveBack: laid · MoveAdds: laid · MoveRemoves: laid · MoveTidies: laid.
  DERIVED. THE GIVEN ROWS OF THIS SEAT. 4 by the template 'for every input the law returns true; each argument reads behind the call as it read before'; 0 by the template 'total and deterministic' (their statements: YtnaajldlloglkaaGreatDoorTotals.lean).
  GIVEN WITH THE SEED: the statements are not yours to turn. If you find one false, say at which input.
  Laid BY PROGRAM, IN A SANDBOX (cutbox-rows.mjs): the forced cells as the released guide's own fill.sh prints them over the translation 623671abb6f50071… (all of the seat's roots in one cut). By AI agents, Wed Nov 11 2026. No macro, syntax, notation, axiom, sorry.
-/
import Derived.Test.YtnaajldlloglkaaGreatDoorChecked
import GoSem.Claim
import GoSem.ClaimJoined
import GoSem.ClaimMapViews
import Derived.JoinedTies
import Derived.KernelRfl
namespace Go.Proofs.YtnaajldlloglkaaGreatDoor
/- THE CELL 'sum', in the pinned program and in every row, IS THE sha256 OF THE DUMP (.gsa) THAT YtnaajldlloglkaaGreatDoorProg.lean LOADS. Nothing in Lean hashes anything: it is a label: what it is worth is what the hold of that sum in a sandbox is worth. -/
noncomputable def Tryz.pinned : Pinned := { name := "ytnaajldlloglkaagreatdoor", sum := "623671abb6f50071251e94f5c571ce4998f453143b5e736645cac2b0a4706d5a", checked := Tryz.checked }
namespace Rows
def none {H : Type} : Left H := { results := [], args := [] }

/- WHAT THE LISTED PACKAGE-LEVEL VARIABLES READ AS WHEN THE CALL BEGINS. Each datum BY PROGRAM (the guide's laid-datum.mjs) off the statement by which the dump's own 'gosem.cut.vars' lays the variable. In a bare row this is a premise. The card (YtnaajldlloglkaaGreatDoorCards.lean) ties it to the program's text. -/
def laid_math_bits_deBruijn64tab {H : Type} : DataW H := .agg [.lit (.int .u8 0), .lit (.int .u8 1), .lit (.int .u8 56), .lit (.int .u8 2), .lit (.int .u8 57), .lit (.int .u8 49), .lit (.int .u8 28), .lit (.int .u8 3), .lit (.int .u8 61), .lit (.int .u8 58), .lit (.int .u8 42), .lit (.int .u8 50), .lit (.int .u8 38), .lit (.int .u8 29), .lit (.int .u8 17), .lit (.int .u8 4), .lit (.int .u8 62), .lit (.int .u8 47), .lit (.int .u8 59), .lit (.int .u8 36), .lit (.int .u8 45), .lit (.int .u8 43), .lit (.int .u8 51), .lit (.int .u8 22), .lit (.int .u8 53), .lit (.int .u8 39), .lit (.int .u8 33), .lit (.int .u8 30), .lit (.int .u8 24), .lit (.int .u8 18), .lit (.int .u8 12), .lit (.int .u8 5), .lit (.int .u8 63), .lit (.int .u8 55), .lit (.int .u8 48), .lit (.int .u8 27), .lit (.int .u8 60), .lit (.int .u8 41), .lit (.int .u8 37), .lit (.int .u8 16), .lit (.int .u8 46), .lit (.int .u8 35), .lit (.int .u8 44), .lit (.int .u8 21), .lit (.int .u8 52), .lit (.int .u8 32), .lit (.int .u8 23), .lit (.int .u8 11), .lit (.int .u8 54), .lit (.int .u8 26), .lit (.int .u8 40), .lit (.int .u8 15), .lit (.int .u8 34), .lit (.int .u8 20), .lit (.int .u8 31), .lit (.int .u8 10), .lit (.int .u8 25), .lit (.int .u8 14), .lit (.int .u8 19), .lit (.int .u8 9), .lit (.int .u8 13), .lit (.int .u8 8), .lit (.int .u8 7), .lit (.int .u8 6)]

/-- 'hermitagelaw10.MoveBack': WHATEVER THE INPUT: true; the input reads as it did. -/
def moveBackSpec : ChangeSpec := { name := "moveBack", fn := fun _ => fun
  | [d] => { results := [.lit (.bool true)], args := [d] }
  | _ => none }
def moveBackRow : OpenClaim := { program := "ytnaajldlloglkaagreatdoor", sum := "623671abb6f50071251e94f5c571ce4998f453143b5e736645cac2b0a4706d5a", func := "hermitage/hermitagelaw10.MoveBack", spec := "moveBack", inPlace := ["slices.overlaps[hermitage/api.Table]"], unfollowed := true, recurses := true, named := ["math/bits.deBruijn64tab"], apart := false, laid := [("math/bits.deBruijn64tab", laid_math_bits_deBruijn64tab)] }
def MoveBackSaid : Prop := moveBackRow.holds Tryz.pinned (OpenSpec.ofChange moveBackSpec)

/-- ITS FALSE NEIGHBOUR: 'it returns false'. Refute it at one input. -/
def moveBackWrong : ChangeSpec := { name := "moveBack", fn := fun _ => fun
  | [d] => { results := [.lit (.bool false)], args := [d] }
  | _ => none }
def MoveBackWrongFalsely : Prop := moveBackRow.holds Tryz.pinned (OpenSpec.ofChange moveBackWrong)

/-- 'hermitagelaw10.MoveAdds': WHATEVER THE INPUT: true; the input reads as it did. -/
def moveAddsSpec : ChangeSpec := { name := "moveAdds", fn := fun _ => fun
  | [d] => { results := [.lit (.bool true)], args := [d] }
  | _ => none }
def moveAddsRow : OpenClaim := { program := "ytnaajldlloglkaagreatdoor", sum := "623671abb6f50071251e94f5c571ce4998f453143b5e736645cac2b0a4706d5a", func := "hermitage/hermitagelaw10.MoveAdds", spec := "moveAdds", inPlace := ["slices.overlaps[hermitage/api.Table]"], unfollowed := true, recurses := true, named := ["math/bits.deBruijn64tab"], apart := false, laid := [("math/bits.deBruijn64tab", laid_math_bits_deBruijn64tab)] }
def MoveAddsSaid : Prop := moveAddsRow.holds Tryz.pinned (OpenSpec.ofChange moveAddsSpec)

/-- ITS FALSE NEIGHBOUR: 'it returns false'. Refute it at one input. -/
def moveAddsWrong : ChangeSpec := { name := "moveAdds", fn := fun _ => fun
  | [d] => { results := [.lit (.bool false)], args := [d] }
  | _ => none }
def MoveAddsWrongFalsely : Prop := moveAddsRow.holds Tryz.pinned (OpenSpec.ofChange moveAddsWrong)

/-- 'hermitagelaw10.MoveRemoves': WHATEVER THE INPUT: true; the input reads as it did. -/
def moveRemovesSpec : ChangeSpec := { name := "moveRemoves", fn := fun _ => fun
  | [d] => { results := [.lit (.bool true)], args := [d] }
  | _ => none }
def moveRemovesRow : OpenClaim := { program := "ytnaajldlloglkaagreatdoor", sum := "623671abb6f50071251e94f5c571ce4998f453143b5e736645cac2b0a4706d5a", func := "hermitage/hermitagelaw10.MoveRemoves", spec := "moveRemoves", inPlace := ["slices.overlaps[hermitage/api.Table]"], unfollowed := true, recurses := true, named := ["math/bits.deBruijn64tab"], apart := false, laid := [("math/bits.deBruijn64tab", laid_math_bits_deBruijn64tab)] }
def MoveRemovesSaid : Prop := moveRemovesRow.holds Tryz.pinned (OpenSpec.ofChange moveRemovesSpec)

/-- ITS FALSE NEIGHBOUR: 'it returns false'. Refute it at one input. -/
def moveRemovesWrong : ChangeSpec := { name := "moveRemoves", fn := fun _ => fun
  | [d] => { results := [.lit (.bool false)], args := [d] }
  | _ => none }
def MoveRemovesWrongFalsely : Prop := moveRemovesRow.holds Tryz.pinned (OpenSpec.ofChange moveRemovesWrong)

/-- 'hermitagelaw10.MoveTidies': WHATEVER THE INPUT: true; the input reads as it did. -/
def moveTidiesSpec : ChangeSpec := { name := "moveTidies", fn := fun _ => fun
  | [d] => { results := [.lit (.bool true)], args := [d] }
  | _ => none }
def moveTidiesRow : OpenClaim := { program := "ytnaajldlloglkaagreatdoor", sum := "623671abb6f50071251e94f5c571ce4998f453143b5e736645cac2b0a4706d5a", func := "hermitage/hermitagelaw10.MoveTidies", spec := "moveTidies", inPlace := ["slices.overlaps[hermitage/api.Table]"], unfollowed := true, recurses := true, named := ["math/bits.deBruijn64tab"], apart := false, laid := [("math/bits.deBruijn64tab", laid_math_bits_deBruijn64tab)] }
def MoveTidiesSaid : Prop := moveTidiesRow.holds Tryz.pinned (OpenSpec.ofChange moveTidiesSpec)

/-- ITS FALSE NEIGHBOUR: 'it returns false'. Refute it at one input. -/
def moveTidiesWrong : ChangeSpec := { name := "moveTidies", fn := fun _ => fun
  | [d] => { results := [.lit (.bool false)], args := [d] }
  | _ => none }
def MoveTidiesWrongFalsely : Prop := moveTidiesRow.holds Tryz.pinned (OpenSpec.ofChange moveTidiesWrong)

/- THE SECOND FORM. 'bulk': how many values and letters a reading holds, each counted each time it is reached (what is shared counts as often as it is met; a slice's spare places count too). A statement '..UptoSaid' is the law's where the arguments, and the package variables that the reading takes, are together of bulk at most 1048576: NARROWER than '..Said'. Prove '..Said' where nothing that the law and all that it calls make is longer than what came in: it says more and counts as full. Else prove '..UptoSaid'. A law counts once. -/
mutual
def uptoBulk {H : Type} : DataW H → Nat
  | .lit (.string bytes) => bytes.length + 1
  | .lit _ => 1
  | .nil => 1
  | .ptr d => uptoBulk d + 1
  | .slice elems spare => uptoBulkAll elems + uptoBulkAll spare + 1
  | .agg parts => uptoBulkAll parts + 1
  | .iface _ d => uptoBulk d + 1
  | .map entries => uptoBulkEntries entries + 1
  | .held _ => 1
def uptoBulkAll {H : Type} : List (DataW H) → Nat
  | [] => 0
  | d :: r => uptoBulk d + uptoBulkAll r
def uptoBulkEntries {H : Type} : List (Lit × DataW H) → Nat
  | [] => 0
  | x :: r => uptoBulkEntry x + uptoBulkEntries r
def uptoBulkEntry {H : Type} : Lit × DataW H → Nat
  | (.string bytes, d) => bytes.length + uptoBulk d + 1
  | (_, d) => uptoBulk d + 1
 end
def uptoSmall : (H : Type) → List (DataW H) → Bool := fun _ ds => decide (uptoBulkAll ds ≤ 1048576)
def OpenSpec.upto (s : _root_.Go.ChangeSpec) : _root_.Go.OpenSpec := { _root_.Go.OpenSpec.ofChange s with cond := some uptoSmall }

/-- 'hermitagelaw10.MoveBack', WHERE WHAT IT READS IS OF BULK AT MOST 1048576: true; the input reads as it did. -/
def moveBackUptoRow : OpenClaim := { program := "ytnaajldlloglkaagreatdoor", sum := "623671abb6f50071251e94f5c571ce4998f453143b5e736645cac2b0a4706d5a", func := "hermitage/hermitagelaw10.MoveBack", spec := "moveBack", inPlace := ["slices.overlaps[hermitage/api.Table]"], unfollowed := true, recurses := true, named := ["math/bits.deBruijn64tab"], apart := false, laid := [("math/bits.deBruijn64tab", laid_math_bits_deBruijn64tab)], narrowed := true }
def MoveBackUptoSaid : Prop := moveBackUptoRow.holds Tryz.pinned (OpenSpec.upto moveBackSpec)

/-- 'hermitagelaw10.MoveAdds', WHERE WHAT IT READS IS OF BULK AT MOST 1048576: true; the input reads as it did. -/
def moveAddsUptoRow : OpenClaim := { program := "ytnaajldlloglkaagreatdoor", sum := "623671abb6f50071251e94f5c571ce4998f453143b5e736645cac2b0a4706d5a", func := "hermitage/hermitagelaw10.MoveAdds", spec := "moveAdds", inPlace := ["slices.overlaps[hermitage/api.Table]"], unfollowed := true, recurses := true, named := ["math/bits.deBruijn64tab"], apart := false, laid := [("math/bits.deBruijn64tab", laid_math_bits_deBruijn64tab)], narrowed := true }
def MoveAddsUptoSaid : Prop := moveAddsUptoRow.holds Tryz.pinned (OpenSpec.upto moveAddsSpec)

/-- 'hermitagelaw10.MoveRemoves', WHERE WHAT IT READS IS OF BULK AT MOST 1048576: true; the input reads as it did. -/
def moveRemovesUptoRow : OpenClaim := { program := "ytnaajldlloglkaagreatdoor", sum := "623671abb6f50071251e94f5c571ce4998f453143b5e736645cac2b0a4706d5a", func := "hermitage/hermitagelaw10.MoveRemoves", spec := "moveRemoves", inPlace := ["slices.overlaps[hermitage/api.Table]"], unfollowed := true, recurses := true, named := ["math/bits.deBruijn64tab"], apart := false, laid := [("math/bits.deBruijn64tab", laid_math_bits_deBruijn64tab)], narrowed := true }
def MoveRemovesUptoSaid : Prop := moveRemovesUptoRow.holds Tryz.pinned (OpenSpec.upto moveRemovesSpec)

/-- 'hermitagelaw10.MoveTidies', WHERE WHAT IT READS IS OF BULK AT MOST 1048576: true; the input reads as it did. -/
def moveTidiesUptoRow : OpenClaim := { program := "ytnaajldlloglkaagreatdoor", sum := "623671abb6f50071251e94f5c571ce4998f453143b5e736645cac2b0a4706d5a", func := "hermitage/hermitagelaw10.MoveTidies", spec := "moveTidies", inPlace := ["slices.overlaps[hermitage/api.Table]"], unfollowed := true, recurses := true, named := ["math/bits.deBruijn64tab"], apart := false, laid := [("math/bits.deBruijn64tab", laid_math_bits_deBruijn64tab)], narrowed := true }
def MoveTidiesUptoSaid : Prop := moveTidiesUptoRow.holds Tryz.pinned (OpenSpec.upto moveTidiesSpec)

end Rows
end Go.Proofs.YtnaajldlloglkaaGreatDoor
