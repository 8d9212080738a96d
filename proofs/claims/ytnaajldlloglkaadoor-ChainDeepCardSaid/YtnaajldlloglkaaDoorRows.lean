/-
  NARROWER THAN 'FOR EVERY INPUT', by the rows' own cells (each row's printed sentence says how): SegMany: laid · SegTwos: laid · SegNots: laid · SegParts: laid · SegTells: laid · RoomBack: laid · RoomTakes: laid · ChainDeep: laid.
  DERIVED. THE GIVEN ROWS OF THIS SEAT. 8 by the template 'for every input the law returns true; each argument reads behind the call as it read before'; 0 by the template 'total and deterministic' (their statements: YtnaajldlloglkaaDoorTotals.lean).
  GIVEN WITH THE SEED: the statements are not yours to turn. If you find one false, say at which input.
  Laid BY PROGRAM, IN A SANDBOX (cutbox-rows.mjs): the forced cells as the released guide's own fill.sh prints them over the translation f4bf830a5ad47c90… (all of the seat's roots in one cut). By AI agents, Wed Nov 11 2026. No macro, syntax, notation, axiom, sorry.
-/
import Derived.Test.YtnaajldlloglkaaDoorChecked
import GoSem.Claim
import GoSem.ClaimJoined
import GoSem.ClaimMapViews
import Derived.JoinedTies
import Derived.KernelRfl
namespace Go.Proofs.YtnaajldlloglkaaDoor
/- THE CELL 'sum', in the pinned program and in every row, IS THE sha256 OF THE DUMP (.gsa) THAT YtnaajldlloglkaaDoorProg.lean LOADS. Nothing in Lean hashes anything: it is a label: what it is worth is what the hold of that sum in a sandbox is worth. -/
noncomputable def Tryd.pinned : Pinned := { name := "ytnaajldlloglkaadoor", sum := "f4bf830a5ad47c903aa8f356bed21fcb3474cbf3e268cc463f7a8b731d72aac7", checked := Tryd.checked }
namespace Rows
def none {H : Type} : Left H := { results := [], args := [] }

/- WHAT THE LISTED PACKAGE-LEVEL VARIABLES READ AS WHEN THE CALL BEGINS. Each datum BY PROGRAM (the guide's laid-datum.mjs) off the statement by which the dump's own 'gosem.cut.vars' lays the variable. In a bare row this is a premise. The card (YtnaajldlloglkaaDoorCards.lean) ties it to the program's text. -/
def laid_math_bits_deBruijn64tab {H : Type} : DataW H := .agg [.lit (.int .u8 0), .lit (.int .u8 1), .lit (.int .u8 56), .lit (.int .u8 2), .lit (.int .u8 57), .lit (.int .u8 49), .lit (.int .u8 28), .lit (.int .u8 3), .lit (.int .u8 61), .lit (.int .u8 58), .lit (.int .u8 42), .lit (.int .u8 50), .lit (.int .u8 38), .lit (.int .u8 29), .lit (.int .u8 17), .lit (.int .u8 4), .lit (.int .u8 62), .lit (.int .u8 47), .lit (.int .u8 59), .lit (.int .u8 36), .lit (.int .u8 45), .lit (.int .u8 43), .lit (.int .u8 51), .lit (.int .u8 22), .lit (.int .u8 53), .lit (.int .u8 39), .lit (.int .u8 33), .lit (.int .u8 30), .lit (.int .u8 24), .lit (.int .u8 18), .lit (.int .u8 12), .lit (.int .u8 5), .lit (.int .u8 63), .lit (.int .u8 55), .lit (.int .u8 48), .lit (.int .u8 27), .lit (.int .u8 60), .lit (.int .u8 41), .lit (.int .u8 37), .lit (.int .u8 16), .lit (.int .u8 46), .lit (.int .u8 35), .lit (.int .u8 44), .lit (.int .u8 21), .lit (.int .u8 52), .lit (.int .u8 32), .lit (.int .u8 23), .lit (.int .u8 11), .lit (.int .u8 54), .lit (.int .u8 26), .lit (.int .u8 40), .lit (.int .u8 15), .lit (.int .u8 34), .lit (.int .u8 20), .lit (.int .u8 31), .lit (.int .u8 10), .lit (.int .u8 25), .lit (.int .u8 14), .lit (.int .u8 19), .lit (.int .u8 9), .lit (.int .u8 13), .lit (.int .u8 8), .lit (.int .u8 7), .lit (.int .u8 6)]

/-- 'hermitagelaw1.SegMany': WHATEVER THE INPUT: true; the input reads as it did. -/
def segManySpec : ChangeSpec := { name := "segMany", fn := fun _ => fun
  | [d] => { results := [.lit (.bool true)], args := [d] }
  | _ => none }
def segManyRow : OpenClaim := { program := "ytnaajldlloglkaadoor", sum := "f4bf830a5ad47c903aa8f356bed21fcb3474cbf3e268cc463f7a8b731d72aac7", func := "hermitage/hermitagelaw1.SegMany", spec := "segMany", named := ["math/bits.deBruijn64tab"], apart := false, laid := [("math/bits.deBruijn64tab", laid_math_bits_deBruijn64tab)] }
def SegManySaid : Prop := segManyRow.holds Tryd.pinned (OpenSpec.ofChange segManySpec)

/-- ITS FALSE NEIGHBOUR: 'it returns false'. Refute it at one input. -/
def segManyWrong : ChangeSpec := { name := "segMany", fn := fun _ => fun
  | [d] => { results := [.lit (.bool false)], args := [d] }
  | _ => none }
def SegManyWrongFalsely : Prop := segManyRow.holds Tryd.pinned (OpenSpec.ofChange segManyWrong)

/-- 'hermitagelaw1.SegTwos': WHATEVER THE INPUT: true; the input reads as it did. -/
def segTwosSpec : ChangeSpec := { name := "segTwos", fn := fun _ => fun
  | [d] => { results := [.lit (.bool true)], args := [d] }
  | _ => none }
def segTwosRow : OpenClaim := { program := "ytnaajldlloglkaadoor", sum := "f4bf830a5ad47c903aa8f356bed21fcb3474cbf3e268cc463f7a8b731d72aac7", func := "hermitage/hermitagelaw1.SegTwos", spec := "segTwos", unfollowed := true, recurses := true, named := ["math/bits.deBruijn64tab"], apart := false, laid := [("math/bits.deBruijn64tab", laid_math_bits_deBruijn64tab)] }
def SegTwosSaid : Prop := segTwosRow.holds Tryd.pinned (OpenSpec.ofChange segTwosSpec)

/-- ITS FALSE NEIGHBOUR: 'it returns false'. Refute it at one input. -/
def segTwosWrong : ChangeSpec := { name := "segTwos", fn := fun _ => fun
  | [d] => { results := [.lit (.bool false)], args := [d] }
  | _ => none }
def SegTwosWrongFalsely : Prop := segTwosRow.holds Tryd.pinned (OpenSpec.ofChange segTwosWrong)

/-- 'hermitagelaw1.SegNots': WHATEVER THE INPUT: true; the input reads as it did. -/
def segNotsSpec : ChangeSpec := { name := "segNots", fn := fun _ => fun
  | [d] => { results := [.lit (.bool true)], args := [d] }
  | _ => none }
def segNotsRow : OpenClaim := { program := "ytnaajldlloglkaadoor", sum := "f4bf830a5ad47c903aa8f356bed21fcb3474cbf3e268cc463f7a8b731d72aac7", func := "hermitage/hermitagelaw1.SegNots", spec := "segNots", unfollowed := true, recurses := true, named := ["math/bits.deBruijn64tab"], apart := false, laid := [("math/bits.deBruijn64tab", laid_math_bits_deBruijn64tab)] }
def SegNotsSaid : Prop := segNotsRow.holds Tryd.pinned (OpenSpec.ofChange segNotsSpec)

/-- ITS FALSE NEIGHBOUR: 'it returns false'. Refute it at one input. -/
def segNotsWrong : ChangeSpec := { name := "segNots", fn := fun _ => fun
  | [d] => { results := [.lit (.bool false)], args := [d] }
  | _ => none }
def SegNotsWrongFalsely : Prop := segNotsRow.holds Tryd.pinned (OpenSpec.ofChange segNotsWrong)

/-- 'hermitagelaw1.SegParts': WHATEVER THE INPUT: true; the input reads as it did. -/
def segPartsSpec : ChangeSpec := { name := "segParts", fn := fun _ => fun
  | [d] => { results := [.lit (.bool true)], args := [d] }
  | _ => none }
def segPartsRow : OpenClaim := { program := "ytnaajldlloglkaadoor", sum := "f4bf830a5ad47c903aa8f356bed21fcb3474cbf3e268cc463f7a8b731d72aac7", func := "hermitage/hermitagelaw1.SegParts", spec := "segParts", unfollowed := true, recurses := true, named := ["math/bits.deBruijn64tab"], apart := false, laid := [("math/bits.deBruijn64tab", laid_math_bits_deBruijn64tab)] }
def SegPartsSaid : Prop := segPartsRow.holds Tryd.pinned (OpenSpec.ofChange segPartsSpec)

/-- ITS FALSE NEIGHBOUR: 'it returns false'. Refute it at one input. -/
def segPartsWrong : ChangeSpec := { name := "segParts", fn := fun _ => fun
  | [d] => { results := [.lit (.bool false)], args := [d] }
  | _ => none }
def SegPartsWrongFalsely : Prop := segPartsRow.holds Tryd.pinned (OpenSpec.ofChange segPartsWrong)

/-- 'hermitagelaw1.SegTells': WHATEVER THE INPUT: true; the input reads as it did. -/
def segTellsSpec : ChangeSpec := { name := "segTells", fn := fun _ => fun
  | [d] => { results := [.lit (.bool true)], args := [d] }
  | _ => none }
def segTellsRow : OpenClaim := { program := "ytnaajldlloglkaadoor", sum := "f4bf830a5ad47c903aa8f356bed21fcb3474cbf3e268cc463f7a8b731d72aac7", func := "hermitage/hermitagelaw1.SegTells", spec := "segTells", unfollowed := true, recurses := true, named := ["math/bits.deBruijn64tab"], apart := false, laid := [("math/bits.deBruijn64tab", laid_math_bits_deBruijn64tab)] }
def SegTellsSaid : Prop := segTellsRow.holds Tryd.pinned (OpenSpec.ofChange segTellsSpec)

/-- ITS FALSE NEIGHBOUR: 'it returns false'. Refute it at one input. -/
def segTellsWrong : ChangeSpec := { name := "segTells", fn := fun _ => fun
  | [d] => { results := [.lit (.bool false)], args := [d] }
  | _ => none }
def SegTellsWrongFalsely : Prop := segTellsRow.holds Tryd.pinned (OpenSpec.ofChange segTellsWrong)

/-- 'hermitagelaw7.RoomBack': WHATEVER THE INPUT: true; the input reads as it did. -/
def roomBackSpec : ChangeSpec := { name := "roomBack", fn := fun _ => fun
  | [d] => { results := [.lit (.bool true)], args := [d] }
  | _ => none }
def roomBackRow : OpenClaim := { program := "ytnaajldlloglkaadoor", sum := "f4bf830a5ad47c903aa8f356bed21fcb3474cbf3e268cc463f7a8b731d72aac7", func := "hermitage/hermitagelaw7.RoomBack", spec := "roomBack", unfollowed := true, recurses := true, named := ["math/bits.deBruijn64tab"], apart := false, laid := [("math/bits.deBruijn64tab", laid_math_bits_deBruijn64tab)] }
def RoomBackSaid : Prop := roomBackRow.holds Tryd.pinned (OpenSpec.ofChange roomBackSpec)

/-- ITS FALSE NEIGHBOUR: 'it returns false'. Refute it at one input. -/
def roomBackWrong : ChangeSpec := { name := "roomBack", fn := fun _ => fun
  | [d] => { results := [.lit (.bool false)], args := [d] }
  | _ => none }
def RoomBackWrongFalsely : Prop := roomBackRow.holds Tryd.pinned (OpenSpec.ofChange roomBackWrong)

/-- 'hermitagelaw7.RoomTakes': WHATEVER THE INPUT: true; the input reads as it did. -/
def roomTakesSpec : ChangeSpec := { name := "roomTakes", fn := fun _ => fun
  | [d] => { results := [.lit (.bool true)], args := [d] }
  | _ => none }
def roomTakesRow : OpenClaim := { program := "ytnaajldlloglkaadoor", sum := "f4bf830a5ad47c903aa8f356bed21fcb3474cbf3e268cc463f7a8b731d72aac7", func := "hermitage/hermitagelaw7.RoomTakes", spec := "roomTakes", unfollowed := true, recurses := true, named := ["math/bits.deBruijn64tab"], apart := false, laid := [("math/bits.deBruijn64tab", laid_math_bits_deBruijn64tab)] }
def RoomTakesSaid : Prop := roomTakesRow.holds Tryd.pinned (OpenSpec.ofChange roomTakesSpec)

/-- ITS FALSE NEIGHBOUR: 'it returns false'. Refute it at one input. -/
def roomTakesWrong : ChangeSpec := { name := "roomTakes", fn := fun _ => fun
  | [d] => { results := [.lit (.bool false)], args := [d] }
  | _ => none }
def RoomTakesWrongFalsely : Prop := roomTakesRow.holds Tryd.pinned (OpenSpec.ofChange roomTakesWrong)

/-- 'hermitagelaw9.ChainDeep': WHATEVER THE INPUT: true; the input reads as it did. -/
def chainDeepSpec : ChangeSpec := { name := "chainDeep", fn := fun _ => fun
  | [d] => { results := [.lit (.bool true)], args := [d] }
  | _ => none }
def chainDeepRow : OpenClaim := { program := "ytnaajldlloglkaadoor", sum := "f4bf830a5ad47c903aa8f356bed21fcb3474cbf3e268cc463f7a8b731d72aac7", func := "hermitage/hermitagelaw9.ChainDeep", spec := "chainDeep", unfollowed := true, recurses := true, named := ["math/bits.deBruijn64tab"], apart := false, laid := [("math/bits.deBruijn64tab", laid_math_bits_deBruijn64tab)] }
def ChainDeepSaid : Prop := chainDeepRow.holds Tryd.pinned (OpenSpec.ofChange chainDeepSpec)

/-- ITS FALSE NEIGHBOUR: 'it returns false'. Refute it at one input. -/
def chainDeepWrong : ChangeSpec := { name := "chainDeep", fn := fun _ => fun
  | [d] => { results := [.lit (.bool false)], args := [d] }
  | _ => none }
def ChainDeepWrongFalsely : Prop := chainDeepRow.holds Tryd.pinned (OpenSpec.ofChange chainDeepWrong)

/- THE SECOND FORM. 'bulk': how many values and letters a reading holds, each counted each time it is reached (what is shared counts as often as it is met; a slice's spare places count too). A statement '..UptoSaid' is the law's where the arguments, and the package variables that the reading takes, are together of bulk at most 1048576: NARROWER than '..Said'. Prove '..Said' where nothing that the law and all that it calls make is longer than what came in: it says more and counts as full. Else prove '..UptoSaid'. A law counts once. -/
mutual
def uptoBulk {H : Type} : DataW H → Nat
  | .lit (.string bytes) => bytes.length + 1
  | .lit _ => 1
  | .nil => 1
  | .ptr d => uptoBulk d + 1
  | .slice elems spare => uptoBulkAll elems + uptoBulkAll spare + 1
  | .agg parts => uptoBulkAll parts + 1
  | .iface _ d => uptoBulk d + 1
  | .map entries => uptoBulkEntries entries + 1
  | .held _ => 1
def uptoBulkAll {H : Type} : List (DataW H) → Nat
  | [] => 0
  | d :: r => uptoBulk d + uptoBulkAll r
def uptoBulkEntries {H : Type} : List (Lit × DataW H) → Nat
  | [] => 0
  | x :: r => uptoBulkEntry x + uptoBulkEntries r
def uptoBulkEntry {H : Type} : Lit × DataW H → Nat
  | (.string bytes, d) => bytes.length + uptoBulk d + 1
  | (_, d) => uptoBulk d + 1
 end
def uptoSmall : (H : Type) → List (DataW H) → Bool := fun _ ds => decide (uptoBulkAll ds ≤ 1048576)
def OpenSpec.upto (s : _root_.Go.ChangeSpec) : _root_.Go.OpenSpec := { _root_.Go.OpenSpec.ofChange s with cond := some uptoSmall }

/-- 'hermitagelaw1.SegMany', WHERE WHAT IT READS IS OF BULK AT MOST 1048576: true; the input reads as it did. -/
def segManyUptoRow : OpenClaim := { program := "ytnaajldlloglkaadoor", sum := "f4bf830a5ad47c903aa8f356bed21fcb3474cbf3e268cc463f7a8b731d72aac7", func := "hermitage/hermitagelaw1.SegMany", spec := "segMany", named := ["math/bits.deBruijn64tab"], apart := false, laid := [("math/bits.deBruijn64tab", laid_math_bits_deBruijn64tab)], narrowed := true }
def SegManyUptoSaid : Prop := segManyUptoRow.holds Tryd.pinned (OpenSpec.upto segManySpec)

/-- 'hermitagelaw1.SegTwos', WHERE WHAT IT READS IS OF BULK AT MOST 1048576: true; the input reads as it did. -/
def segTwosUptoRow : OpenClaim := { program := "ytnaajldlloglkaadoor", sum := "f4bf830a5ad47c903aa8f356bed21fcb3474cbf3e268cc463f7a8b731d72aac7", func := "hermitage/hermitagelaw1.SegTwos", spec := "segTwos", unfollowed := true, recurses := true, named := ["math/bits.deBruijn64tab"], apart := false, laid := [("math/bits.deBruijn64tab", laid_math_bits_deBruijn64tab)], narrowed := true }
def SegTwosUptoSaid : Prop := segTwosUptoRow.holds Tryd.pinned (OpenSpec.upto segTwosSpec)

/-- 'hermitagelaw1.SegNots', WHERE WHAT IT READS IS OF BULK AT MOST 1048576: true; the input reads as it did. -/
def segNotsUptoRow : OpenClaim := { program := "ytnaajldlloglkaadoor", sum := "f4bf830a5ad47c903aa8f356bed21fcb3474cbf3e268cc463f7a8b731d72aac7", func := "hermitage/hermitagelaw1.SegNots", spec := "segNots", unfollowed := true, recurses := true, named := ["math/bits.deBruijn64tab"], apart := false, laid := [("math/bits.deBruijn64tab", laid_math_bits_deBruijn64tab)], narrowed := true }
def SegNotsUptoSaid : Prop := segNotsUptoRow.holds Tryd.pinned (OpenSpec.upto segNotsSpec)

/-- 'hermitagelaw1.SegParts', WHERE WHAT IT READS IS OF BULK AT MOST 1048576: true; the input reads as it did. -/
def segPartsUptoRow : OpenClaim := { program := "ytnaajldlloglkaadoor", sum := "f4bf830a5ad47c903aa8f356bed21fcb3474cbf3e268cc463f7a8b731d72aac7", func := "hermitage/hermitagelaw1.SegParts", spec := "segParts", unfollowed := true, recurses := true, named := ["math/bits.deBruijn64tab"], apart := false, laid := [("math/bits.deBruijn64tab", laid_math_bits_deBruijn64tab)], narrowed := true }
def SegPartsUptoSaid : Prop := segPartsUptoRow.holds Tryd.pinned (OpenSpec.upto segPartsSpec)

/-- 'hermitagelaw1.SegTells', WHERE WHAT IT READS IS OF BULK AT MOST 1048576: true; the input reads as it did. -/
def segTellsUptoRow : OpenClaim := { program := "ytnaajldlloglkaadoor", sum := "f4bf830a5ad47c903aa8f356bed21fcb3474cbf3e268cc463f7a8b731d72aac7", func := "hermitage/hermitagelaw1.SegTells", spec := "segTells", unfollowed := true, recurses := true, named := ["math/bits.deBruijn64tab"], apart := false, laid := [("math/bits.deBruijn64tab", laid_math_bits_deBruijn64tab)], narrowed := true }
def SegTellsUptoSaid : Prop := segTellsUptoRow.holds Tryd.pinned (OpenSpec.upto segTellsSpec)

/-- 'hermitagelaw7.RoomBack', WHERE WHAT IT READS IS OF BULK AT MOST 1048576: true; the input reads as it did. -/
def roomBackUptoRow : OpenClaim := { program := "ytnaajldlloglkaadoor", sum := "f4bf830a5ad47c903aa8f356bed21fcb3474cbf3e268cc463f7a8b731d72aac7", func := "hermitage/hermitagelaw7.RoomBack", spec := "roomBack", unfollowed := true, recurses := true, named := ["math/bits.deBruijn64tab"], apart := false, laid := [("math/bits.deBruijn64tab", laid_math_bits_deBruijn64tab)], narrowed := true }
def RoomBackUptoSaid : Prop := roomBackUptoRow.holds Tryd.pinned (OpenSpec.upto roomBackSpec)

/-- 'hermitagelaw7.RoomTakes', WHERE WHAT IT READS IS OF BULK AT MOST 1048576: true; the input reads as it did. -/
def roomTakesUptoRow : OpenClaim := { program := "ytnaajldlloglkaadoor", sum := "f4bf830a5ad47c903aa8f356bed21fcb3474cbf3e268cc463f7a8b731d72aac7", func := "hermitage/hermitagelaw7.RoomTakes", spec := "roomTakes", unfollowed := true, recurses := true, named := ["math/bits.deBruijn64tab"], apart := false, laid := [("math/bits.deBruijn64tab", laid_math_bits_deBruijn64tab)], narrowed := true }
def RoomTakesUptoSaid : Prop := roomTakesUptoRow.holds Tryd.pinned (OpenSpec.upto roomTakesSpec)

/-- 'hermitagelaw9.ChainDeep', WHERE WHAT IT READS IS OF BULK AT MOST 1048576: true; the input reads as it did. -/
def chainDeepUptoRow : OpenClaim := { program := "ytnaajldlloglkaadoor", sum := "f4bf830a5ad47c903aa8f356bed21fcb3474cbf3e268cc463f7a8b731d72aac7", func := "hermitage/hermitagelaw9.ChainDeep", spec := "chainDeep", unfollowed := true, recurses := true, named := ["math/bits.deBruijn64tab"], apart := false, laid := [("math/bits.deBruijn64tab", laid_math_bits_deBruijn64tab)], narrowed := true }
def ChainDeepUptoSaid : Prop := chainDeepUptoRow.holds Tryd.pinned (OpenSpec.upto chainDeepSpec)

end Rows
end Go.Proofs.YtnaajldlloglkaaDoor
