/-
  DERIVED. GIVEN WITH THE SEED: THE CARDS: each row of YtnaajldlloglkaaDoorRows.lean that lists a variable, with what it lists TIED to the program's text (the seventh form; the later family's looks); each row that meets fmt, with fmt's text TOLD by the authors' own Lean function (tested against real Go, not proved from fmt's source: count such statements apart). THE CARD IS WHAT COUNTS. Prove the row's statement (the work); the ties are given (YtnaajldlloglkaaDoorTie.lean); close each card by the builder's one call (the guide's Derived/Test/ToyasCard.lean, 'card_holds'). Laid BY PROGRAM, IN A SANDBOX (cutbox-door.mjs). By AI agents, Wed Nov 11 2026. No macro, syntax, notation, axiom, sorry.
-/
import Derived.Test.YtnaajldlloglkaaDoorRows
import GoSem.ClaimSeven
namespace Go.Proofs.YtnaajldlloglkaaDoor
namespace Rows

/-- THE TIED CARD OF 'hermitagelaw1.SegMany'. -/
def segManyCard : Claim7 := { stood := { row := segManyRow, standIns := [], harness := (true, "46c452bc79bc5c53a83db1c59ae50d5bcec34ff9986be10abadca1b893f659c8"), looks := false }, kinds := [], alts := [], laidByText := true, laidKinds := [.data], laidTests := true, laidLooks := .later }
def SegManyCardSaid : Prop := Claim7.holds Tryd.pinned (.plain (OpenSpec.ofChange segManySpec)) segManyCard

/-- THE TIED CARD OF 'hermitagelaw1.SegTwos'. -/
def segTwosCard : Claim7 := { stood := { row := segTwosRow, standIns := [], harness := (true, "46c452bc79bc5c53a83db1c59ae50d5bcec34ff9986be10abadca1b893f659c8"), looks := false }, kinds := [], alts := [], laidByText := true, laidKinds := [.data], laidTests := true, laidLooks := .later }
def SegTwosCardSaid : Prop := Claim7.holds Tryd.pinned (.plain (OpenSpec.ofChange segTwosSpec)) segTwosCard

/-- THE TIED CARD OF 'hermitagelaw1.SegNots'. -/
def segNotsCard : Claim7 := { stood := { row := segNotsRow, standIns := [], harness := (true, "46c452bc79bc5c53a83db1c59ae50d5bcec34ff9986be10abadca1b893f659c8"), looks := false }, kinds := [], alts := [], laidByText := true, laidKinds := [.data], laidTests := true, laidLooks := .later }
def SegNotsCardSaid : Prop := Claim7.holds Tryd.pinned (.plain (OpenSpec.ofChange segNotsSpec)) segNotsCard

/-- THE TIED CARD OF 'hermitagelaw1.SegParts'. -/
def segPartsCard : Claim7 := { stood := { row := segPartsRow, standIns := [], harness := (true, "46c452bc79bc5c53a83db1c59ae50d5bcec34ff9986be10abadca1b893f659c8"), looks := false }, kinds := [], alts := [], laidByText := true, laidKinds := [.data], laidTests := true, laidLooks := .later }
def SegPartsCardSaid : Prop := Claim7.holds Tryd.pinned (.plain (OpenSpec.ofChange segPartsSpec)) segPartsCard

/-- THE TIED CARD OF 'hermitagelaw1.SegTells'. -/
def segTellsCard : Claim7 := { stood := { row := segTellsRow, standIns := [], harness := (true, "46c452bc79bc5c53a83db1c59ae50d5bcec34ff9986be10abadca1b893f659c8"), looks := false }, kinds := [], alts := [], laidByText := true, laidKinds := [.data], laidTests := true, laidLooks := .later }
def SegTellsCardSaid : Prop := Claim7.holds Tryd.pinned (.plain (OpenSpec.ofChange segTellsSpec)) segTellsCard

/-- THE TIED CARD OF 'hermitagelaw7.RoomBack'. -/
def roomBackCard : Claim7 := { stood := { row := roomBackRow, standIns := [], harness := (true, "46c452bc79bc5c53a83db1c59ae50d5bcec34ff9986be10abadca1b893f659c8"), looks := false }, kinds := [], alts := [], laidByText := true, laidKinds := [.data], laidTests := true, laidLooks := .later }
def RoomBackCardSaid : Prop := Claim7.holds Tryd.pinned (.plain (OpenSpec.ofChange roomBackSpec)) roomBackCard

/-- THE TIED CARD OF 'hermitagelaw7.RoomTakes'. -/
def roomTakesCard : Claim7 := { stood := { row := roomTakesRow, standIns := [], harness := (true, "46c452bc79bc5c53a83db1c59ae50d5bcec34ff9986be10abadca1b893f659c8"), looks := false }, kinds := [], alts := [], laidByText := true, laidKinds := [.data], laidTests := true, laidLooks := .later }
def RoomTakesCardSaid : Prop := Claim7.holds Tryd.pinned (.plain (OpenSpec.ofChange roomTakesSpec)) roomTakesCard

/-- THE TIED CARD OF 'hermitagelaw9.ChainDeep'. -/
def chainDeepCard : Claim7 := { stood := { row := chainDeepRow, standIns := [], harness := (true, "46c452bc79bc5c53a83db1c59ae50d5bcec34ff9986be10abadca1b893f659c8"), looks := false }, kinds := [], alts := [], laidByText := true, laidKinds := [.data], laidTests := true, laidLooks := .later }
def ChainDeepCardSaid : Prop := Claim7.holds Tryd.pinned (.plain (OpenSpec.ofChange chainDeepSpec)) chainDeepCard

/-- THE SECOND FORM's CARD OF 'hermitagelaw1.SegMany'. -/
def segManyUptoCard : Claim7 := { stood := { row := segManyUptoRow, standIns := [], harness := (true, "46c452bc79bc5c53a83db1c59ae50d5bcec34ff9986be10abadca1b893f659c8"), looks := false }, kinds := [], alts := [], laidByText := true, laidKinds := [.data], laidTests := true, laidLooks := .later }
def SegManyUptoCardSaid : Prop := Claim7.holds Tryd.pinned (.plain (OpenSpec.upto segManySpec)) segManyUptoCard

/-- THE SECOND FORM's CARD OF 'hermitagelaw1.SegTwos'. -/
def segTwosUptoCard : Claim7 := { stood := { row := segTwosUptoRow, standIns := [], harness := (true, "46c452bc79bc5c53a83db1c59ae50d5bcec34ff9986be10abadca1b893f659c8"), looks := false }, kinds := [], alts := [], laidByText := true, laidKinds := [.data], laidTests := true, laidLooks := .later }
def SegTwosUptoCardSaid : Prop := Claim7.holds Tryd.pinned (.plain (OpenSpec.upto segTwosSpec)) segTwosUptoCard

/-- THE SECOND FORM's CARD OF 'hermitagelaw1.SegNots'. -/
def segNotsUptoCard : Claim7 := { stood := { row := segNotsUptoRow, standIns := [], harness := (true, "46c452bc79bc5c53a83db1c59ae50d5bcec34ff9986be10abadca1b893f659c8"), looks := false }, kinds := [], alts := [], laidByText := true, laidKinds := [.data], laidTests := true, laidLooks := .later }
def SegNotsUptoCardSaid : Prop := Claim7.holds Tryd.pinned (.plain (OpenSpec.upto segNotsSpec)) segNotsUptoCard

/-- THE SECOND FORM's CARD OF 'hermitagelaw1.SegParts'. -/
def segPartsUptoCard : Claim7 := { stood := { row := segPartsUptoRow, standIns := [], harness := (true, "46c452bc79bc5c53a83db1c59ae50d5bcec34ff9986be10abadca1b893f659c8"), looks := false }, kinds := [], alts := [], laidByText := true, laidKinds := [.data], laidTests := true, laidLooks := .later }
def SegPartsUptoCardSaid : Prop := Claim7.holds Tryd.pinned (.plain (OpenSpec.upto segPartsSpec)) segPartsUptoCard

/-- THE SECOND FORM's CARD OF 'hermitagelaw1.SegTells'. -/
def segTellsUptoCard : Claim7 := { stood := { row := segTellsUptoRow, standIns := [], harness := (true, "46c452bc79bc5c53a83db1c59ae50d5bcec34ff9986be10abadca1b893f659c8"), looks := false }, kinds := [], alts := [], laidByText := true, laidKinds := [.data], laidTests := true, laidLooks := .later }
def SegTellsUptoCardSaid : Prop := Claim7.holds Tryd.pinned (.plain (OpenSpec.upto segTellsSpec)) segTellsUptoCard

/-- THE SECOND FORM's CARD OF 'hermitagelaw7.RoomBack'. -/
def roomBackUptoCard : Claim7 := { stood := { row := roomBackUptoRow, standIns := [], harness := (true, "46c452bc79bc5c53a83db1c59ae50d5bcec34ff9986be10abadca1b893f659c8"), looks := false }, kinds := [], alts := [], laidByText := true, laidKinds := [.data], laidTests := true, laidLooks := .later }
def RoomBackUptoCardSaid : Prop := Claim7.holds Tryd.pinned (.plain (OpenSpec.upto roomBackSpec)) roomBackUptoCard

/-- THE SECOND FORM's CARD OF 'hermitagelaw7.RoomTakes'. -/
def roomTakesUptoCard : Claim7 := { stood := { row := roomTakesUptoRow, standIns := [], harness := (true, "46c452bc79bc5c53a83db1c59ae50d5bcec34ff9986be10abadca1b893f659c8"), looks := false }, kinds := [], alts := [], laidByText := true, laidKinds := [.data], laidTests := true, laidLooks := .later }
def RoomTakesUptoCardSaid : Prop := Claim7.holds Tryd.pinned (.plain (OpenSpec.upto roomTakesSpec)) roomTakesUptoCard

/-- THE SECOND FORM's CARD OF 'hermitagelaw9.ChainDeep'. -/
def chainDeepUptoCard : Claim7 := { stood := { row := chainDeepUptoRow, standIns := [], harness := (true, "46c452bc79bc5c53a83db1c59ae50d5bcec34ff9986be10abadca1b893f659c8"), looks := false }, kinds := [], alts := [], laidByText := true, laidKinds := [.data], laidTests := true, laidLooks := .later }
def ChainDeepUptoCardSaid : Prop := Claim7.holds Tryd.pinned (.plain (OpenSpec.upto chainDeepSpec)) chainDeepUptoCard
end Rows
end Go.Proofs.YtnaajldlloglkaaDoor
